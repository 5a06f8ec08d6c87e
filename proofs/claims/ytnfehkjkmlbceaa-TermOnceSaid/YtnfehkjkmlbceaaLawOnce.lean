/- The statement Rows.TermOnceSaid: proved by a second, deterministic reading of the program that is sound for every order of evaluation and every capacity; no condition beyond the given row. -/
import Derived.Test.YtnfehkjkmlbceaaTyE
/- A store that is none. -/
namespace Go.Proofs.Ytnfehkjkmlbceaa.Sx
open HP
section
variable {W : World} {E : Env} {H : Heap} {Γ : List HP}
theorem n_put (hE : EnvT E) (h : Holds H Γ) (x : T3) : ∃ H', go W E 19 [.ptr none, .agg (c3 x)] H = some (.tup [.int .i64 0, .int .i64 1], H') ∧ Holds H' Γ := by
  apply Ends.out
  have his := fun H => c_is_nil (W := W) (E := E) (H := H) hE.f38
  rw [go_code hE.f19 (by simp [sf19])]
  simp only [sf19, c3, his, ↓sxp, sxq, ↓reduceIte, Nat.reduceBEq, Nat.reduceLT, evP, evX, evR, blkOf, evA, storeA, Nat.reduceEqDiff, resL, resV, oneOrTup, Int.reduceEq, Int.reduceLT, Int.reduceLE, Int.reduceNeg, Int.reduceAdd, Int.reduceSub, Int.reduceMul, Int.reduceToNat, Nat.reduceAdd, noUnk, AV.cells, reduceCtorEq, Nat.reduceLeDiff, Cells.get, Cells.getN, Nat.reduceMul, ↓bnd_assoc]
  exact Ends.ret ⟨rfl, h.push.tail⟩
theorem n_draw (hE : EnvT E) (n : Int) : go W E 20 [.ptr none, .int .i64 n] H = some (.tup [.int .i64 0, .int .i64 1], H) := by
  have his := fun H => c_is_nil (W := W) (E := E) (H := H) hE.f38
  rw [go_code hE.f20 (by simp [sf20])]
  simp only [sf20, his, ↓sxp, sxq, ↓reduceIte, Nat.reduceBEq, Nat.reduceLT, evP, evX, evR, blkOf, evA, storeA, Nat.reduceEqDiff, resL, resV, oneOrTup, Int.reduceEq, Int.reduceLT, Int.reduceLE, Int.reduceNeg, Int.reduceAdd, Int.reduceSub, Int.reduceMul, Int.reduceToNat, Nat.reduceAdd, noUnk, AV.cells, reduceCtorEq, Nat.reduceLeDiff, Cells.get, Cells.getN, Nat.reduceMul, ↓bnd_assoc]
theorem n_text (hE : EnvT E) (v : AV) : go W E 21 [.ptr none, v] H = some (.tup [.int .i64 0, .int .i64 1], H) := by
  have his := fun H => c_is_nil (W := W) (E := E) (H := H) hE.f38
  rw [go_code hE.f21 (by simp [sf21])]
  simp only [sf21, his, ↓sxp, sxq, ↓reduceIte, Nat.reduceBEq, Nat.reduceLT, evP, evX, evR, blkOf, evA, storeA, Nat.reduceEqDiff, resL, resV, oneOrTup, Int.reduceEq, Int.reduceLT, Int.reduceLE, Int.reduceNeg, Int.reduceAdd, Int.reduceSub, Int.reduceMul, Int.reduceToNat, Nat.reduceAdd, noUnk, AV.cells, reduceCtorEq, Nat.reduceLeDiff, Cells.get, Cells.getN, Nat.reduceMul, ↓bnd_assoc]
theorem n_len (hE : EnvT E) : go W E 12 [.ptr none] H = some (.int .i64 0, H) := by
  have his := fun H => c_is_nil (W := W) (E := E) (H := H) hE.f38
  rw [go_code hE.f12 (by simp [sf12])]
  simp only [sf12, his, ↓sxp, sxq, ↓reduceIte, Nat.reduceBEq, Nat.reduceLT, evP, evX, evR, blkOf, evA, storeA, Nat.reduceEqDiff, resL, resV, oneOrTup, Int.reduceEq, Int.reduceLT, Int.reduceLE, Int.reduceNeg, Int.reduceAdd, Int.reduceSub, Int.reduceMul, Int.reduceToNat, Nat.reduceAdd, noUnk, AV.cells, reduceCtorEq, Nat.reduceLeDiff, Cells.get, Cells.getN, Nat.reduceMul, ↓bnd_assoc]
theorem n_size (hE : EnvT E) (h : Holds H Γ) (n : Int) : ∃ H', go W E 17 [.ptr none, .int .i64 n] H = some (.int .i64 0, H') ∧ Holds H' Γ := by
  apply Ends.out
  have his := fun H => c_is_nil (W := W) (E := E) (H := H) hE.f38
  rw [go_code hE.f17 (by simp [sf17])]
  simp only [sf17, his, ↓sxp, sxq, ↓reduceIte, Nat.reduceBEq, Nat.reduceLT, evP, evX, evR, blkOf, evA, storeA, Nat.reduceEqDiff, resL, resV, oneOrTup, Int.reduceEq, Int.reduceLT, Int.reduceLE, Int.reduceNeg, Int.reduceAdd, Int.reduceSub, Int.reduceMul, Int.reduceToNat, Nat.reduceAdd, noUnk, AV.cells, reduceCtorEq, Nat.reduceLeDiff, Cells.get, Cells.getN, Nat.reduceMul, ↓bnd_assoc]
  exact Ends.ret ⟨rfl, h.push.tail⟩
theorem n_all (hE : EnvT E) : go W E 13 [.ptr none] H = some (.fn 39 [] [.ptr (some ⟨.own H.next, 0⟩)], H.push (.cells (.lst [.ptr none]) 25 none)) := by
  rw [go_code hE.f13 (by simp [sf13])]
  simp only [sf13, ↓sxp, sxq, ↓reduceIte, Nat.reduceBEq, Nat.reduceLT, evP, evX, evR, blkOf, evA, storeA, Nat.reduceEqDiff, resL, resV, oneOrTup, Int.reduceEq, Int.reduceLT, Int.reduceLE, Int.reduceNeg, Int.reduceAdd, Int.reduceSub, Int.reduceMul, Int.reduceToNat, Nat.reduceAdd, noUnk, AV.cells, reduceCtorEq, Nat.reduceLeDiff, Cells.get, Cells.getN, Nat.reduceMul, ↓bnd_assoc]
theorem Fin.range0 {β : Type} {Q : β → Prop} {k : Lv × Fr × Heap → Option β} {bx : Nat} {tm : Tm} {g : SX} {ps : List Nat} {asg body : SC} {df : List Nat} (hE : EnvT E)
    (hg : evX tm g = .fn 39 [] [.ptr (some ⟨.own bx, 0⟩)]) (h : Holds H (blk bx [.ptr none] 25 :: Γ))
    (hk : ∀ d H', Holds H' (mark d :: blk bx [.ptr none] 25 :: Γ) → Fin Q (k (.normal, ⟨tm, d :: df, none⟩, H'))) :
    Fin Q (bnd (run W E (.rangeFunc g ps asg body) ⟨tm, df, none⟩ H) k) := by
  have h1 := h.pusho (o := .deferred true) rfl
  have h2 := h1.pusho (o := .loop .ready none tm ps asg body H.next) rfl
  rw [run_step, step_range (d := H.next) (H1 := H.push (.deferred true)) (df := H.next :: df) (h := 39) (first := []) (cap := [.ptr (some ⟨.own bx, 0⟩)]) W E _ _ _ _ _ _ _ hg rfl]
  have hbx := (h2.ord [2]).get
  have h3 : Holds _ (ready (H.push (.deferred true)).next tm ps asg body H.next :: mark H.next :: blk bx [.ptr none] 25 :: Γ) := h2
  generalize hl : (H.push (.deferred true)).next = l at *
  generalize hH : (H.push (.deferred true)).push (.loop .ready none tm ps asg body H.next) = H2 at *
  generalize hd : H.next = d at *
  have hgo : go W E 39 ([] ++ [.yld l] ++ [.ptr (some ⟨.own bx, 0⟩)]) H2 = some (.tup [], H2) := by
    rw [go_code hE.f39 (by simp [sf39])]
    simp only [sf39, ↓hbx, n_len hE, run_loop, lp39_0, ↓sxp, sxq, ↓reduceIte, Nat.reduceBEq, Nat.reduceLT, evP, evX, evR, blkOf, evA, storeA, Nat.reduceEqDiff, resL, resV, oneOrTup, Int.reduceEq, Int.reduceLT, Int.reduceLE, Int.reduceNeg, Int.reduceAdd, Int.reduceSub, Int.reduceMul, Int.reduceToNat, Nat.reduceAdd, noUnk, AV.cells, reduceCtorEq, Nat.reduceLeDiff, Cells.get, Cells.getN, Nat.reduceMul, ↓bnd_assoc]
  have e' : callS W E (run W E) 39 ([] ++ [.yld l] ++ [.ptr (some ⟨.own bx, 0⟩)]) H2 = some (.tup [], H2) := hgo
  rw [e', bnd_some]
  have h4 := h3.seto (o' := .loop .exhausted none tm ps asg body d) rfl
  have : rangeEnd ⟨tm, df, none⟩ l (d :: df) H2 = some (.normal, ⟨tm, d :: df, none⟩, H2.setAt l (.loop .exhausted none tm ps asg body d)) := by
    simp only [rangeEnd, h3.geto]
    simp
  rw [this, bnd_some]
  exact hk d _ h4.tail
end
end Go.Proofs.Ytnfehkjkmlbceaa.Sx

/- The plain law of TermOnce. -/
namespace Go.Proofs.Ytnfehkjkmlbceaa.Sx
structure Once (S : MS) : Prop where
  i : Inv S (S.T.map (·.1))
  nd : S.L.Nodup
theorem nodup_snoc {L : List T3} {x : T3} (h : L.Nodup) (hx : numOf x L = none) : (L ++ [x]).Nodup := by
  rw [List.nodup_append]
  refine ⟨h, by simp, fun a ha b hb => ?_⟩
  simp at hb; subst hb
  exact fun e => numOf_none hx (e ▸ ha)
theorem Once.put {S : MS} (h : Once S) (x : T3) : Once (putM S x).2.2 ∧ ((putM S x).2.1 = 0 ∧ hasM (putM S x).2.2.L (putM S x).1 0 = true ∧ getM (putM S x).2.2 (putM S x).1 = x ∨ (putM S x).2.1 = 2 ∧ (putM S x).2.2.L.length = S.L.length) := by
  obtain ⟨_, h2, h3⟩ := h.i.put x
  unfold putM at h2 h3 ⊢
  cases hm : mayM S.L S.T.length x with
  | false => exact ⟨h, .inr ⟨rfl, rfl⟩⟩
  | true =>
    rw [hm] at h2 h3
    cases hn : numOf x S.L with
    | some n =>
      have hx := numOf_some hn
      refine ⟨h, .inl ⟨rfl, by simp [hasM_in hx], getM_in hx⟩⟩
    | none =>
      rw [hn] at h2 h3
      have hx : (S.L ++ [x])[S.L.length]? = some x := by simp
      refine ⟨⟨by simpa using h2, nodup_snoc h.nd hn⟩, .inl ⟨rfl, by simp [hasM_in hx], getM_in (S := { S with L := S.L ++ [x], N := addN S.N x }) hx⟩⟩
theorem Once.draw {S : MS} (h : Once S) (k : Int) : Once (drawM S k).2.2 ∧ ((drawM S k).2.1 = 0 ∧ (drawM S k).1 = S.L.length ∧ (drawM S k).2.2.L.length = S.L.length + 1 ∨ (drawM S k).2.1 = 2 ∨ (drawM S k).2.1 = 3) := by
  obtain ⟨_, h2, h3, h4, h5⟩ := h.i.draw k
  have hI : Inv (drawM S k).2.2 ((drawM S k).2.2.T.map (·.1)) := by rw [h3]; exact h2
  unfold drawM at hI ⊢
  cases hs : sortM k with
  | false => exact ⟨h, .inr (.inl rfl)⟩
  | true =>
    rw [hs] at hI
    by_cases ht : 4611686018427387904 < nxt_ S k
    · simp only [if_true, if_pos ht]
      exact ⟨h, .inr (.inr trivial)⟩
    · simp only [if_true, if_neg ht] at hI ⊢
      exact ⟨⟨hI, nodup_snoc h.nd (h5 hs (by omega))⟩, .inl ⟨trivial, trivial, by simp⟩⟩
theorem Once.text {S : MS} (h : Once S) {b : List UInt8} (hb : b.length ≤ 100) : Once (textM S b) ∧ hasM (textM S b).L (textN S b : Int) 9 = true ∧ bytesM (textM S b) (textN S b : Int) = b := by
  obtain ⟨_, h2⟩ := h.i.text hb
  have hI : Inv (textM S b) ((textM S b).T.map (·.1)) := by rw [h2.t]; exact h2
  have key : ∀ (S : MS) (n i : Nat), S.L[n]? = some (9, (i : Int), 0) → (hi : i < S.T.length) → S.T[i].1 = b → hasM S.L (n : Int) 9 = true ∧ bytesM S (n : Int) = b := fun S n i hn hi hb => by
    refine ⟨by simp [hasM_in hn], ?_⟩
    simp only [bytesM, hasM_in hn]
    simp [List.getD_eq_getElem?_getD, hn, List.getElem?_eq_getElem hi, hb]
  unfold textM at hI ⊢
  unfold textN
  cases hf : S.T.find? fun x => x.1 = b with
  | some x =>
    obtain ⟨i, hi, hx⟩ := List.getElem_of_mem (List.mem_of_find?_eq_some hf)
    have hxb : x.1 = b := by simpa using List.find?_some hf
    have := numOf_some (h.i.tx i hi)
    rw [hx] at this
    exact ⟨h, key S x.2 i this hi (by rw [hx]; exact hxb)⟩
  | none =>
    rw [hf] at hI
    refine ⟨⟨hI, nodup_snoc h.nd h.i.fresh⟩, ?_⟩
    exact key { S with L := S.L ++ [(9, (S.T.length : Int), 0)], T := S.T ++ [(b, S.L.length)] } S.L.length S.T.length (by simp) (by simp) (by simp)
theorem once0 : Once S0 := ⟨inv0, by simp [S0]⟩
/-- Sizes grow. -/
theorem sz_less {L : List T3} (hw : WFL L) {i : Nat} {x : T3} (hx : L[i]? = some x) (h1 : x.1 ≠ 1) (h9 : x.1 ≠ 9) (hs : (szs L).getD i 0 < 1048576) : (szs L).getD x.2.1.toNat 0 < (szs L).getD i 0 := by
  obtain ⟨w1, w2⟩ := hw i x hx
  obtain ⟨a0, a1⟩ := w1 h1 h9
  have hi := (List.getElem?_eq_some_iff.1 hx).1
  have hg := szs_get hx
  rw [List.getD_eq_getElem?_getD (i := i), hg] at hs ⊢
  simp only [Option.getD_some] at hs ⊢
  have hk : ∀ a : Nat, a < i → ((szs L).take i).getD a 0 = (szs L).getD a 0 := fun a ha => by
    rw [List.getD_eq_getElem?_getD, List.getD_eq_getElem?_getD, List.getElem?_take_of_lt ha]
  have hpos : ∀ a : Nat, 0 ≤ (szs L).getD a 0 := fun a => by
    rw [List.getD_eq_getElem?_getD]
    cases hq : (szs L)[a]? with
    | none => simp
    | some v => have := szs_pos v (List.mem_of_getElem? hq); simp; omega
  unfold szStep at hs ⊢
  split at hs
  · omega
  · rename_i hn
    rw [if_neg hn]
    unfold szRaw
    rw [if_neg (by simp [h1, h9]), hk _ (by omega)]
    split
    · rename_i hc
      obtain ⟨b0, b1⟩ := w2 hc
      rw [hk _ (by omega)]
      have := hpos x.2.2.toNat
      omega
    · omega
theorem eqL3b (x y : T3) : eqKey (.agg [.i, .i, .i]) (.agg (c3 x)) (.agg (c3 y)) = some (decide (x = y)) := eqL3 x y
/-- The terms that were met. -/
def metM (L : List T3) : List (AV × AV) := L.map fun x => (.agg (c3 x), .bool true)
theorem met_find {x : T3} : ∀ {L : List T3} (i : Nat), x ∉ L → findK (.agg [.i, .i, .i]) (.agg (c3 x)) (metM L) i = some none := by
  intro L
  induction L with
  | nil => intro i _; rfl
  | cons y L ih =>
    intro i hx
    simp only [List.mem_cons, not_or] at hx
    simp only [metM, List.map_cons, findK, eqL3b, decide_eq_false hx.1]
    exact ih (i + 1) hx.2
theorem met_upd {x : T3} {L : List T3} (h : x ∉ L) : updK (.agg [.i, .i, .i]) (metM L) (.agg (c3 x)) (.bool true) = some (metM (L ++ [x])) := by
  simp only [updK, met_find 0 h]
  simp [metM]
end Go.Proofs.Ytnfehkjkmlbceaa.Sx

/- TermOnce: the loop of deeds. -/
namespace Go.Proofs.Ytnfehkjkmlbceaa.Sx
open HP
section
variable {W : World} {E : Env} {H : Heap} {Γ : List HP}
theorem once_loop {ds : List Do1} {v : AV} {p bs bm br : Nat} {df : List Nat} (hE : EnvT E) (hv : Dos W ds v) (hf : fewL ds = true) (hd : ds.length ≤ 30) : ∀ (m i : Nat) (A : Tm) (H : Heap) (S : MS), i + m = ds.length → getX A 2 = .ptr (some ⟨.own br, 0⟩) → getX A 10 = .ptr (some ⟨.own bs, 0⟩) → getX A 11 = .ptr (some ⟨.own bm, 0⟩) → getX A 68 = v → getX A 69 = .int .i64 ds.length → getX A 70 = .int .i64 i →
    Once S → S.L.length ≤ i → S.T.length ≤ i → Holds H (storeP W p S :: blk bs [.ptr (some ⟨.own p, 0⟩)] 25 :: Γ) →
    ∃ lv A' H', run W E (.loop lp4_1) ⟨A, df, none⟩ H = some (lv, ⟨A', df, none⟩, H') ∧ (lv = .exit 2 ∧ getX A' 2 = .ptr (some ⟨.own br, 0⟩) ∧ getX A' 10 = .ptr (some ⟨.own bs, 0⟩) ∧ getX A' 11 = .ptr (some ⟨.own bm, 0⟩) ∧
      ∃ S, Once S ∧ S.L.length ≤ 30 ∧ Holds H' (storeP W p S :: blk bs [.ptr (some ⟨.own p, 0⟩)] 25 :: Γ)) := by
  have hlp : ∀ f H, run W E lp4_1 f H = run W E lp4_1 f H := fun _ _ => rfl
  conv at hlp => enter [f, H, 2]; unfold lp4_1
  obtain ⟨hlen, hva, hget⟩ := hv
  intro m
  induction m with
  | zero =>
    intro i A H S him a2 a10 a11 a68 a69 a70 hi hL hT h
    have : i = ds.length := by omega
    subst this
    have hlt : ¬ (ds.length : Int) < ds.length := by omega
    rw [run_loop]
    simp only [hlp, a69, a70, hlt, ↓sxp, sxq, ↓reduceIte, Nat.reduceBEq, Nat.reduceLT, evP, evX, evR, blkOf, evA, storeA, Nat.reduceEqDiff, resL, resV, oneOrTup, Int.reduceEq, Int.reduceLT, Int.reduceLE, Int.reduceNeg, Int.reduceAdd, Int.reduceSub, Int.reduceMul, Int.reduceToNat, Nat.reduceAdd, noUnk, AV.cells, reduceCtorEq, Nat.reduceLeDiff, Cells.get, Cells.getN, Nat.reduceMul, ↓bnd_assoc]
    exact ⟨_, _, _, rfl, rfl, by simp only [a2, ↓sxp, sxq, ↓reduceIte, Nat.reduceBEq, Nat.reduceLT, evP, evX, evR, blkOf, evA, storeA, Nat.reduceEqDiff, resL, resV, oneOrTup, Int.reduceEq, Int.reduceLT, Int.reduceLE, Int.reduceNeg, Int.reduceAdd, Int.reduceSub, Int.reduceMul, Int.reduceToNat, Nat.reduceAdd, noUnk, AV.cells, reduceCtorEq, Nat.reduceLeDiff, Cells.get, Cells.getN, Nat.reduceMul, ↓bnd_assoc], by simp only [a10, ↓sxp, sxq, ↓reduceIte, Nat.reduceBEq, Nat.reduceLT, evP, evX, evR, blkOf, evA, storeA, Nat.reduceEqDiff, resL, resV, oneOrTup, Int.reduceEq, Int.reduceLT, Int.reduceLE, Int.reduceNeg, Int.reduceAdd, Int.reduceSub, Int.reduceMul, Int.reduceToNat, Nat.reduceAdd, noUnk, AV.cells, reduceCtorEq, Nat.reduceLeDiff, Cells.get, Cells.getN, Nat.reduceMul, ↓bnd_assoc], by simp only [a11, ↓sxp, sxq, ↓reduceIte, Nat.reduceBEq, Nat.reduceLT, evP, evX, evR, blkOf, evA, storeA, Nat.reduceEqDiff, resL, resV, oneOrTup, Int.reduceEq, Int.reduceLT, Int.reduceLE, Int.reduceNeg, Int.reduceAdd, Int.reduceSub, Int.reduceMul, Int.reduceToNat, Nat.reduceAdd, noUnk, AV.cells, reduceCtorEq, Nat.reduceLeDiff, Cells.get, Cells.getN, Nat.reduceMul, ↓bnd_assoc], S, hi, by omega, h⟩
  | succ m ih =>
    intro i A H S him a2 a10 a11 a68 a69 a70 hi hL hT h
    have hlt : (i : Int) < ds.length := by omega
    obtain ⟨ptr, w, e1, e2, hw⟩ := hget i (by omega)
    have hwr : IntKind.i64.wrap ((i : Int) + 1) = ((i + 1 : Nat) : Int) := by rw [w64 (by omega)]; simp
    have hb : ds[i].b.length ≤ 100 := by
      have := List.all_eq_true.1 hf ds[i] (List.getElem_mem _)
      simpa using this
    generalize ds[i] = d at *
    obtain ⟨k, n, t, b⟩ := d
    have hb : b.length ≤ 100 := hb
    have hw : OldBy W b w := hw
    have ht : ∃ t1 t2 t3, t = (t1, t2, t3) := ⟨_, _, _, rfl⟩
    obtain ⟨t1, t2, t3, ht⟩ := ht
    have hc : doC ⟨k, n, t, b⟩ w = [.int .i64 k, .int .i64 n, .int .i64 t1, .int .i64 t2, .int .i64 t3, w] := by subst ht; rfl
    have hc3 : c3 t = [.int .i64 t1, .int .i64 t2, .int .i64 t3] := by subst ht; rfl
    have hwo := noUnk_by (hw H)
    rw [hc] at e2
    apply Fin.ex3
    rw [run_loop]
    simp only [hlp, a68, a69, a70, hlt, e1, e2, ↓sxp, sxq, ↓reduceIte, Nat.reduceBEq, Nat.reduceLT, evP, evX, evR, blkOf, evA, storeA, Nat.reduceEqDiff, resL, resV, oneOrTup, Int.reduceEq, Int.reduceLT, Int.reduceLE, Int.reduceNeg, Int.reduceAdd, Int.reduceSub, Int.reduceMul, Int.reduceToNat, Nat.reduceAdd, noUnk, AV.cells, reduceCtorEq, Nat.reduceLeDiff, Cells.get, Cells.getN, Nat.reduceMul, ↓bnd_assoc]
    refine Fin.write [.int .i64 k, .int .i64 n, .int .i64 t1, .int .i64 t2, .int .i64 t3, w] h.push rfl (by simp) (by simp only [List.all_cons, List.all_nil, hwo, oneC_int, Bool.and_self]) fun H1 h1 => ?_
    generalize H.next = bd at *
    have g1 := h1.get
    have gs1 := (h1.ord [2]).get
    have hlen1 := s_len hE (h1.ord [1])
    have fin : ∀ (A' : Tm) (H' : Heap) (S' : MS), Once S' → S'.L.length ≤ S.L.length + 1 → S'.T.length ≤ S.T.length + 1 → getX A' 2 = .ptr (some ⟨.own br, 0⟩) → getX A' 10 = .ptr (some ⟨.own bs, 0⟩) → getX A' 11 = .ptr (some ⟨.own bm, 0⟩) → getX A' 68 = v → getX A' 69 = .int .i64 ds.length → getX A' 70 = .int .i64 ((i + 1 : Nat) : Int) →
        Holds H' (storeP W p S' :: blk bs [.ptr (some ⟨.own p, 0⟩)] 25 :: Γ) → Fin (Out3 df none fun lv A' H' => lv = .exit 2 ∧ getX A' 2 = .ptr (some ⟨.own br, 0⟩) ∧ getX A' 10 = .ptr (some ⟨.own bs, 0⟩) ∧ getX A' 11 = .ptr (some ⟨.own bm, 0⟩) ∧
          ∃ S, Once S ∧ S.L.length ≤ 30 ∧ Holds H' (storeP W p S :: blk bs [.ptr (some ⟨.own p, 0⟩)] 25 :: Γ)) (run W E (.loop lp4_1) ⟨A', df, none⟩ H') := fun A' H' S' q1 q2 q3 q4 q5 q6 q7 q8 q9 q10 =>
      Fin.of3 (ih (i + 1) A' H' S' (by omega) q4 q5 q6 q7 q8 q9 q1 (by omega) (by omega) q10) fun _ _ _ h => h
    by_cases k1 : k = 1
    · subst k1
      obtain ⟨ho, hp⟩ := hi.put t
      simp only [a10, ↓g1, ↓gs1, hlen1, ↓sxp, sxq, ↓reduceIte, Nat.reduceBEq, Nat.reduceLT, evP, evX, evR, blkOf, evA, storeA, Nat.reduceEqDiff, resL, resV, oneOrTup, Int.reduceEq, Int.reduceLT, Int.reduceLE, Int.reduceNeg, Int.reduceAdd, Int.reduceSub, Int.reduceMul, Int.reduceToNat, Nat.reduceAdd, noUnk, AV.cells, reduceCtorEq, Nat.reduceLeDiff, Cells.get, Cells.getN, Nat.reduceMul, ↓bnd_assoc]
      rw [← hc3]
      refine Fin.call (s_put hE (h1.ord [1]) t (by omega)) fun H2 h2 => ?_
      have g2 := (h2.ord [1]).get
      have gs2 := (h2.ord [2]).get
      simp only [a10, ↓gs2, ↓sxp, sxq, ↓reduceIte, Nat.reduceBEq, Nat.reduceLT, evP, evX, evR, blkOf, evA, storeA, Nat.reduceEqDiff, resL, resV, oneOrTup, Int.reduceEq, Int.reduceLT, Int.reduceLE, Int.reduceNeg, Int.reduceAdd, Int.reduceSub, Int.reduceMul, Int.reduceToNat, Nat.reduceAdd, noUnk, AV.cells, reduceCtorEq, Nat.reduceLeDiff, Cells.get, Cells.getN, Nat.reduceMul, ↓bnd_assoc]
      refine Fin.call (s_get hE h2 _) fun H3 h3 => ?_
      simp only [↓sxp, sxq, ↓reduceIte, Nat.reduceBEq, Nat.reduceLT, evP, evX, evR, blkOf, evA, storeA, Nat.reduceEqDiff, resL, resV, oneOrTup, Int.reduceEq, Int.reduceLT, Int.reduceLE, Int.reduceNeg, Int.reduceAdd, Int.reduceSub, Int.reduceMul, Int.reduceToNat, Nat.reduceAdd, noUnk, AV.cells, reduceCtorEq, Nat.reduceLeDiff, Cells.get, Cells.getN, Nat.reduceMul, ↓bnd_assoc]
      rcases hp with ⟨p1, p2, p3⟩ | ⟨p1, p2⟩
      · rw [p1, p2, p3]
        have heq := eqL3 t t
        rw [hc3] at heq ⊢
        simp only [decide_true] at heq
        refine Fin.write [.int .i64 t1, .int .i64 t2, .int .i64 t3] h3.push rfl (by simp) rfl fun H4 h4 => ?_
        have g4 := h4.get
        have gd4 := (h4.ord [2]).get
        simp only [↓g4, ↓gd4, heq, a70, hwr, ↓sxp, sxq, ↓reduceIte, Nat.reduceBEq, Nat.reduceLT, evP, evX, evR, blkOf, evA, storeA, Nat.reduceEqDiff, resL, resV, oneOrTup, Int.reduceEq, Int.reduceLT, Int.reduceLE, Int.reduceNeg, Int.reduceAdd, Int.reduceSub, Int.reduceMul, Int.reduceToNat, Nat.reduceAdd, noUnk, AV.cells, reduceCtorEq, Nat.reduceLeDiff, Cells.get, Cells.getN, Nat.reduceMul, ↓bnd_assoc]
        refine fin _ _ _ ho (putM_len _ _) (by rw [show (putM S t).2.2.T = S.T from (hi.i.put t).2.2]; omega) (by simp only [a2, ↓sxp, sxq, ↓reduceIte, Nat.reduceBEq, Nat.reduceLT, evP, evX, evR, blkOf, evA, storeA, Nat.reduceEqDiff, resL, resV, oneOrTup, Int.reduceEq, Int.reduceLT, Int.reduceLE, Int.reduceNeg, Int.reduceAdd, Int.reduceSub, Int.reduceMul, Int.reduceToNat, Nat.reduceAdd, noUnk, AV.cells, reduceCtorEq, Nat.reduceLeDiff, Cells.get, Cells.getN, Nat.reduceMul, ↓bnd_assoc]) (by simp only [a10, ↓sxp, sxq, ↓reduceIte, Nat.reduceBEq, Nat.reduceLT, evP, evX, evR, blkOf, evA, storeA, Nat.reduceEqDiff, resL, resV, oneOrTup, Int.reduceEq, Int.reduceLT, Int.reduceLE, Int.reduceNeg, Int.reduceAdd, Int.reduceSub, Int.reduceMul, Int.reduceToNat, Nat.reduceAdd, noUnk, AV.cells, reduceCtorEq, Nat.reduceLeDiff, Cells.get, Cells.getN, Nat.reduceMul, ↓bnd_assoc]) (by simp only [a11, ↓sxp, sxq, ↓reduceIte, Nat.reduceBEq, Nat.reduceLT, evP, evX, evR, blkOf, evA, storeA, Nat.reduceEqDiff, resL, resV, oneOrTup, Int.reduceEq, Int.reduceLT, Int.reduceLE, Int.reduceNeg, Int.reduceAdd, Int.reduceSub, Int.reduceMul, Int.reduceToNat, Nat.reduceAdd, noUnk, AV.cells, reduceCtorEq, Nat.reduceLeDiff, Cells.get, Cells.getN, Nat.reduceMul, ↓bnd_assoc]) (by simp only [a68, ↓sxp, sxq, ↓reduceIte, Nat.reduceBEq, Nat.reduceLT, evP, evX, evR, blkOf, evA, storeA, Nat.reduceEqDiff, resL, resV, oneOrTup, Int.reduceEq, Int.reduceLT, Int.reduceLE, Int.reduceNeg, Int.reduceAdd, Int.reduceSub, Int.reduceMul, Int.reduceToNat, Nat.reduceAdd, noUnk, AV.cells, reduceCtorEq, Nat.reduceLeDiff, Cells.get, Cells.getN, Nat.reduceMul, ↓bnd_assoc]) (by simp only [a69, ↓sxp, sxq, ↓reduceIte, Nat.reduceBEq, Nat.reduceLT, evP, evX, evR, blkOf, evA, storeA, Nat.reduceEqDiff, resL, resV, oneOrTup, Int.reduceEq, Int.reduceLT, Int.reduceLE, Int.reduceNeg, Int.reduceAdd, Int.reduceSub, Int.reduceMul, Int.reduceToNat, Nat.reduceAdd, noUnk, AV.cells, reduceCtorEq, Nat.reduceLeDiff, Cells.get, Cells.getN, Nat.reduceMul, ↓bnd_assoc]) (by simp only [↓sxp, sxq, ↓reduceIte, Nat.reduceBEq, Nat.reduceLT, evP, evX, evR, blkOf, evA, storeA, Nat.reduceEqDiff, resL, resV, oneOrTup, Int.reduceEq, Int.reduceLT, Int.reduceLE, Int.reduceNeg, Int.reduceAdd, Int.reduceSub, Int.reduceMul, Int.reduceToNat, Nat.reduceAdd, noUnk, AV.cells, reduceCtorEq, Nat.reduceLeDiff, Cells.get, Cells.getN, Nat.reduceMul, ↓bnd_assoc]) ((h4.rm 2).rm 0)
      · have hcg := rfl (a := c3 (getM (putM S t).2.2 (putM S t).1))
        generalize getM (putM S t).2.2 (putM S t).1 = y at *
        obtain ⟨y1, y2, y3⟩ := y
        rw [p1]
        simp only [c3, ↓sxp, sxq, ↓reduceIte, Nat.reduceBEq, Nat.reduceLT, evP, evX, evR, blkOf, evA, storeA, Nat.reduceEqDiff, resL, resV, oneOrTup, Int.reduceEq, Int.reduceLT, Int.reduceLE, Int.reduceNeg, Int.reduceAdd, Int.reduceSub, Int.reduceMul, Int.reduceToNat, Nat.reduceAdd, noUnk, AV.cells, reduceCtorEq, Nat.reduceLeDiff, Cells.get, Cells.getN, Nat.reduceMul, ↓bnd_assoc]
        refine Fin.write [.int .i64 y1, .int .i64 y2, .int .i64 y3] h3.push rfl (by simp) rfl fun H4 h4 => ?_
        have hlen4 := s_len hE (h4.ord [1])
        rw [p2] at hlen4
        have gs4 := (h4.ord [3]).get
        simp only [↓gs4, hlen4, a10, a70, hwr, ↓sxp, sxq, ↓reduceIte, Nat.reduceBEq, Nat.reduceLT, evP, evX, evR, blkOf, evA, storeA, Nat.reduceEqDiff, resL, resV, oneOrTup, Int.reduceEq, Int.reduceLT, Int.reduceLE, Int.reduceNeg, Int.reduceAdd, Int.reduceSub, Int.reduceMul, Int.reduceToNat, Nat.reduceAdd, noUnk, AV.cells, reduceCtorEq, Nat.reduceLeDiff, Cells.get, Cells.getN, Nat.reduceMul, ↓bnd_assoc]
        refine fin _ _ _ ho (putM_len _ _) (by rw [show (putM S t).2.2.T = S.T from (hi.i.put t).2.2]; omega) (by simp only [a2, ↓sxp, sxq, ↓reduceIte, Nat.reduceBEq, Nat.reduceLT, evP, evX, evR, blkOf, evA, storeA, Nat.reduceEqDiff, resL, resV, oneOrTup, Int.reduceEq, Int.reduceLT, Int.reduceLE, Int.reduceNeg, Int.reduceAdd, Int.reduceSub, Int.reduceMul, Int.reduceToNat, Nat.reduceAdd, noUnk, AV.cells, reduceCtorEq, Nat.reduceLeDiff, Cells.get, Cells.getN, Nat.reduceMul, ↓bnd_assoc]) (by simp only [a10, ↓sxp, sxq, ↓reduceIte, Nat.reduceBEq, Nat.reduceLT, evP, evX, evR, blkOf, evA, storeA, Nat.reduceEqDiff, resL, resV, oneOrTup, Int.reduceEq, Int.reduceLT, Int.reduceLE, Int.reduceNeg, Int.reduceAdd, Int.reduceSub, Int.reduceMul, Int.reduceToNat, Nat.reduceAdd, noUnk, AV.cells, reduceCtorEq, Nat.reduceLeDiff, Cells.get, Cells.getN, Nat.reduceMul, ↓bnd_assoc]) (by simp only [a11, ↓sxp, sxq, ↓reduceIte, Nat.reduceBEq, Nat.reduceLT, evP, evX, evR, blkOf, evA, storeA, Nat.reduceEqDiff, resL, resV, oneOrTup, Int.reduceEq, Int.reduceLT, Int.reduceLE, Int.reduceNeg, Int.reduceAdd, Int.reduceSub, Int.reduceMul, Int.reduceToNat, Nat.reduceAdd, noUnk, AV.cells, reduceCtorEq, Nat.reduceLeDiff, Cells.get, Cells.getN, Nat.reduceMul, ↓bnd_assoc]) (by simp only [a68, ↓sxp, sxq, ↓reduceIte, Nat.reduceBEq, Nat.reduceLT, evP, evX, evR, blkOf, evA, storeA, Nat.reduceEqDiff, resL, resV, oneOrTup, Int.reduceEq, Int.reduceLT, Int.reduceLE, Int.reduceNeg, Int.reduceAdd, Int.reduceSub, Int.reduceMul, Int.reduceToNat, Nat.reduceAdd, noUnk, AV.cells, reduceCtorEq, Nat.reduceLeDiff, Cells.get, Cells.getN, Nat.reduceMul, ↓bnd_assoc]) (by simp only [a69, ↓sxp, sxq, ↓reduceIte, Nat.reduceBEq, Nat.reduceLT, evP, evX, evR, blkOf, evA, storeA, Nat.reduceEqDiff, resL, resV, oneOrTup, Int.reduceEq, Int.reduceLT, Int.reduceLE, Int.reduceNeg, Int.reduceAdd, Int.reduceSub, Int.reduceMul, Int.reduceToNat, Nat.reduceAdd, noUnk, AV.cells, reduceCtorEq, Nat.reduceLeDiff, Cells.get, Cells.getN, Nat.reduceMul, ↓bnd_assoc]) (by simp only [↓sxp, sxq, ↓reduceIte, Nat.reduceBEq, Nat.reduceLT, evP, evX, evR, blkOf, evA, storeA, Nat.reduceEqDiff, resL, resV, oneOrTup, Int.reduceEq, Int.reduceLT, Int.reduceLE, Int.reduceNeg, Int.reduceAdd, Int.reduceSub, Int.reduceMul, Int.reduceToNat, Nat.reduceAdd, noUnk, AV.cells, reduceCtorEq, Nat.reduceLeDiff, Cells.get, Cells.getN, Nat.reduceMul, ↓bnd_assoc]) ((h4.rm 2).rm 0)
    by_cases k2 : k = 2
    · subst k2
      obtain ⟨ho, hp⟩ := hi.draw n
      simp only [a10, ↓g1, ↓gs1, hlen1, ↓sxp, sxq, ↓reduceIte, Nat.reduceBEq, Nat.reduceLT, evP, evX, evR, blkOf, evA, storeA, Nat.reduceEqDiff, resL, resV, oneOrTup, Int.reduceEq, Int.reduceLT, Int.reduceLE, Int.reduceNeg, Int.reduceAdd, Int.reduceSub, Int.reduceMul, Int.reduceToNat, Nat.reduceAdd, noUnk, AV.cells, reduceCtorEq, Nat.reduceLeDiff, Cells.get, Cells.getN, Nat.reduceMul, ↓bnd_assoc]
      refine Fin.call (s_draw' hE hi.i (h1.ord [1]) n (by omega)) fun H2 h2 => ?_
      have gs2 := (h2.ord [2]).get
      have hlen2 := s_len hE h2
      have hT2 : (drawM S n).2.2.T.length ≤ S.T.length + 1 := by rw [show (drawM S n).2.2.T = S.T from (hi.i.draw n).2.2.1]; omega
      rcases hp with ⟨p1, p2, p3⟩ | p1 | p1
      · rw [p1, p2]
        rw [p3] at hlen2
        have hw2 : IntKind.i64.wrap ((S.L.length : Int) + 1) = ((S.L.length + 1 : Nat) : Int) := by rw [w64 (by omega)]; simp
        simp only [a10, ↓gs2, hlen2, hw2, a70, hwr, ↓sxp, sxq, ↓reduceIte, Nat.reduceBEq, Nat.reduceLT, evP, evX, evR, blkOf, evA, storeA, Nat.reduceEqDiff, resL, resV, oneOrTup, Int.reduceEq, Int.reduceLT, Int.reduceLE, Int.reduceNeg, Int.reduceAdd, Int.reduceSub, Int.reduceMul, Int.reduceToNat, Nat.reduceAdd, noUnk, AV.cells, reduceCtorEq, Nat.reduceLeDiff, Cells.get, Cells.getN, Nat.reduceMul, ↓bnd_assoc]
        refine fin _ _ _ ho (drawM_len _ _) hT2 (by simp only [a2, ↓sxp, sxq, ↓reduceIte, Nat.reduceBEq, Nat.reduceLT, evP, evX, evR, blkOf, evA, storeA, Nat.reduceEqDiff, resL, resV, oneOrTup, Int.reduceEq, Int.reduceLT, Int.reduceLE, Int.reduceNeg, Int.reduceAdd, Int.reduceSub, Int.reduceMul, Int.reduceToNat, Nat.reduceAdd, noUnk, AV.cells, reduceCtorEq, Nat.reduceLeDiff, Cells.get, Cells.getN, Nat.reduceMul, ↓bnd_assoc]) (by simp only [a10, ↓sxp, sxq, ↓reduceIte, Nat.reduceBEq, Nat.reduceLT, evP, evX, evR, blkOf, evA, storeA, Nat.reduceEqDiff, resL, resV, oneOrTup, Int.reduceEq, Int.reduceLT, Int.reduceLE, Int.reduceNeg, Int.reduceAdd, Int.reduceSub, Int.reduceMul, Int.reduceToNat, Nat.reduceAdd, noUnk, AV.cells, reduceCtorEq, Nat.reduceLeDiff, Cells.get, Cells.getN, Nat.reduceMul, ↓bnd_assoc]) (by simp only [a11, ↓sxp, sxq, ↓reduceIte, Nat.reduceBEq, Nat.reduceLT, evP, evX, evR, blkOf, evA, storeA, Nat.reduceEqDiff, resL, resV, oneOrTup, Int.reduceEq, Int.reduceLT, Int.reduceLE, Int.reduceNeg, Int.reduceAdd, Int.reduceSub, Int.reduceMul, Int.reduceToNat, Nat.reduceAdd, noUnk, AV.cells, reduceCtorEq, Nat.reduceLeDiff, Cells.get, Cells.getN, Nat.reduceMul, ↓bnd_assoc]) (by simp only [a68, ↓sxp, sxq, ↓reduceIte, Nat.reduceBEq, Nat.reduceLT, evP, evX, evR, blkOf, evA, storeA, Nat.reduceEqDiff, resL, resV, oneOrTup, Int.reduceEq, Int.reduceLT, Int.reduceLE, Int.reduceNeg, Int.reduceAdd, Int.reduceSub, Int.reduceMul, Int.reduceToNat, Nat.reduceAdd, noUnk, AV.cells, reduceCtorEq, Nat.reduceLeDiff, Cells.get, Cells.getN, Nat.reduceMul, ↓bnd_assoc]) (by simp only [a69, ↓sxp, sxq, ↓reduceIte, Nat.reduceBEq, Nat.reduceLT, evP, evX, evR, blkOf, evA, storeA, Nat.reduceEqDiff, resL, resV, oneOrTup, Int.reduceEq, Int.reduceLT, Int.reduceLE, Int.reduceNeg, Int.reduceAdd, Int.reduceSub, Int.reduceMul, Int.reduceToNat, Nat.reduceAdd, noUnk, AV.cells, reduceCtorEq, Nat.reduceLeDiff, Cells.get, Cells.getN, Nat.reduceMul, ↓bnd_assoc]) (by simp only [↓sxp, sxq, ↓reduceIte, Nat.reduceBEq, Nat.reduceLT, evP, evX, evR, blkOf, evA, storeA, Nat.reduceEqDiff, resL, resV, oneOrTup, Int.reduceEq, Int.reduceLT, Int.reduceLE, Int.reduceNeg, Int.reduceAdd, Int.reduceSub, Int.reduceMul, Int.reduceToNat, Nat.reduceAdd, noUnk, AV.cells, reduceCtorEq, Nat.reduceLeDiff, Cells.get, Cells.getN, Nat.reduceMul, ↓bnd_assoc]) (h2.rm 1)
      all_goals
        rw [p1]
        simp only [a70, hwr, ↓sxp, sxq, ↓reduceIte, Nat.reduceBEq, Nat.reduceLT, evP, evX, evR, blkOf, evA, storeA, Nat.reduceEqDiff, resL, resV, oneOrTup, Int.reduceEq, Int.reduceLT, Int.reduceLE, Int.reduceNeg, Int.reduceAdd, Int.reduceSub, Int.reduceMul, Int.reduceToNat, Nat.reduceAdd, noUnk, AV.cells, reduceCtorEq, Nat.reduceLeDiff, Cells.get, Cells.getN, Nat.reduceMul, ↓bnd_assoc]
        refine fin _ _ _ ho (drawM_len _ _) hT2 (by simp only [a2, ↓sxp, sxq, ↓reduceIte, Nat.reduceBEq, Nat.reduceLT, evP, evX, evR, blkOf, evA, storeA, Nat.reduceEqDiff, resL, resV, oneOrTup, Int.reduceEq, Int.reduceLT, Int.reduceLE, Int.reduceNeg, Int.reduceAdd, Int.reduceSub, Int.reduceMul, Int.reduceToNat, Nat.reduceAdd, noUnk, AV.cells, reduceCtorEq, Nat.reduceLeDiff, Cells.get, Cells.getN, Nat.reduceMul, ↓bnd_assoc]) (by simp only [a10, ↓sxp, sxq, ↓reduceIte, Nat.reduceBEq, Nat.reduceLT, evP, evX, evR, blkOf, evA, storeA, Nat.reduceEqDiff, resL, resV, oneOrTup, Int.reduceEq, Int.reduceLT, Int.reduceLE, Int.reduceNeg, Int.reduceAdd, Int.reduceSub, Int.reduceMul, Int.reduceToNat, Nat.reduceAdd, noUnk, AV.cells, reduceCtorEq, Nat.reduceLeDiff, Cells.get, Cells.getN, Nat.reduceMul, ↓bnd_assoc]) (by simp only [a11, ↓sxp, sxq, ↓reduceIte, Nat.reduceBEq, Nat.reduceLT, evP, evX, evR, blkOf, evA, storeA, Nat.reduceEqDiff, resL, resV, oneOrTup, Int.reduceEq, Int.reduceLT, Int.reduceLE, Int.reduceNeg, Int.reduceAdd, Int.reduceSub, Int.reduceMul, Int.reduceToNat, Nat.reduceAdd, noUnk, AV.cells, reduceCtorEq, Nat.reduceLeDiff, Cells.get, Cells.getN, Nat.reduceMul, ↓bnd_assoc]) (by simp only [a68, ↓sxp, sxq, ↓reduceIte, Nat.reduceBEq, Nat.reduceLT, evP, evX, evR, blkOf, evA, storeA, Nat.reduceEqDiff, resL, resV, oneOrTup, Int.reduceEq, Int.reduceLT, Int.reduceLE, Int.reduceNeg, Int.reduceAdd, Int.reduceSub, Int.reduceMul, Int.reduceToNat, Nat.reduceAdd, noUnk, AV.cells, reduceCtorEq, Nat.reduceLeDiff, Cells.get, Cells.getN, Nat.reduceMul, ↓bnd_assoc]) (by simp only [a69, ↓sxp, sxq, ↓reduceIte, Nat.reduceBEq, Nat.reduceLT, evP, evX, evR, blkOf, evA, storeA, Nat.reduceEqDiff, resL, resV, oneOrTup, Int.reduceEq, Int.reduceLT, Int.reduceLE, Int.reduceNeg, Int.reduceAdd, Int.reduceSub, Int.reduceMul, Int.reduceToNat, Nat.reduceAdd, noUnk, AV.cells, reduceCtorEq, Nat.reduceLeDiff, Cells.get, Cells.getN, Nat.reduceMul, ↓bnd_assoc]) (by simp only [↓sxp, sxq, ↓reduceIte, Nat.reduceBEq, Nat.reduceLT, evP, evX, evR, blkOf, evA, storeA, Nat.reduceEqDiff, resL, resV, oneOrTup, Int.reduceEq, Int.reduceLT, Int.reduceLE, Int.reduceNeg, Int.reduceAdd, Int.reduceSub, Int.reduceMul, Int.reduceToNat, Nat.reduceAdd, noUnk, AV.cells, reduceCtorEq, Nat.reduceLeDiff, Cells.get, Cells.getN, Nat.reduceMul, ↓bnd_assoc]) (h2.rm 1)
    · obtain ⟨ho, p1, p2⟩ := hi.text hb
      simp only [a10, ↓g1, ↓gs1, hlen1, k1, k2, ↓sxp, sxq, ↓reduceIte, Nat.reduceBEq, Nat.reduceLT, evP, evX, evR, blkOf, evA, storeA, Nat.reduceEqDiff, resL, resV, oneOrTup, Int.reduceEq, Int.reduceLT, Int.reduceLE, Int.reduceNeg, Int.reduceAdd, Int.reduceSub, Int.reduceMul, Int.reduceToNat, Nat.reduceAdd, noUnk, AV.cells, reduceCtorEq, Nat.reduceLeDiff, Cells.get, Cells.getN, Nat.reduceMul, ↓bnd_assoc]
      refine Fin.call (s_text hE (h1.ord [1]) hw (by omega) (by omega) (by omega) hi.i.fresh) fun H2 h2 => ?_
      have gs2 := (h2.ord [2]).get
      simp only [a10, ↓gs2, ↓sxp, sxq, ↓reduceIte, Nat.reduceBEq, Nat.reduceLT, evP, evX, evR, blkOf, evA, storeA, Nat.reduceEqDiff, resL, resV, oneOrTup, Int.reduceEq, Int.reduceLT, Int.reduceLE, Int.reduceNeg, Int.reduceAdd, Int.reduceSub, Int.reduceMul, Int.reduceToNat, Nat.reduceAdd, noUnk, AV.cells, reduceCtorEq, Nat.reduceLeDiff, Cells.get, Cells.getN, Nat.reduceMul, ↓bnd_assoc]
      refine Fin.callE _ _ (s_bytes hE h2 _ (fun hk => ?_) (fun b hb => by have := ho.i.bl b hb; omega)) fun bv H3 h3 => ?_
      · obtain ⟨q0, q1⟩ := hasM_bd hk
        have hget : (textM S b).L[(textN S b : Int).toNat]? = some (textM S b).L[(textN S b : Int).toNat] := List.getElem?_eq_getElem (by omega)
        have h9 : ((textM S b).L[(textN S b : Int).toNat]).1 = 9 := by
          have e := hasM_in hget 9
          rw [show (((textN S b : Int).toNat : Nat) : Int) = (textN S b : Int) from by omega, hk] at e
          simpa using e.symm
        have := ho.i.nt _ (List.getElem_mem _) h9
        rw [List.getD_eq_getElem?_getD, hget]
        exact ⟨this.1, this.2.1⟩
      · have h3 : Holds H3 (by_ W (bytesM (textM S b) (textN S b : Int)) bv :: storeP W p (textM S b) :: blk bd [.int .i64 k, .int .i64 n, .int .i64 t1, .int .i64 t2, .int .i64 t3, w] 36 :: blk bs [.ptr (some ⟨.own p, 0⟩)] 25 :: Γ) := h3
        obtain ⟨ids, hby⟩ := h3.by_get
        have g3 := (h3.ord [2]).get
        rw [p2] at hby
        simp only [p1, ↓g3, ↓sxp, sxq, ↓reduceIte, Nat.reduceBEq, Nat.reduceLT, evP, evX, evR, blkOf, evA, storeA, Nat.reduceEqDiff, resL, resV, oneOrTup, Int.reduceEq, Int.reduceLT, Int.reduceLE, Int.reduceNeg, Int.reduceAdd, Int.reduceSub, Int.reduceMul, Int.reduceToNat, Nat.reduceAdd, noUnk, AV.cells, reduceCtorEq, Nat.reduceLeDiff, Cells.get, Cells.getN, Nat.reduceMul, ↓bnd_assoc]
        refine Fin.call (w_same hE h3 hby (hw _) (by omega)) fun H4 h4 => ?_
        simp only [decide_true, a70, hwr, ↓sxp, sxq, ↓reduceIte, Nat.reduceBEq, Nat.reduceLT, evP, evX, evR, blkOf, evA, storeA, Nat.reduceEqDiff, resL, resV, oneOrTup, Int.reduceEq, Int.reduceLT, Int.reduceLE, Int.reduceNeg, Int.reduceAdd, Int.reduceSub, Int.reduceMul, Int.reduceToNat, Nat.reduceAdd, noUnk, AV.cells, reduceCtorEq, Nat.reduceLeDiff, Cells.get, Cells.getN, Nat.reduceMul, ↓bnd_assoc]
        refine fin _ _ _ ho (textM_len _ _).1 (textM_len _ _).2 (by simp only [a2, ↓sxp, sxq, ↓reduceIte, Nat.reduceBEq, Nat.reduceLT, evP, evX, evR, blkOf, evA, storeA, Nat.reduceEqDiff, resL, resV, oneOrTup, Int.reduceEq, Int.reduceLT, Int.reduceLE, Int.reduceNeg, Int.reduceAdd, Int.reduceSub, Int.reduceMul, Int.reduceToNat, Nat.reduceAdd, noUnk, AV.cells, reduceCtorEq, Nat.reduceLeDiff, Cells.get, Cells.getN, Nat.reduceMul, ↓bnd_assoc]) (by simp only [a10, ↓sxp, sxq, ↓reduceIte, Nat.reduceBEq, Nat.reduceLT, evP, evX, evR, blkOf, evA, storeA, Nat.reduceEqDiff, resL, resV, oneOrTup, Int.reduceEq, Int.reduceLT, Int.reduceLE, Int.reduceNeg, Int.reduceAdd, Int.reduceSub, Int.reduceMul, Int.reduceToNat, Nat.reduceAdd, noUnk, AV.cells, reduceCtorEq, Nat.reduceLeDiff, Cells.get, Cells.getN, Nat.reduceMul, ↓bnd_assoc]) (by simp only [a11, ↓sxp, sxq, ↓reduceIte, Nat.reduceBEq, Nat.reduceLT, evP, evX, evR, blkOf, evA, storeA, Nat.reduceEqDiff, resL, resV, oneOrTup, Int.reduceEq, Int.reduceLT, Int.reduceLE, Int.reduceNeg, Int.reduceAdd, Int.reduceSub, Int.reduceMul, Int.reduceToNat, Nat.reduceAdd, noUnk, AV.cells, reduceCtorEq, Nat.reduceLeDiff, Cells.get, Cells.getN, Nat.reduceMul, ↓bnd_assoc]) (by simp only [a68, ↓sxp, sxq, ↓reduceIte, Nat.reduceBEq, Nat.reduceLT, evP, evX, evR, blkOf, evA, storeA, Nat.reduceEqDiff, resL, resV, oneOrTup, Int.reduceEq, Int.reduceLT, Int.reduceLE, Int.reduceNeg, Int.reduceAdd, Int.reduceSub, Int.reduceMul, Int.reduceToNat, Nat.reduceAdd, noUnk, AV.cells, reduceCtorEq, Nat.reduceLeDiff, Cells.get, Cells.getN, Nat.reduceMul, ↓bnd_assoc]) (by simp only [a69, ↓sxp, sxq, ↓reduceIte, Nat.reduceBEq, Nat.reduceLT, evP, evX, evR, blkOf, evA, storeA, Nat.reduceEqDiff, resL, resV, oneOrTup, Int.reduceEq, Int.reduceLT, Int.reduceLE, Int.reduceNeg, Int.reduceAdd, Int.reduceSub, Int.reduceMul, Int.reduceToNat, Nat.reduceAdd, noUnk, AV.cells, reduceCtorEq, Nat.reduceLeDiff, Cells.get, Cells.getN, Nat.reduceMul, ↓bnd_assoc]) (by simp only [↓sxp, sxq, ↓reduceIte, Nat.reduceBEq, Nat.reduceLT, evP, evX, evR, blkOf, evA, storeA, Nat.reduceEqDiff, resL, resV, oneOrTup, Int.reduceEq, Int.reduceLT, Int.reduceLE, Int.reduceNeg, Int.reduceAdd, Int.reduceSub, Int.reduceMul, Int.reduceToNat, Nat.reduceAdd, noUnk, AV.cells, reduceCtorEq, Nat.reduceLeDiff, Cells.get, Cells.getN, Nat.reduceMul, ↓bnd_assoc]) ((h4.rm 2).rm 0)
end
end Go.Proofs.Ytnfehkjkmlbceaa.Sx

/- TermOnce: the range. -/
namespace Go.Proofs.Ytnfehkjkmlbceaa.Sx
open HP
section
variable {W : World} {E : Env} {H : Heap} {Γ : List HP}
theorem round_fin {o : Option (Bool × Heap)} {Γ' : List HP} {R : Heap → Prop} (h : Fin (fun r : Bool × Heap => r.1 = true ∧ Holds r.2 Γ') o) : ∃ H', (o = some (true, H') ∧ Holds H' Γ') ∨ (o = some (false, H') ∧ R H') := by
  obtain ⟨⟨b, H'⟩, e, hb, hh⟩ := h
  simp only at hb hh
  subst hb
  exact ⟨H', .inl ⟨e, hh⟩⟩
theorem once_round {p bx bs bm mm br : Nat} {S : MS} {l d : Nat} {tm : Tm} (hE : EnvT E) (ho : Once S) (hL : S.L.length ≤ 30) (a10 : getX tm 10 = .ptr (some ⟨.own bs, 0⟩)) (a11 : getX tm 11 = .ptr (some ⟨.own bm, 0⟩)) (i : Nat) (x : T3) (hx : S.L[i]? = some x) :
    RoundOk W E p bx S l d tm [167, 168] ra4_2 rb4_2 (fun i => mp mm (metM (S.L.take i)) :: blk bs [.ptr (some ⟨.own p, 0⟩)] 25 :: blk bm [.map (some (.own mm))] 53 :: Γ) (fun _ => [HP.pure False]) i x := by
  intro H h
  have hi : i < S.L.length := (List.getElem?_eq_some_iff.1 hx).1
  have hw := ho.i.wf
  obtain ⟨w1, w2⟩ := hw i x hx
  have hnin : x ∉ S.L.take i := fun hm => by
    obtain ⟨j, hj, e⟩ := List.getElem_of_mem hm
    rw [List.length_take] at hj
    have e2 : S.L[j]'(by omega) = x := by rw [← e, List.getElem_take]
    have e3 : S.L[i] = x := by rw [List.getElem?_eq_getElem hi] at hx; exact Option.some.inj hx
    have := (List.getElem_inj (xs := S.L) (h₀ := by omega) (h₁ := hi) ho.nd).1 (e2.trans e3.symm)
    omega
  have htk : S.L.take (i + 1) = S.L.take i ++ [x] := by
    rw [List.take_succ_eq_append_getElem hi]
    congr 2
    rw [List.getElem?_eq_getElem hi] at hx; exact Option.some.inj hx
  have hfind := met_find (x := x) (L := S.L.take i) 0 hnin
  have hupd := met_upd (x := x) (L := S.L.take i) hnin
  have hsi : sizeM S.L (i : Int) = (szs S.L).getD i 0 := by simp only [sizeM, hasM_in hx, Int.toNat_natCast]; simp
  have hless := fun h1 h9 hs => sz_less hw hx h1 h9 hs
  have hc : ∃ k u w, x = (k, u, w) := ⟨_, _, _, rfl⟩
  obtain ⟨k, u, w, hc⟩ := hc
  have hc3 : c3 x = [.int .i64 k, .int .i64 u, .int .i64 w] := by subst hc; rfl
  have hra : ∀ f H, run W E ra4_2 f H = run W E ra4_2 f H := fun _ _ => rfl
  conv at hra => enter [f, H, 2]; unfold ra4_2
  have hrbd : ∀ f H, run W E rb4_2 f H = run W E rb4_2 f H := fun _ _ => rfl
  conv at hrbd => enter [f, H, 2]; unfold rb4_2
  rw [yld_eq h rfl]
  rw [hc3] at hfind hupd ⊢
  have q1 := h.push (c := [.int .i64 0, .int .i64 0, .int .i64 0]) (t := 33)
  obtain ⟨wr1, q2⟩ := q1.writeN (off := 0) (c' := [.int .i64 k, .int .i64 u, .int .i64 w]) (vs := [.int .i64 k, .int .i64 u, .int .i64 w]) rfl (by simp) rfl
  obtain ⟨hrb, q3⟩ := rnd_b (ex := run W E) (q2.ord [1])
  simp only [hra, putsT_cons, putsT_nil, wr1, hrb, ↓sxp, sxq, ↓reduceIte, Nat.reduceBEq, Nat.reduceLT, evP, evX, evR, blkOf, evA, storeA, Nat.reduceEqDiff, resL, resV, oneOrTup, Int.reduceEq, Int.reduceLT, Int.reduceLE, Int.reduceNeg, Int.reduceAdd, Int.reduceSub, Int.reduceMul, Int.reduceToNat, Nat.reduceAdd, noUnk, AV.cells, reduceCtorEq, Nat.reduceLeDiff, Cells.get, Cells.getN, Nat.reduceMul, ↓bnd_assoc]
  generalize H.next = bt at *
  generalize (H.push (.cells (.lst [.int .i64 0, .int .i64 0, .int .i64 0]) 33 none)).setAt bt (.cells (.lst [.int .i64 k, .int .i64 u, .int .i64 w]) 33 none) = H1 at *
  generalize H1.setAt l (.loop .busy none tm [167, 168] ra4_2 rb4_2 d) = H2 at *
  have r1 : Holds H2 (busy l tm [167, 168] ra4_2 rb4_2 d :: blk bt [.int .i64 k, .int .i64 u, .int .i64 w] 33 :: mark d :: storeP W p S :: blk bx [.ptr (some ⟨.own p, 0⟩)] 25 :: mp mm (metM (S.L.take i)) :: blk bs [.ptr (some ⟨.own p, 0⟩)] 25 :: blk bm [.map (some (.own mm))] 53 :: Γ) := q3
  have gt := (r1.ord [1]).get
  have gm := (r1.ord [5]).getm
  have gs := (r1.ord [6]).get
  have gbm := (r1.ord [7]).get
  refine round_fin ?_
  rw [htk]
  -- what is met is kept
  have r2 := ((r1.ord [5]).setm (es' := metM (S.L.take i ++ [x]))).bump 51
  have fin : ∀ (f : Fr) (H' : Heap), Holds H' (storeP W p S :: mp mm (metM (S.L.take i ++ [x])) :: busy l tm [167, 168] ra4_2 rb4_2 d :: blk bt [.int .i64 k, .int .i64 u, .int .i64 w] 33 :: mark d :: blk bx [.ptr (some ⟨.own p, 0⟩)] 25 :: blk bs [.ptr (some ⟨.own p, 0⟩)] 25 :: blk bm [.map (some (.own mm))] 53 :: Γ) →
      Fin (fun r : Bool × Heap => r.1 = true ∧ Holds r.2 (ready l tm [167, 168] ra4_2 rb4_2 d :: mark d :: storeP W p S :: blk bx [.ptr (some ⟨.own p, 0⟩)] 25 :: mp mm (metM (S.L.take i ++ [x])) :: blk bs [.ptr (some ⟨.own p, 0⟩)] 25 :: blk bm [.map (some (.own mm))] 53 :: Γ)) (roundEnd l (.normal, f, H')) := by
    intro f H' hh
    obtain ⟨hre, r3⟩ := rnd_n (hh.ord [2])
    rw [hre]
    exact Fin.ret ⟨rfl, (r3.rm 3).ord [0, 2, 0, 1, 0]⟩
  have r2' := r2.ord [4]
  have hbm : ¬ bt = mm := (r1.ord [1, 4]).ne
  have hsm : ¬ bs = mm := (r1.ord [6, 5]).ne
  have gt2 := (r2'.ord [3]).get
  have gs2 := (r2'.ord [6]).get
  subst hc
  simp only at w1 w2 hless
  by_cases e19 : k = 1 ∨ k = 9
  · rcases e19 with rfl | rfl
    all_goals
      simp only [hrbd, a10, a11, ↓gt, ↓gm, ↓gs, ↓gbm, hbm, hsm, hfind, hupd, mapOf, mupdA, fitK, fitL, fitLeaf, lookV, ↓sxp, sxq, ↓reduceIte, Nat.reduceBEq, Nat.reduceLT, evP, evX, evR, blkOf, evA, storeA, Nat.reduceEqDiff, resL, resV, oneOrTup, Int.reduceEq, Int.reduceLT, Int.reduceLE, Int.reduceNeg, Int.reduceAdd, Int.reduceSub, Int.reduceMul, Int.reduceToNat, Nat.reduceAdd, noUnk, AV.cells, reduceCtorEq, Nat.reduceLeDiff, Cells.get, Cells.getN, Nat.reduceMul, ↓bnd_assoc]
      exact fin _ _ r2'
  have e1 : ¬ k = 1 := fun e => e19 (.inl e)
  have e9 : ¬ k = 9 := fun e => e19 (.inr e)
  obtain ⟨u0, u1⟩ := w1 e1 e9
  have hge : ¬ (i : Int) ≤ u := by omega
  have hsu : sizeM S.L u = (szs S.L).getD u.toNat 0 := by
    have hxu : S.L[u.toNat]? = some S.L[u.toNat] := List.getElem?_eq_getElem (by omega)
    obtain ⟨un, rfl⟩ := Int.eq_ofNat_of_zero_le u0
    have hxu : S.L[un]? = some (S.L[un]'(by omega)) := List.getElem?_eq_getElem (by omega)
    simp only [sizeM, hasM_in hxu, Int.toNat_natCast]; simp
  simp only [hrbd, a10, a11, ↓gt, ↓gm, ↓gs, ↓gbm, hbm, hsm, hfind, hupd, mapOf, mupdA, fitK, fitL, fitLeaf, lookV, e1, e9, hge, ↓sxp, sxq, ↓reduceIte, Nat.reduceBEq, Nat.reduceLT, evP, evX, evR, blkOf, evA, storeA, Nat.reduceEqDiff, resL, resV, oneOrTup, Int.reduceEq, Int.reduceLT, Int.reduceLE, Int.reduceNeg, Int.reduceAdd, Int.reduceSub, Int.reduceMul, Int.reduceToNat, Nat.reduceAdd, noUnk, AV.cells, reduceCtorEq, Nat.reduceLeDiff, Cells.get, Cells.getN, Nat.reduceMul, ↓bnd_assoc]
  refine Fin.call (s_size hE r2' (i : Int) (by omega) hw) fun H3 h3 => ?_
  rw [hsi]
  have gt3 := (h3.ord [3]).get
  have gs3 := (h3.ord [6]).get
  have last : ∀ (A : Tm) (H4 : Heap), True := fun _ _ => trivial
  by_cases hbig : (szs S.L).getD i 0 < 1048576
  · have hl := hless e1 e9 hbig
    have hl' : ¬ (szs S.L).getD i 0 ≤ (szs S.L).getD u.toNat 0 := by omega
    simp only [hbig, a10, ↓gt, ↓gs, hbm, hsm, ↓gt3, ↓gs3, ↓sxp, sxq, ↓reduceIte, Nat.reduceBEq, Nat.reduceLT, evP, evX, evR, blkOf, evA, storeA, Nat.reduceEqDiff, resL, resV, oneOrTup, Int.reduceEq, Int.reduceLT, Int.reduceLE, Int.reduceNeg, Int.reduceAdd, Int.reduceSub, Int.reduceMul, Int.reduceToNat, Nat.reduceAdd, noUnk, AV.cells, reduceCtorEq, Nat.reduceLeDiff, Cells.get, Cells.getN, Nat.reduceMul, ↓bnd_assoc]
    refine Fin.call (s_size hE h3 u (by omega) hw) fun H4 h4 => ?_
    rw [hsu]
    have gt4 := (h4.ord [3]).get
    have gs4 := (h4.ord [6]).get
    simp only [a10, ↓gs, hsm, ↓gs3, ↓gs4, ↓sxp, sxq, ↓reduceIte, Nat.reduceBEq, Nat.reduceLT, evP, evX, evR, blkOf, evA, storeA, Nat.reduceEqDiff, resL, resV, oneOrTup, Int.reduceEq, Int.reduceLT, Int.reduceLE, Int.reduceNeg, Int.reduceAdd, Int.reduceSub, Int.reduceMul, Int.reduceToNat, Nat.reduceAdd, noUnk, AV.cells, reduceCtorEq, Nat.reduceLeDiff, Cells.get, Cells.getN, Nat.reduceMul, ↓bnd_assoc]
    refine Fin.call (s_size hE h4 (i : Int) (by omega) hw) fun H5 h5 => ?_
    rw [hsi]
    have gt5 := (h5.ord [3]).get
    by_cases e45 : k = 4 ∨ k = 5 ∨ k = 8
    · obtain ⟨v0, v1⟩ := w2 e45
      have hgw : ¬ (i : Int) ≤ w := by omega
      rcases e45 with rfl | rfl | rfl
      all_goals
        simp only [hl', ↓gt, hbm, ↓gt3, ↓gt4, ↓gt5, hgw, ↓sxp, sxq, ↓reduceIte, Nat.reduceBEq, Nat.reduceLT, evP, evX, evR, blkOf, evA, storeA, Nat.reduceEqDiff, resL, resV, oneOrTup, Int.reduceEq, Int.reduceLT, Int.reduceLE, Int.reduceNeg, Int.reduceAdd, Int.reduceSub, Int.reduceMul, Int.reduceToNat, Nat.reduceAdd, noUnk, AV.cells, reduceCtorEq, Nat.reduceLeDiff, Cells.get, Cells.getN, Nat.reduceMul, ↓bnd_assoc]
        exact fin _ _ h5
    · have e4 : ¬ k = 4 := fun e => e45 (.inl e)
      have e5 : ¬ k = 5 := fun e => e45 (.inr (.inl e))
      have e8 : ¬ k = 8 := fun e => e45 (.inr (.inr e))
      simp only [hl', ↓gt, hbm, ↓gt3, ↓gt4, ↓gt5, e4, e5, e8, ↓sxp, sxq, ↓reduceIte, Nat.reduceBEq, Nat.reduceLT, evP, evX, evR, blkOf, evA, storeA, Nat.reduceEqDiff, resL, resV, oneOrTup, Int.reduceEq, Int.reduceLT, Int.reduceLE, Int.reduceNeg, Int.reduceAdd, Int.reduceSub, Int.reduceMul, Int.reduceToNat, Nat.reduceAdd, noUnk, AV.cells, reduceCtorEq, Nat.reduceLeDiff, Cells.get, Cells.getN, Nat.reduceMul, ↓bnd_assoc]
      exact fin _ _ h5
  · by_cases e45 : k = 4 ∨ k = 5 ∨ k = 8
    · obtain ⟨v0, v1⟩ := w2 e45
      have hgw : ¬ (i : Int) ≤ w := by omega
      rcases e45 with rfl | rfl | rfl
      all_goals
        simp only [hbig, ↓gt, hbm, ↓gt3, hgw, ↓sxp, sxq, ↓reduceIte, Nat.reduceBEq, Nat.reduceLT, evP, evX, evR, blkOf, evA, storeA, Nat.reduceEqDiff, resL, resV, oneOrTup, Int.reduceEq, Int.reduceLT, Int.reduceLE, Int.reduceNeg, Int.reduceAdd, Int.reduceSub, Int.reduceMul, Int.reduceToNat, Nat.reduceAdd, noUnk, AV.cells, reduceCtorEq, Nat.reduceLeDiff, Cells.get, Cells.getN, Nat.reduceMul, ↓bnd_assoc]
        exact fin _ _ h3
    · have e4 : ¬ k = 4 := fun e => e45 (.inl e)
      have e5 : ¬ k = 5 := fun e => e45 (.inr (.inl e))
      have e8 : ¬ k = 8 := fun e => e45 (.inr (.inr e))
      simp only [hbig, ↓gt, hbm, ↓gt3, e4, e5, e8, ↓sxp, sxq, ↓reduceIte, Nat.reduceBEq, Nat.reduceLT, evP, evX, evR, blkOf, evA, storeA, Nat.reduceEqDiff, resL, resV, oneOrTup, Int.reduceEq, Int.reduceLT, Int.reduceLE, Int.reduceNeg, Int.reduceAdd, Int.reduceSub, Int.reduceMul, Int.reduceToNat, Nat.reduceAdd, noUnk, AV.cells, reduceCtorEq, Nat.reduceLeDiff, Cells.get, Cells.getN, Nat.reduceMul, ↓bnd_assoc]
      exact fin _ _ h3
end
end Go.Proofs.Ytnfehkjkmlbceaa.Sx

/- TermOnce, whole: in the second reading. -/
namespace Go.Proofs.Ytnfehkjkmlbceaa.Sx
open HP
section
variable {W : World} {E : Env}
theorem law_once (hE : EnvT E) (h4 : E 4 = some (.code sf4)) {ds : List Do1} {v : AV} (hv : Dos W ds v) : ∃ H', go W E 4 [v] ⟨0, .e, .e⟩ = some (.bool true, H') := by
  suffices Fin (fun r => r.1 = .bool true) (go W E 4 [v] ⟨0, .e, .e⟩) by
    obtain ⟨⟨r, H'⟩, e, hr⟩ := this
    simp only at hr
    subst hr
    exact ⟨H', e⟩
  have hl : lenV v = some (.int .i64 ds.length) := hv.2.1
  rw [go_code h4 (by simp [sf4])]
  have q1 : Holds _ [blk 0 [.bool false] 4] := (Holds.nil HWf.empty).push (c := [.bool false]) (t := 4)
  have hd := fun (H : Heap) (n : Int) => n_draw (W := W) (H := H) hE n
  have ht := fun (H : Heap) (v : AV) => n_text (W := W) (H := H) hE v
  have hlen := fun (H : Heap) => n_len (W := W) (H := H) hE
  have hal := fun (H : Heap) => n_all (W := W) (H := H) hE
  simp only [sf4, ↓sxp, sxq, ↓reduceIte, Nat.reduceBEq, Nat.reduceLT, evP, evX, evR, blkOf, evA, storeA, Nat.reduceEqDiff, resL, resV, oneOrTup, Int.reduceEq, Int.reduceLT, Int.reduceLE, Int.reduceNeg, Int.reduceAdd, Int.reduceSub, Int.reduceMul, Int.reduceToNat, Nat.reduceAdd, noUnk, AV.cells, reduceCtorEq, Nat.reduceLeDiff, Cells.get, Cells.getN, Nat.reduceMul, ↓bnd_assoc]
  refine Fin.call (l_awake hE q1) fun H1 q1 => ?_
  simp only [↓sxp, sxq, ↓reduceIte, Nat.reduceBEq, Nat.reduceLT, evP, evX, evR, blkOf, evA, storeA, Nat.reduceEqDiff, resL, resV, oneOrTup, Int.reduceEq, Int.reduceLT, Int.reduceLE, Int.reduceNeg, Int.reduceAdd, Int.reduceSub, Int.reduceMul, Int.reduceToNat, Nat.reduceAdd, noUnk, AV.cells, reduceCtorEq, Nat.reduceLeDiff, Cells.get, Cells.getN, Nat.reduceMul, ↓bnd_assoc]
  refine Fin.call (n_put hE q1 (0, 0, 0)) fun H1 q1 => ?_
  simp only [hd, ht, hlen, ↓sxp, sxq, ↓reduceIte, Nat.reduceBEq, Nat.reduceLT, evP, evX, evR, blkOf, evA, storeA, Nat.reduceEqDiff, resL, resV, oneOrTup, Int.reduceEq, Int.reduceLT, Int.reduceLE, Int.reduceNeg, Int.reduceAdd, Int.reduceSub, Int.reduceMul, Int.reduceToNat, Nat.reduceAdd, noUnk, AV.cells, reduceCtorEq, Nat.reduceLeDiff, Cells.get, Cells.getN, Nat.reduceMul, ↓bnd_assoc]
  refine Fin.call (n_size hE q1 0) fun H2 q2 => ?_
  have w0 : IntKind.i64.wrap 0 = 0 := w64 (by omega)
  have q3 := q2.push (c := [.ptr none]) (t := 25)
  simp only [w0, hal, ↓sxp, sxq, ↓reduceIte, Nat.reduceBEq, Nat.reduceLT, evP, evX, evR, blkOf, evA, storeA, Nat.reduceEqDiff, resL, resV, oneOrTup, Int.reduceEq, Int.reduceLT, Int.reduceLE, Int.reduceNeg, Int.reduceAdd, Int.reduceSub, Int.reduceMul, Int.reduceToNat, Nat.reduceAdd, noUnk, AV.cells, reduceCtorEq, Nat.reduceLeDiff, Cells.get, Cells.getN, Nat.reduceMul, ↓bnd_assoc]
  refine Fin.range0 (bx := H2.next) hE (by simp only [↓sxp, sxq, ↓reduceIte, Nat.reduceBEq, Nat.reduceLT, evP, evX, evR, blkOf, evA, storeA, Nat.reduceEqDiff, resL, resV, oneOrTup, Int.reduceEq, Int.reduceLT, Int.reduceLE, Int.reduceNeg, Int.reduceAdd, Int.reduceSub, Int.reduceMul, Int.reduceToNat, Nat.reduceAdd, noUnk, AV.cells, reduceCtorEq, Nat.reduceLeDiff, Cells.get, Cells.getN, Nat.reduceMul, ↓bnd_assoc]) q3 fun d0 H3 q4 => ?_
  simp only [↓sxp, sxq, ↓reduceIte, Nat.reduceBEq, Nat.reduceLT, evP, evX, evR, blkOf, evA, storeA, Nat.reduceEqDiff, resL, resV, oneOrTup, Int.reduceEq, Int.reduceLT, Int.reduceLE, Int.reduceNeg, Int.reduceAdd, Int.reduceSub, Int.reduceMul, Int.reduceToNat, Nat.reduceAdd, noUnk, AV.cells, reduceCtorEq, Nat.reduceLeDiff, Cells.get, Cells.getN, Nat.reduceMul, ↓bnd_assoc]
  refine Fin.call (l_few hE hv q4) fun H4 q5 => ?_
  cases hfw : (fewL ds && decide (ds.length ≤ 30)) with
  | false =>
    simp only [↓sxp, sxq, ↓reduceIte, Nat.reduceBEq, Nat.reduceLT, evP, evX, evR, blkOf, evA, storeA, Nat.reduceEqDiff, resL, resV, oneOrTup, Int.reduceEq, Int.reduceLT, Int.reduceLE, Int.reduceNeg, Int.reduceAdd, Int.reduceSub, Int.reduceMul, Int.reduceToNat, Nat.reduceAdd, noUnk, AV.cells, reduceCtorEq, Nat.reduceLeDiff, Cells.get, Cells.getN, Nat.reduceMul, ↓bnd_assoc]
    refine Fin.write [.bool true] (q5.ord [2]) rfl (by simp) rfl fun H5 q6 => ?_
    have gd := (q6.ord [1]).geto
    have gr := (((q6.ord [1]).seto (o' := .deferred false) rfl).ord [1]).get
    simp only [↓finish_one gd, ↓gr, ↓sxp, sxq, ↓reduceIte, Nat.reduceBEq, Nat.reduceLT, evP, evX, evR, blkOf, evA, storeA, Nat.reduceEqDiff, resL, resV, oneOrTup, Int.reduceEq, Int.reduceLT, Int.reduceLE, Int.reduceNeg, Int.reduceAdd, Int.reduceSub, Int.reduceMul, Int.reduceToNat, Nat.reduceAdd, noUnk, AV.cells, reduceCtorEq, Nat.reduceLeDiff, Cells.get, Cells.getN, Nat.reduceMul, ↓bnd_assoc]
    exact Fin.ret rfl
  | true =>
    obtain ⟨hf1, hf2⟩ := Bool.and_eq_true_iff.1 hfw
    have hf2 : ds.length ≤ 30 := by simpa using hf2
    simp only [↓sxp, sxq, ↓reduceIte, Nat.reduceBEq, Nat.reduceLT, evP, evX, evR, blkOf, evA, storeA, Nat.reduceEqDiff, resL, resV, oneOrTup, Int.reduceEq, Int.reduceLT, Int.reduceLE, Int.reduceNeg, Int.reduceAdd, Int.reduceSub, Int.reduceMul, Int.reduceToNat, Nat.reduceAdd, noUnk, AV.cells, reduceCtorEq, Nat.reduceLeDiff, Cells.get, Cells.getN, Nat.reduceMul, ↓bnd_assoc]
    refine Fin.callE _ _ (s_new (W := W) hE q5) fun p H5 q6 => ?_
    simp only [↓sxp, sxq, ↓reduceIte, Nat.reduceBEq, Nat.reduceLT, evP, evX, evR, blkOf, evA, storeA, Nat.reduceEqDiff, resL, resV, oneOrTup, Int.reduceEq, Int.reduceLT, Int.reduceLE, Int.reduceNeg, Int.reduceAdd, Int.reduceSub, Int.reduceMul, Int.reduceToNat, Nat.reduceAdd, noUnk, AV.cells, reduceCtorEq, Nat.reduceLeDiff, Cells.get, Cells.getN, Nat.reduceMul, ↓bnd_assoc]
    refine Fin.write [.ptr (some ⟨.own p, 0⟩)] (q6.push (c := [.ptr none]) (t := 25)) rfl (by simp) rfl fun H6 q7 => ?_
    generalize H5.next = bs at *
    have q8 := (q7.pushm (es := [])).push (c := [.map none]) (t := 53)
    simp only [push_next] at q8
    generalize H6.next = mm at *
    refine Fin.write [.map (some (.own mm))] q8 rfl (by simp) rfl fun H7 q9 => ?_
    generalize mm + 1 = bm at *
    simp only [hl, ↓sxp, sxq, ↓reduceIte, Nat.reduceBEq, Nat.reduceLT, evP, evX, evR, blkOf, evA, storeA, Nat.reduceEqDiff, resL, resV, oneOrTup, Int.reduceEq, Int.reduceLT, Int.reduceLE, Int.reduceNeg, Int.reduceAdd, Int.reduceSub, Int.reduceMul, Int.reduceToNat, Nat.reduceAdd, noUnk, AV.cells, reduceCtorEq, Nat.reduceLeDiff, Cells.get, Cells.getN, Nat.reduceMul, ↓bnd_assoc]
    have q10 : Holds H7 [storeP W p S0, blk bs [.ptr (some ⟨.own p, 0⟩)] 25, blk bm [.map (some (.own mm))] 53, mp mm [], mark d0, blk H2.next [.ptr none] 25, blk 0 [.bool false] 4] := q9.ord [3, 2]
    refine Fin.loop (once_loop (br := 0) (bs := bs) (bm := bm) (p := p) hE hv hf1 hf2 ds.length 0 _ _ S0 (by omega) (by simp only [↓sxp, sxq, ↓reduceIte, Nat.reduceBEq, Nat.reduceLT, evP, evX, evR, blkOf, evA, storeA, Nat.reduceEqDiff, resL, resV, oneOrTup, Int.reduceEq, Int.reduceLT, Int.reduceLE, Int.reduceNeg, Int.reduceAdd, Int.reduceSub, Int.reduceMul, Int.reduceToNat, Nat.reduceAdd, noUnk, AV.cells, reduceCtorEq, Nat.reduceLeDiff, Cells.get, Cells.getN, Nat.reduceMul, ↓bnd_assoc]) (by simp only [↓sxp, sxq, ↓reduceIte, Nat.reduceBEq, Nat.reduceLT, evP, evX, evR, blkOf, evA, storeA, Nat.reduceEqDiff, resL, resV, oneOrTup, Int.reduceEq, Int.reduceLT, Int.reduceLE, Int.reduceNeg, Int.reduceAdd, Int.reduceSub, Int.reduceMul, Int.reduceToNat, Nat.reduceAdd, noUnk, AV.cells, reduceCtorEq, Nat.reduceLeDiff, Cells.get, Cells.getN, Nat.reduceMul, ↓bnd_assoc]) (by simp only [↓sxp, sxq, ↓reduceIte, Nat.reduceBEq, Nat.reduceLT, evP, evX, evR, blkOf, evA, storeA, Nat.reduceEqDiff, resL, resV, oneOrTup, Int.reduceEq, Int.reduceLT, Int.reduceLE, Int.reduceNeg, Int.reduceAdd, Int.reduceSub, Int.reduceMul, Int.reduceToNat, Nat.reduceAdd, noUnk, AV.cells, reduceCtorEq, Nat.reduceLeDiff, Cells.get, Cells.getN, Nat.reduceMul, ↓bnd_assoc]) (by simp only [↓sxp, sxq, ↓reduceIte, Nat.reduceBEq, Nat.reduceLT, evP, evX, evR, blkOf, evA, storeA, Nat.reduceEqDiff, resL, resV, oneOrTup, Int.reduceEq, Int.reduceLT, Int.reduceLE, Int.reduceNeg, Int.reduceAdd, Int.reduceSub, Int.reduceMul, Int.reduceToNat, Nat.reduceAdd, noUnk, AV.cells, reduceCtorEq, Nat.reduceLeDiff, Cells.get, Cells.getN, Nat.reduceMul, ↓bnd_assoc]) (by simp only [↓sxp, sxq, ↓reduceIte, Nat.reduceBEq, Nat.reduceLT, evP, evX, evR, blkOf, evA, storeA, Nat.reduceEqDiff, resL, resV, oneOrTup, Int.reduceEq, Int.reduceLT, Int.reduceLE, Int.reduceNeg, Int.reduceAdd, Int.reduceSub, Int.reduceMul, Int.reduceToNat, Nat.reduceAdd, noUnk, AV.cells, reduceCtorEq, Nat.reduceLeDiff, Cells.get, Cells.getN, Nat.reduceMul, ↓bnd_assoc]) (by simp only [↓sxp, sxq, ↓reduceIte, Nat.reduceBEq, Nat.reduceLT, evP, evX, evR, blkOf, evA, storeA, Nat.reduceEqDiff, resL, resV, oneOrTup, Int.reduceEq, Int.reduceLT, Int.reduceLE, Int.reduceNeg, Int.reduceAdd, Int.reduceSub, Int.reduceMul, Int.reduceToNat, Nat.reduceAdd, noUnk, AV.cells, reduceCtorEq, Nat.reduceLeDiff, Cells.get, Cells.getN, Nat.reduceMul, ↓bnd_assoc]; rfl) once0 (by simp [S0]) (by simp [S0]) q10) fun lv A H8 ⟨hlv, a2, a10, a11, S, ho, hL, q11⟩ => ?_
    subst hlv
    have gs := (q11.ord [1]).get
    have q12 := q11.push (c := [.ptr (some ⟨.own p, 0⟩)]) (t := 25)
    simp only [a10, ↓gs, s_all hE, ↓sxp, sxq, ↓reduceIte, Nat.reduceBEq, Nat.reduceLT, evP, evX, evR, blkOf, evA, storeA, Nat.reduceEqDiff, resL, resV, oneOrTup, Int.reduceEq, Int.reduceLT, Int.reduceLE, Int.reduceNeg, Int.reduceAdd, Int.reduceSub, Int.reduceMul, Int.reduceToNat, Nat.reduceAdd, noUnk, AV.cells, reduceCtorEq, Nat.reduceLeDiff, Cells.get, Cells.getN, Nat.reduceMul, ↓bnd_assoc]
    refine Fin.range (bx := H8.next) (fun i => mp mm (metM (S.L.take i)) :: blk bs [.ptr (some ⟨.own p, 0⟩)] 25 :: blk bm [.map (some (.own mm))] 53 :: [mark d0, blk H2.next [.ptr none] 25, blk 0 [.bool false] 4]) (fun _ => [HP.pure False]) hE (by omega) (by simp only [↓sxp, sxq, ↓reduceIte, Nat.reduceBEq, Nat.reduceLT, evP, evX, evR, blkOf, evA, storeA, Nat.reduceEqDiff, resL, resV, oneOrTup, Int.reduceEq, Int.reduceLT, Int.reduceLE, Int.reduceNeg, Int.reduceAdd, Int.reduceSub, Int.reduceMul, Int.reduceToNat, Nat.reduceAdd, noUnk, AV.cells, reduceCtorEq, Nat.reduceLeDiff, Cells.get, Cells.getN, Nat.reduceMul, ↓bnd_assoc]) (q12.ord [1, 0, 2]) (fun l d i x hx => once_round (br := 0) hE ho hL (by simp only [a10, ↓sxp, sxq, ↓reduceIte, Nat.reduceBEq, Nat.reduceLT, evP, evX, evR, blkOf, evA, storeA, Nat.reduceEqDiff, resL, resV, oneOrTup, Int.reduceEq, Int.reduceLT, Int.reduceLE, Int.reduceNeg, Int.reduceAdd, Int.reduceSub, Int.reduceMul, Int.reduceToNat, Nat.reduceAdd, noUnk, AV.cells, reduceCtorEq, Nat.reduceLeDiff, Cells.get, Cells.getN, Nat.reduceMul, ↓bnd_assoc]) (by simp only [a11, ↓sxp, sxq, ↓reduceIte, Nat.reduceBEq, Nat.reduceLT, evP, evX, evR, blkOf, evA, storeA, Nat.reduceEqDiff, resL, resV, oneOrTup, Int.reduceEq, Int.reduceLT, Int.reduceLE, Int.reduceNeg, Int.reduceAdd, Int.reduceSub, Int.reduceMul, Int.reduceToNat, Nat.reduceAdd, noUnk, AV.cells, reduceCtorEq, Nat.reduceLeDiff, Cells.get, Cells.getN, Nat.reduceMul, ↓bnd_assoc]) i x hx) ?_ ?_
    · intro d H9 q13
      simp only [a2, ↓sxp, sxq, ↓reduceIte, Nat.reduceBEq, Nat.reduceLT, evP, evX, evR, blkOf, evA, storeA, Nat.reduceEqDiff, resL, resV, oneOrTup, Int.reduceEq, Int.reduceLT, Int.reduceLE, Int.reduceNeg, Int.reduceAdd, Int.reduceSub, Int.reduceMul, Int.reduceToNat, Nat.reduceAdd, noUnk, AV.cells, reduceCtorEq, Nat.reduceLeDiff, Cells.get, Cells.getN, Nat.reduceMul, ↓bnd_assoc]
      refine Fin.write [.bool true] (q13.ord [8]) rfl (by simp) rfl fun H10 q14 => ?_
      have q14 : Holds H10 [blk 0 [.bool true] 4, mark d, storeP W p S, blk H8.next [.ptr (some ⟨.own p, 0⟩)] 25, mp mm (metM (S.L.take S.L.length)), blk bs [.ptr (some ⟨.own p, 0⟩)] 25, blk bm [.map (some (.own mm))] 53, mark d0, blk H2.next [.ptr none] 25] := q14
      have gd := (q14.ord [1]).geto
      have q15 := ((q14.ord [1]).seto (o' := .deferred false) rfl).ord [7]
      have ge := q15.geto
      have gr := ((q15.seto (o' := .deferred false) rfl).ord [2]).get
      simp only [↓finish_two gd ge, ↓gr, a2, ↓sxp, sxq, ↓reduceIte, Nat.reduceBEq, Nat.reduceLT, evP, evX, evR, blkOf, evA, storeA, Nat.reduceEqDiff, resL, resV, oneOrTup, Int.reduceEq, Int.reduceLT, Int.reduceLE, Int.reduceNeg, Int.reduceAdd, Int.reduceSub, Int.reduceMul, Int.reduceToNat, Nat.reduceAdd, noUnk, AV.cells, reduceCtorEq, Nat.reduceLeDiff, Cells.get, Cells.getN, Nat.reduceMul, ↓bnd_assoc]
      exact Fin.ret rfl
    · intro y d H9 hy q13
      exact absurd (q13.ord [3]).pure.1 id
end
end Go.Proofs.Ytnfehkjkmlbceaa.Sx

/- TermOnce: the row. -/
namespace Go.Proofs.Ytnfehkjkmlbceaa.Sx
open Go.Proofs
open Go.RowKit Go.WideShapes Go.ChangeShapes
set_option maxRecDepth 100000 in
theorem termOnce_lifted (os : Os) (started : os.Started) (H : Type) (enc' : TypeId × Value → H) :
    ReturnsInHanded {} Try.checked os 4 .any (Go.Proofs.Ytnfehkjkmlbceaa.Rows.termOnceSpec.pre6 enc' Try.prog Try.f4 Go.Proofs.Ytnfehkjkmlbceaa.Rows.termOnceRow.domain false) (Go.Proofs.Ytnfehkjkmlbceaa.Rows.termOnceSpec.post enc' Try.prog Try.f4 false true false false) := by
  refine law_lifted (C := Try.checked) Try.own' started (by kernel_rfl) Try.func4
    (ChangeSpec.witness6 (enc := enc') (C := Try.checked) false ⟨#[], #[.slice none 0 0], []⟩ 8 (by kernel_rfl) (by kernel_rfl) (by kernel_rfl) (by kernel_rfl))
    Try.laidOut' (by kernel_rfl) rfl rfl Try.underlying4 (fun ds hd => ?_) (E := fun _ => envF) envF_ok (fun W base args ds ps hval hA => ?_)
  · match ds, hd with
    | [d], _ => rfl
  · have hA' : DataW.TrodAll enc' Try.prog W 0 (fun _ => true) true [22] args.toList ds ps := hA
    obtain ⟨v0, d0, hv0, rfl, h0⟩ := trodAll_one hA'
    have hv : Value.okWide Try.prog W .any base 22 v0 := hval 0 22 v0 rfl (by rw [← Array.getElem?_toList, hv0]; rfl)
    obtain ⟨av, dd, h1, h2⟩ := dos_in hv h0
    refine ⟨[av], ?_, law_once envT rfl h2⟩
    rw [hv0]
    exact .cons h1 .nil
theorem termOnce_holds : Go.Proofs.Ytnfehkjkmlbceaa.Rows.TermOnceSaid :=
  OpenClaim.holds_of_wide 4 Try.f4 rfl rfl rfl rfl rfl rfl rfl ⟨rfl, rfl, rfl, rfl, rfl⟩ rfl rfl rfl rfl rfl (by kernel_rfl) Try.func4 (by kernel_rfl)
    (of_decide_eq_true (by kernel_rfl)) (by unfold Func.isWrapper; first | (rw [if_pos (by decide +kernel)]; kernel_rfl) | (rw [if_neg (by decide +kernel)]; exact ⟨rfl, rfl⟩))
    (fun os started H enc _ => termOnce_lifted os started H enc)
end Go.Proofs.Ytnfehkjkmlbceaa.Sx

namespace Go.Proofs.Ytnfehkjkmlbceaa
theorem termOnce_holds : Rows.TermOnceSaid := Sx.termOnce_holds
end Go.Proofs.Ytnfehkjkmlbceaa
