/- The statement Rows.DeduceOpensSaid: proved by a second, deterministic reading of the program that is sound for every order of evaluation and every capacity; no condition beyond the given row. -/
import Derived.Test.YtnfehkjkmlbceaaTwF
import Derived.Test.YtnfehkjkmlbceaaTwE
/- DeduceFrom. -/
namespace Go.Proofs.Ytnfehkjkmlbceaa.Sx
open HP
section
variable {W : World} {E : Env} {H : Heap} {Γ : List HP}
theorem hasK_at {hs : List Bool} {i : Nat} (h : i < hs.length) : hasK hs (i : Int) = hs[i] := by
  simp [hasK, h, List.getD_eq_getElem?_getD]
end
end Go.Proofs.Ytnfehkjkmlbceaa.Sx

/- DeduceFrom, whole. -/
namespace Go.Proofs.Ytnfehkjkmlbceaa.Sx
open HP
section
variable {W : World} {E : Env} {H : Heap} {Γ : List HP}
theorem Holds.fresh {A : HP} (h : Holds H Γ) (ha : A.P H []) : Holds H (A :: Γ) := by
  obtain ⟨fp, hp⟩ := h.a
  exact ⟨h.wf, fp, [], fp, ha, hp, by simp, by simp⟩
end
end Go.Proofs.Ytnfehkjkmlbceaa.Sx

/- DeduceOpens, whole. -/
namespace Go.Proofs.Ytnfehkjkmlbceaa.Sx
open HP
section
variable {W : World} {E : Env} {H : Heap} {Γ : List HP}
theorem hasK_of {hs : List Bool} {w : Int} (h0 : 0 ≤ w) (h1 : w < hs.length) (h : hs.getD w.toNat false = true) : hasK hs w = true := by
  simp only [hasK, h, decide_eq_true h0, decide_eq_true h1]; rfl
theorem getM_at {S : MS} {i : Nat} {x : T3} (h : S.L[i]? = some x) : getM S (i : Int) = x := getM_in h
theorem opens_4 {L : List T3} (hw : WFL L) {n : Nat} {u w key : Int} {y : T3} (hx : L[n]? = some (4, u, w)) (hy : L[u.toNat]? = some y) (hk : key = y.2.1) {hs : List Bool} (hc : Clo L (inG [(n : Int), key]) hs) : hasK hs w = true := by
  have hn := (List.getElem?_eq_some_iff.1 hx).1
  obtain ⟨_, w2⟩ := hw n _ hx
  have hw0 := w2 (.inl rfl)
  simp only at hw0
  have e1 := hc.ge n ⟨n, by simp, by simp⟩
  have e2 := mkZ_has hc.len _ (hc.ge key.toNat ⟨key, by simp, rfl⟩)
  have hop : opM L (mkZ L hs) n = (w, true) := by
    unfold opM
    simp only [List.getD_eq_getElem?_getD, hx, Option.getD_some, if_true, hy]
    rw [hk, List.getD_eq_getElem?_getD] at e2
    rw [e2]
  have e3 := hc.cl n hn e1 (by rw [hop])
  rw [hop] at e3
  exact hasK_of hw0.1 (by rw [hc.len]; omega) e3
theorem opens_5 {L : List T3} (hw : WFL L) {n : Nat} {u w : Int} (hx : L[n]? = some (5, u, w)) {hs : List Bool} (hc : Clo L (inG [(n : Int), u]) hs) : hasK hs w = true := by
  have hn := (List.getElem?_eq_some_iff.1 hx).1
  obtain ⟨_, w2⟩ := hw n _ hx
  have hw0 := w2 (.inr (.inl rfl))
  simp only at hw0
  have e1 := hc.ge n ⟨n, by simp, by simp⟩
  have e2 := mkZ_has hc.len _ (hc.ge u.toNat ⟨u, by simp, rfl⟩)
  have hop : opM L (mkZ L hs) n = (w, true) := by
    unfold opM
    rw [List.getD_eq_getElem?_getD] at e2
    simp only [List.getD_eq_getElem?_getD, hx, Option.getD_some, if_true, e2]
    rfl
  have e3 := hc.cl n hn e1 (by rw [hop])
  rw [hop] at e3
  exact hasK_of hw0.1 (by rw [hc.len]; omega) e3
theorem law_opens (hE : EnvK E) (h7 : E 7 = some (.code sf7)) {ds : List Do1} {v : AV} (hv : Dos W ds v) (n : Int) : ∃ H', go W E 7 [v, .int .i64 n] ⟨0, .e, .e⟩ = some (.bool true, H') := by
  suffices Fin (fun r => r.1 = .bool true) (go W E 7 [v, .int .i64 n] ⟨0, .e, .e⟩) by
    obtain ⟨⟨r, H'⟩, e, hr⟩ := this
    simp only at hr
    subst hr
    exact ⟨H', e⟩
  rw [go_code h7 (by simp [sf7])]
  simp only [sf7, ↓sxp, sxq, ↓reduceIte, Nat.reduceBEq, Nat.reduceLT, evP, evX, evR, blkOf, evA, storeA, Nat.reduceEqDiff, resL, resV, oneOrTup, Int.reduceEq, Int.reduceLT, Int.reduceLE, Int.reduceNeg, Int.reduceAdd, Int.reduceSub, Int.reduceMul, Int.reduceToNat, Nat.reduceAdd, noUnk, AV.cells, reduceCtorEq, Nat.reduceLeDiff, Cells.get, Cells.getN, Nat.reduceMul, ↓bnd_assoc]
  refine Fin.call (l_awake15 hE (Holds.nil HWf.empty)) fun H1 q1 => ?_
  simp only [↓sxp, sxq, ↓reduceIte, Nat.reduceBEq, Nat.reduceLT, evP, evX, evR, blkOf, evA, storeA, Nat.reduceEqDiff, resL, resV, oneOrTup, Int.reduceEq, Int.reduceLT, Int.reduceLE, Int.reduceNeg, Int.reduceAdd, Int.reduceSub, Int.reduceMul, Int.reduceToNat, Nat.reduceAdd, noUnk, AV.cells, reduceCtorEq, Nat.reduceLeDiff, Cells.get, Cells.getN, Nat.reduceMul, ↓bnd_assoc]
  refine Fin.call (l_few hE.t hv q1) fun H3 q3 => ?_
  cases hfw : (fewL ds && decide (ds.length ≤ 30)) with
  | false =>
    simp only [↓sxp, sxq, ↓reduceIte, Nat.reduceBEq, Nat.reduceLT, evP, evX, evR, blkOf, evA, storeA, Nat.reduceEqDiff, resL, resV, oneOrTup, Int.reduceEq, Int.reduceLT, Int.reduceLE, Int.reduceNeg, Int.reduceAdd, Int.reduceSub, Int.reduceMul, Int.reduceToNat, Nat.reduceAdd, noUnk, AV.cells, reduceCtorEq, Nat.reduceLeDiff, Cells.get, Cells.getN, Nat.reduceMul, ↓bnd_assoc]
    exact Fin.ret rfl
  | true =>
    obtain ⟨hf1, hf2⟩ := Bool.and_eq_true_iff.1 hfw
    have hf2 : ds.length ≤ 30 := by simpa using hf2
    simp only [↓sxp, sxq, ↓reduceIte, Nat.reduceBEq, Nat.reduceLT, evP, evX, evR, blkOf, evA, storeA, Nat.reduceEqDiff, resL, resV, oneOrTup, Int.reduceEq, Int.reduceLT, Int.reduceLE, Int.reduceNeg, Int.reduceAdd, Int.reduceSub, Int.reduceMul, Int.reduceToNat, Nat.reduceAdd, noUnk, AV.cells, reduceCtorEq, Nat.reduceLeDiff, Cells.get, Cells.getN, Nat.reduceMul, ↓bnd_assoc]
    refine Fin.callE _ _ (l_made hE hv hf1 hf2 q3) fun x H4 q4 => ?_
    obtain ⟨p, S, vl⟩ := x
    obtain ⟨hgd, q5⟩ := q4.pure
    simp only at hgd q5
    have hw := hgd.wf
    have hw4 := hgd.w4
    have hS := hgd.len
    have hvl := (q5.ord [1]).row_len (by omega) (n := S.L.length) (flat3_len _)
    have hvl : lenV vl = some (.int .i64 (S.L.length : Int)) := by obtain ⟨a, c, rfl⟩ := hvl; rfl
    simp only [↓sxp, sxq, ↓reduceIte, Nat.reduceBEq, Nat.reduceLT, evP, evX, evR, blkOf, evA, storeA, Nat.reduceEqDiff, resL, resV, oneOrTup, Int.reduceEq, Int.reduceLT, Int.reduceLE, Int.reduceNeg, Int.reduceAdd, Int.reduceSub, Int.reduceMul, Int.reduceToNat, Nat.reduceAdd, noUnk, AV.cells, reduceCtorEq, Nat.reduceLeDiff, Cells.get, Cells.getN, Nat.reduceMul, ↓bnd_assoc]
    refine Fin.call (s_opens hE q5 n) fun H5 q6 => ?_
    simp only [↓sxp, sxq, ↓reduceIte, Nat.reduceBEq, Nat.reduceLT, evP, evX, evR, blkOf, evA, storeA, Nat.reduceEqDiff, resL, resV, oneOrTup, Int.reduceEq, Int.reduceLT, Int.reduceLE, Int.reduceNeg, Int.reduceAdd, Int.reduceSub, Int.reduceMul, Int.reduceToNat, Nat.reduceAdd, noUnk, AV.cells, reduceCtorEq, Nat.reduceLeDiff, Cells.get, Cells.getN, Nat.reduceMul, ↓bnd_assoc]
    by_cases h0 : n < 0
    · have hno : opensM S n = (0, 0, false) := by
        have : hasM S.L n 0 = false := by simp [hasM]; omega
        simp [opensM, getM, this]
      rw [hno]
      simp only [h0, ↓sxp, sxq, ↓reduceIte, Nat.reduceBEq, Nat.reduceLT, evP, evX, evR, blkOf, evA, storeA, Nat.reduceEqDiff, resL, resV, oneOrTup, Int.reduceEq, Int.reduceLT, Int.reduceLE, Int.reduceNeg, Int.reduceAdd, Int.reduceSub, Int.reduceMul, Int.reduceToNat, Nat.reduceAdd, noUnk, AV.cells, reduceCtorEq, Nat.reduceLeDiff, Cells.get, Cells.getN, Nat.reduceMul, ↓bnd_assoc]
      exact Fin.ret rfl
    by_cases h1 : (S.L.length : Int) ≤ n
    · have hno : opensM S n = (0, 0, false) := by
        have : hasM S.L n 0 = false := by simp [hasM]; omega
        simp [opensM, getM, this]
      rw [hno]
      simp only [h0, h1, hvl, ↓sxp, sxq, ↓reduceIte, Nat.reduceBEq, Nat.reduceLT, evP, evX, evR, blkOf, evA, storeA, Nat.reduceEqDiff, resL, resV, oneOrTup, Int.reduceEq, Int.reduceLT, Int.reduceLE, Int.reduceNeg, Int.reduceAdd, Int.reduceSub, Int.reduceMul, Int.reduceToNat, Nat.reduceAdd, noUnk, AV.cells, reduceCtorEq, Nat.reduceLeDiff, Cells.get, Cells.getN, Nat.reduceMul, ↓bnd_assoc]
      exact Fin.ret rfl
    obtain ⟨i, rfl⟩ := Int.eq_ofNat_of_zero_le (show 0 ≤ n by omega)
    have hi : i < S.L.length := by omega
    have hi0 : (0 : Int) ≤ i ∧ (i : Int) < S.L.length := by omega
    have hx : S.L[i]? = some S.L[i] := List.getElem?_eq_getElem hi
    obtain ⟨j, l, c, rfl, hg⟩ := (q6.ord [1]).row_get (by omega) (n := S.L.length) (flat3_len _) (by omega)
    obtain ⟨hf1, hf2, hf3⟩ := flat3_get hx
    obtain ⟨w1, w2⟩ := hw i _ hx
    have h4' := hw4 i _ hx
    have hgm := getM_at hx
    unfold opensM
    rw [hgm]
    generalize S.L[i] = x at *
    obtain ⟨kd, u, w⟩ := x
    simp only at hf1 hf2 hf3 w1 w2 h4' ⊢
    by_cases k4 : kd = 4
    · subst k4
      obtain ⟨y, hy, hy2⟩ := h4' rfl
      obtain ⟨u0, u1⟩ := w1 (by omega) (by omega)
      obtain ⟨v0, v1⟩ := w2 (.inl rfl)
      have hu0 : 0 ≤ u ∧ u < S.L.length := by omega
      have hyl := (List.getElem?_eq_some_iff.1 hy).1
      obtain ⟨y0, y1⟩ := (hw _ _ hy).1 (by omega) (by omega)
      obtain ⟨_, hfy, _⟩ := flat3_get hy
      have hgy : getM S u = y := by
        have := getM_at hy
        rwa [show ((u.toNat : Nat) : Int) = u from by omega] at this
      rw [hgy]
      simp only [h0, h1, hvl, hi0, hu0, and_self, ↓hg, hf1, hf2, hfy, Int.toNat_natCast, ↓sxp, sxq, ↓reduceIte, Nat.reduceBEq, Nat.reduceLT, evP, evX, evR, blkOf, evA, storeA, Nat.reduceEqDiff, resL, resV, oneOrTup, Int.reduceEq, Int.reduceLT, Int.reduceLE, Int.reduceNeg, Int.reduceAdd, Int.reduceSub, Int.reduceMul, Int.reduceToNat, Nat.reduceAdd, noUnk, AV.cells, reduceCtorEq, Nat.reduceLeDiff, Cells.get, Cells.getN, Nat.reduceMul, ↓bnd_assoc]
      have hin : inR S.L.length [(i : Int), y.2.1] = true := by
        simp only [inR, List.all_cons, List.all_nil, Bool.and_eq_true, decide_eq_true_eq]; exact ⟨hi0, ⟨by omega, by omega⟩, trivial⟩
      have q7 : Holds _ (isP W [(i : Int), y.2.1] (.sl (some ⟨.own H5.next, 0⟩) 2 (.exact 2)) :: storeP W p S :: row 33 3 (flat3 S.L) (.sl (some ⟨.own j, 0⟩) S.L.length c) :: []) := blk_is (q6.push (c := ints [(i : Int), y.2.1]) (t := 3))
      refine Fin.callE _ _ ((p_from hE (q7.ord [1]) hw hw4 (by omega) (by simp)).2 hin) fun x H6 q8 => ?_
      obtain ⟨k, hs⟩ := x
      obtain ⟨hc, q9⟩ := q8.pure
      simp only at hc q9
      have hh := opens_4 hw hx hy rfl hc
      have f1 := p_has (W := W) hE q9 w
      rw [hh] at f1
      obtain ⟨j', l', c', e', hg'⟩ := (q9.ord [3]).row_get (by omega) (n := S.L.length) (flat3_len _) (by omega)
      cases e'
      simp only [hi0, and_self, ↓hg', hf3, f1, Int.toNat_natCast, ↓sxp, sxq, ↓reduceIte, Nat.reduceBEq, Nat.reduceLT, evP, evX, evR, blkOf, evA, storeA, Nat.reduceEqDiff, resL, resV, oneOrTup, Int.reduceEq, Int.reduceLT, Int.reduceLE, Int.reduceNeg, Int.reduceAdd, Int.reduceSub, Int.reduceMul, Int.reduceToNat, Nat.reduceAdd, noUnk, AV.cells, reduceCtorEq, Nat.reduceLeDiff, Cells.get, Cells.getN, Nat.reduceMul, ↓bnd_assoc]
      exact Fin.ret rfl
    by_cases k5 : kd = 5
    · subst k5
      obtain ⟨u0, u1⟩ := w1 (by omega) (by omega)
      obtain ⟨v0, v1⟩ := w2 (.inr (.inl rfl))
      have hu0 : 0 ≤ u ∧ u < S.L.length := by omega
      simp only [h0, h1, hvl, hi0, hu0, and_self, ↓hg, hf1, hf2, Int.toNat_natCast, Int.reduceEq, ↓sxp, sxq, ↓reduceIte, Nat.reduceBEq, Nat.reduceLT, evP, evX, evR, blkOf, evA, storeA, Nat.reduceEqDiff, resL, resV, oneOrTup, Int.reduceEq, Int.reduceLT, Int.reduceLE, Int.reduceNeg, Int.reduceAdd, Int.reduceSub, Int.reduceMul, Int.reduceToNat, Nat.reduceAdd, noUnk, AV.cells, reduceCtorEq, Nat.reduceLeDiff, Cells.get, Cells.getN, Nat.reduceMul, ↓bnd_assoc]
      have hin : inR S.L.length [(i : Int), u] = true := by
        simp only [inR, List.all_cons, List.all_nil, Bool.and_eq_true, decide_eq_true_eq]; exact ⟨hi0, hu0, trivial⟩
      have q7 : Holds _ (isP W [(i : Int), u] (.sl (some ⟨.own H5.next, 0⟩) 2 (.exact 2)) :: storeP W p S :: row 33 3 (flat3 S.L) (.sl (some ⟨.own j, 0⟩) S.L.length c) :: []) := blk_is (q6.push (c := ints [(i : Int), u]) (t := 3))
      refine Fin.callE _ _ ((p_from hE (q7.ord [1]) hw hw4 (by omega) (by simp)).2 hin) fun x H6 q8 => ?_
      obtain ⟨k, hs⟩ := x
      obtain ⟨hc, q9⟩ := q8.pure
      simp only at hc q9
      have hh := opens_5 hw hx hc
      have f1 := p_has (W := W) hE q9 w
      rw [hh] at f1
      obtain ⟨j', l', c', e', hg'⟩ := (q9.ord [3]).row_get (by omega) (n := S.L.length) (flat3_len _) (by omega)
      cases e'
      simp only [hi0, and_self, ↓hg', hf3, f1, Int.toNat_natCast, ↓sxp, sxq, ↓reduceIte, Nat.reduceBEq, Nat.reduceLT, evP, evX, evR, blkOf, evA, storeA, Nat.reduceEqDiff, resL, resV, oneOrTup, Int.reduceEq, Int.reduceLT, Int.reduceLE, Int.reduceNeg, Int.reduceAdd, Int.reduceSub, Int.reduceMul, Int.reduceToNat, Nat.reduceAdd, noUnk, AV.cells, reduceCtorEq, Nat.reduceLeDiff, Cells.get, Cells.getN, Nat.reduceMul, ↓bnd_assoc]
      exact Fin.ret rfl
    · simp only [h0, h1, hvl, hi0, and_self, ↓hg, hf1, hf2, Int.toNat_natCast, k4, k5, ↓sxp, sxq, ↓reduceIte, Nat.reduceBEq, Nat.reduceLT, evP, evX, evR, blkOf, evA, storeA, Nat.reduceEqDiff, resL, resV, oneOrTup, Int.reduceEq, Int.reduceLT, Int.reduceLE, Int.reduceNeg, Int.reduceAdd, Int.reduceSub, Int.reduceMul, Int.reduceToNat, Nat.reduceAdd, noUnk, AV.cells, reduceCtorEq, Nat.reduceLeDiff, Cells.get, Cells.getN, Nat.reduceMul, ↓bnd_assoc]
      exact Fin.ret rfl
end
end Go.Proofs.Ytnfehkjkmlbceaa.Sx

/- Lists of numbers that are given. -/
namespace Go.Proofs.Ytnfehkjkmlbceaa.Sx
open Go.Proofs
open Go.RowKit Go.WideShapes Go.ChangeShapes
theorem ints_in {W : World} {H : Type} {enc' : TypeId × Value → H} {hd : Bool} {base : Nat} {v : Value} {d : DataW H} {ps : List MemPlace} (hv : Value.okWide Try.prog W .any base 54 v) (h : DataW.Trod enc' Try.prog W 0 (fun _ => true) hd 54 v d ps) :
    ∃ av g, VR ⟨fun _ => none, fun _ => 0⟩ av v ∧ g.length ≤ 9223372036854775807 ∧ ∀ H, Is W H g av [] := by
  obtain ⟨a0, len0, cap0, rfl⟩ := WideShapes.okWide_slice Try.underlying54 hv
  obtain ⟨n, h⟩ := h
  rcases DataW.trod_slice Try.underlying54 h with ⟨hc, _⟩ | ⟨a, len, cap, elems, rest, m, _, hc, _, _, hlc, hm, hlen, hel, _, _⟩
  · simp only [Value.cells, List.cons.injEq, Value.slice.injEq, and_true] at hc
    obtain ⟨rfl, rfl, rfl⟩ := hc
    exact ⟨.sl none 0 (.exact 0), [], .slN 0 0, by simp, fun H => .nil rfl⟩
  · simp only [Value.cells, List.cons.injEq, Value.slice.injEq, and_true] at hc
    obtain ⟨rfl, rfl, rfl⟩ := hc
    rw [cells3] at hel
    by_cases h0 : len0 = 0
    · subst h0
      exact ⟨.emp, [], .emp a cap0, by simp, fun H => .emp rfl⟩
    · have each : ∀ i, i < len0 → ∃ k : Int, W.cell? (a.add i) = some (.int .i64 k) := fun i hi => by
        have := hel i hi
        rw [List.getElem?_eq_getElem (by omega), Option.bind_eq_some_iff, Nat.mul_one] at this
        obtain ⟨cs', h1, h2⟩ := this
        obtain ⟨k, rfl, _, _⟩ := DataW.trod_int Try.underlying3 h2
        exact ⟨k, ChangeShapes.cell_of_cells?_one h1⟩
      obtain ⟨F, hF⟩ := Deep.choose_lt each
      have hb0 := hF 0 (by omega)
      have e0 : a.add 0 = a := by unfold Addr.add; cases a; simp
      rw [e0] at hb0
      have hspot := World.cell?_spot hb0
      have hall : W.cells? 0 a len0 = some ((List.range len0).map fun i => .int .i64 (F i)) := by
        unfold World.cells?
        rw [if_pos (Nat.zero_le _)]
        exact ChangeShapes.mapM_range_of len0 fun i hi => hF i hi
      obtain ⟨_, c, hblk, hg⟩ := cells_old hall (by omega)
      obtain ⟨ab, ao, asp⟩ := a
      simp only at hspot
      subst hspot
      have hlen' : ((List.range len0).map F).length = len0 := by simp
      refine ⟨.sl (some ⟨.old ab, ao⟩) len0 (.exact cap0), (List.range len0).map F, .sl ⟨rfl, rfl, rfl⟩ rfl, ?_, fun H => ?_⟩
      · have : maxLen ≤ 9223372036854775807 := by decide
        simp; omega
      · have := Is.old (W := W) (H := H) (l := (List.range len0).map F) ab ao (.exact cap0) c (hblk H) (by
          rw [hlen', hg]
          simp [ints, List.map_map, Function.comp_def, enc])
        rw [hlen'] at this
        exact this
theorem envK : EnvK envF := by constructor <;> first | exact envT | rfl
end Go.Proofs.Ytnfehkjkmlbceaa.Sx

/- DeduceOpens: the row. -/
namespace Go.Proofs.Ytnfehkjkmlbceaa.Sx
open Go.Proofs
open Go.RowKit Go.WideShapes Go.ChangeShapes
set_option maxRecDepth 100000 in
theorem deduceOpens_lifted (os : Os) (started : os.Started) (H : Type) (enc' : TypeId × Value → H) :
    ReturnsInHanded {} Try.checked os 7 .any (Go.Proofs.Ytnfehkjkmlbceaa.Rows.deduceOpensSpec.pre6 enc' Try.prog Try.f7 Go.Proofs.Ytnfehkjkmlbceaa.Rows.deduceOpensRow.domain false) (Go.Proofs.Ytnfehkjkmlbceaa.Rows.deduceOpensSpec.post enc' Try.prog Try.f7 false true false false) := by
  refine law_lifted (C := Try.checked) Try.own' started (by kernel_rfl) Try.func7
    (ChangeSpec.witness6 (enc := enc') (C := Try.checked) false ⟨#[], #[.slice none 0 0, .int .i64 0], []⟩ 8 (by kernel_rfl) (by kernel_rfl) (by kernel_rfl) (by kernel_rfl))
    Try.laidOut' (by kernel_rfl) rfl rfl Try.underlying4 (fun ds hd => ?_) (E := fun _ => envF) envF_ok (fun W base args ds ps hval hA => ?_)
  · match ds, hd with
    | [d, e], _ => rfl
  · have hA' : DataW.TrodAll enc' Try.prog W 0 (fun _ => true) true [22, 3] args.toList ds ps := hA
    obtain ⟨v0, v1, d0, d1, p0, p1, hv0, rfl, rfl, h0, h1⟩ := trodAll_two hA'
    have hv : Value.okWide Try.prog W .any base 22 v0 := hval 0 22 v0 rfl (by rw [← Array.getElem?_toList, hv0]; rfl)
    have hw : Value.okWide Try.prog W   .any base 3 v1 := hval 1 3 v1 rfl (by rw [← Array.getElem?_toList, hv0]; rfl)
    obtain ⟨av, dd, r1, r2⟩ := dos_in hv h0
    obtain ⟨n, rfl⟩ := WideShapes.okWide_int Try.underlying3 hw
    refine ⟨[av, .int .i64 n], ?_, law_opens envK rfl r2 n⟩
    rw [hv0]
    exact .cons r1 (.cons (.int ..) .nil)
theorem deduceOpens_holds : Go.Proofs.Ytnfehkjkmlbceaa.Rows.DeduceOpensSaid :=
  OpenClaim.holds_of_wide 7 Try.f7 rfl rfl rfl rfl rfl rfl rfl ⟨rfl, rfl, rfl, rfl, rfl⟩ rfl rfl rfl rfl rfl (by kernel_rfl) Try.func7 (by kernel_rfl)
    (of_decide_eq_true (by kernel_rfl)) (by unfold Func.isWrapper; first | (rw [if_pos (by decide +kernel)]; kernel_rfl) | (rw [if_neg (by decide +kernel)]; exact ⟨rfl, rfl⟩))
    (fun os started H enc _ => deduceOpens_lifted os started H enc)
end Go.Proofs.Ytnfehkjkmlbceaa.Sx

namespace Go.Proofs.Ytnfehkjkmlbceaa
theorem deduceOpens_holds : Rows.DeduceOpensSaid := Sx.deduceOpens_holds
end Go.Proofs.Ytnfehkjkmlbceaa
