/- A second, deterministic reading of the program, part 6: proved sound for every order and every capacity; then what the functions do. -/
import Derived.Test.YtjfnhdiimibmiaaDoorMaE
/- Tags, the document's. -/
namespace Go.Proofs.YtjfnhdiimibmiaaDoor.Sx
open HP
def HP.or (A B : HP) : HP := ⟨fun H fp => A.P H fp ∨ B.P H fp, fun hw h => h.elim (A.lt hw) (B.lt hw), fun hw h k hd => h.imp (fun h => A.keep hw h k hd) (fun h => B.keep hw h k hd)⟩
/-- Bytes that can be appended to, as a piece. -/
def HP.xh (bs : List UInt8) (v : AV) : HP := HP.or (row 5 1 (cb bs) v) (HP.ex fun j => HP.sep (HP.pure (0 < bs.length ∧ v = .sl (some ⟨.own j, 0⟩) bs.length (.exact bs.length))) (blk j (cb bs) 5))
theorem XH.toH {H : Heap} {bs : List UInt8} {v : AV} {Γ : List HP} (h : XH H bs v Γ) : Holds H (HP.xh bs v :: Γ) := by
  rcases h with h | ⟨j, h0, e, h⟩
  · exact h.imp fun fp hp => .inl hp
  · have h2 : Holds H (HP.ex (fun j => HP.sep (HP.pure (0 < bs.length ∧ v = .sl (some ⟨.own j, 0⟩) bs.length (.exact bs.length))) (blk j (cb bs) 5)) :: Γ) := (h.pure' ⟨h0, e⟩).sep'.ex' j
    exact h2.imp fun fp hp => .inr hp
theorem XH.ofH {H : Heap} {bs : List UInt8} {v : AV} {Γ : List HP} (h : Holds H (HP.xh bs v :: Γ)) : XH H bs v Γ := by
  obtain ⟨fp, f, g, a, b, e, d⟩ := h.a
  rcases a with a | a
  · exact .inl ⟨h.wf, fp, f, g, a, b, e, d⟩
  · have h2 : Holds H (HP.ex (fun j => HP.sep (HP.pure (0 < bs.length ∧ v = .sl (some ⟨.own j, 0⟩) bs.length (.exact bs.length))) (blk j (cb bs) 5)) :: Γ) := ⟨h.wf, fp, f, g, a, b, e, d⟩
    obtain ⟨j, h3⟩ := h2.ex
    obtain ⟨⟨h0, e⟩, h4⟩ := h3.sep.pure
    exact .inr ⟨j, h0, e, h4⟩
def tagF (key m : List UInt8) : List UInt8 := sumF (padK key 92 ++ sumF (padK key 54 ++ m))
theorem sumF_len (M : List UInt8) : (sumF M).length = 64 := by
  unfold sumF
  rw [bytesL_len]; rfl
section
variable {W : World} {E : Env} {H : Heap} {Γ : List HP}
theorem Fin.xapp {α : Type} {P : α → Prop} {k : AV × Heap → Option α} {bs ps : List UInt8} {v x : AV} (h : XH H bs v Γ) (hx : srcA W H 1 false x = some (ps.length, cb ps)) (h0 : 0 < ps.length) (hb : bs.length + ps.length ≤ 140737488355328)
    (hk : ∀ v' H', Holds H' (row 5 1 (cb (bs ++ ps)) v' :: Γ) → Fin P (k (v', H'))) : Fin P (bnd (appA W H 5 1 1 false v x) k) := by
  obtain ⟨v', H', e, h'⟩ := h.app hx h0 hb
  rw [e, bnd_some]
  exact hk _ _ h'
theorem padK_get (key : List UInt8) (b : UInt8) (i : Nat) (h1 : key.length ≤ 128) (hi : i < 128) : (padK key b).getD i 0 = if i < key.length then key.getD i 0 ^^^ b else b := by
  unfold padK
  have hl : i < (key ++ List.replicate (128 - key.length) (0 : UInt8)).length := by rw [List.length_append, List.length_replicate]; omega
  simp only [List.getD_eq_getElem?_getD, List.getElem?_map, List.getElem?_append]
  by_cases h : i < key.length
  · rw [if_pos h, if_pos h, List.getElem?_eq_getElem h]; rfl
  · rw [if_neg h, if_neg h, List.getElem?_replicate, if_pos (by omega)]
    simp
theorem take_succ_b (l : List UInt8) (t : Nat) (h : t < l.length) : l.take (t + 1) = l.take t ++ [l.getD t 0] := by
  rw [List.take_succ_eq_append_getElem h, List.getD_eq_getElem?_getD, List.getElem?_eq_getElem h]; rfl
theorem XH.fr {bs : List UInt8} {v : AV} {R : HP} (h : XH H bs v (R :: Γ)) : ∃ Δ, Holds H (R :: Δ) := by
  rcases h with h | ⟨j, _, _, h⟩
  · exact ⟨_, h.ord [1]⟩
  · exact ⟨_, h.ord [1]⟩
theorem dpad_loop {key : List UInt8} {kv : AV} {R : HP} {b : UInt8} (hR : RdLike W key kv R) (h1 : key.length ≤ 128) {df : List Nat} : ∀ (m i : Nat) (A : Tm) (H : Heap) (v : AV), i + m = 128 → getX A 1 = .int .u8 b.toNat → getX A 5 = kv → getX A 6 = v → getX A 7 = .int .i64 i → XH H ((padK key b).take i) v (R :: Γ) →
    ∃ lv A' H', run W E (.loop lp51_0) ⟨A, df, none⟩ H = some (lv, ⟨A', df, none⟩, H') ∧ (lv = .exit 0 ∧ ∃ v', getX A' 6 = v' ∧ XH H' (padK key b) v' (R :: Γ)) := by
  have hlp : ∀ f H, run W E lp51_0 f H = run W E lp51_0 f H := fun _ _ => rfl
  conv at hlp => enter [f, H, 2]; unfold lp51_0
  have hpl := padK_len key b h1
  intro m
  induction m with
  | zero =>
    intro i A H v him a1 a5 a6 a7 h
    have : i = 128 := by omega
    subst this
    have a7' : getX A 7 = .int .i64 128 := a7
    rw [run_loop]
    simp only [hlp, a7', ↓sxp, sxq, seval, evP, evX, evR, blkOf, evA, storeA, resL, resV, oneOrTup, noUnk, AV.cells, Cells.get, ↓bnd_assoc]
    rw [List.take_of_length_le (by omega)] at h
    exact ⟨_, _, _, rfl, rfl, v, by simp only [a6, ↓sxp, sxq, seval, evP, evX, evR, blkOf, evA, storeA, resL, resV, oneOrTup, noUnk, AV.cells, Cells.get, ↓bnd_assoc], h⟩
  | succ m ih =>
    intro i A H v him a1 a5 a6 a7 h
    have hlt : (i : Int) < 128 := by omega
    have hwr : IntKind.i64.wrap ((i : Int) + 1) = ((i + 1 : Nat) : Int) := by rw [w64 (by omega)]; simp
    obtain ⟨Δ, hh⟩ := h.fr
    have hlen := (hR hh).len
    have htl : ((padK key b).take i).length < 1099511627776 := by rw [List.length_take]; omega
    have hg := padK_get key b i h1 (by omega)
    have hts := take_succ_b (padK key b) i (by omega)
    apply Fin.ex3
    rw [run_loop]
    by_cases hk : i < key.length
    · have hk' : (i : Int) < key.length := by omega
      obtain ⟨p, e1, e2⟩ := (hR hh).at (i := i) hk
      have hkd : key.getD i 0 = key[i] := by rw [List.getD_eq_getElem?_getD, List.getElem?_eq_getElem hk]; rfl
      rw [if_pos hk, hkd] at hg
      have hx := b8_xor key[i] b
      rw [hg] at hts
      simp only [hlp, a1, a5, a6, a7, hlt, hlen, hk', e1, e2, hx, ↓sxp, sxq, seval, evP, evX, evR, blkOf, evA, storeA, resL, resV, oneOrTup, noUnk, AV.cells, Cells.get, ↓bnd_assoc]
      refine Fin.byte h (key[i] ^^^ b) htl fun v' H' h' => ?_
      rw [← hts] at h'
      simp only [a7, hwr, ↓sxp, sxq, seval, evP, evX, evR, blkOf, evA, storeA, resL, resV, oneOrTup, noUnk, AV.cells, Cells.get, ↓bnd_assoc]
      exact Fin.of3 (ih (i + 1) _ _ v' (by omega) (by simp only [a1, ↓sxp, sxq, seval, evP, evX, evR, blkOf, evA, storeA, resL, resV, oneOrTup, noUnk, AV.cells, Cells.get, ↓bnd_assoc]) (by simp only [a5, ↓sxp, sxq, seval, evP, evX, evR, blkOf, evA, storeA, resL, resV, oneOrTup, noUnk, AV.cells, Cells.get, ↓bnd_assoc]) (by simp only [↓sxp, sxq, seval, evP, evX, evR, blkOf, evA, storeA, resL, resV, oneOrTup, noUnk, AV.cells, Cells.get, ↓bnd_assoc]) (by simp only [↓sxp, sxq, seval, evP, evX, evR, blkOf, evA, storeA, resL, resV, oneOrTup, noUnk, AV.cells, Cells.get, ↓bnd_assoc]) (.inl h')) fun lv A' H' q => q
    · have hk' : ¬ (i : Int) < key.length := by omega
      rw [if_neg hk] at hg
      rw [hg] at hts
      simp only [hlp, a1, a5, a6, a7, hlt, hlen, hk', ↓sxp, sxq, seval, evP, evX, evR, blkOf, evA, storeA, resL, resV, oneOrTup, noUnk, AV.cells, Cells.get, ↓bnd_assoc]
      refine Fin.byte h b htl fun v' H' h' => ?_
      rw [← hts] at h'
      simp only [a7, hwr, ↓sxp, sxq, seval, evP, evX, evR, blkOf, evA, storeA, resL, resV, oneOrTup, noUnk, AV.cells, Cells.get, ↓bnd_assoc]
      exact Fin.of3 (ih (i + 1) _ _ v' (by omega) (by simp only [a1, ↓sxp, sxq, seval, evP, evX, evR, blkOf, evA, storeA, resL, resV, oneOrTup, noUnk, AV.cells, Cells.get, ↓bnd_assoc]) (by simp only [a5, ↓sxp, sxq, seval, evP, evX, evR, blkOf, evA, storeA, resL, resV, oneOrTup, noUnk, AV.cells, Cells.get, ↓bnd_assoc]) (by simp only [↓sxp, sxq, seval, evP, evX, evR, blkOf, evA, storeA, resL, resV, oneOrTup, noUnk, AV.cells, Cells.get, ↓bnd_assoc]) (by simp only [↓sxp, sxq, seval, evP, evX, evR, blkOf, evA, storeA, resL, resV, oneOrTup, noUnk, AV.cells, Cells.get, ↓bnd_assoc]) (.inl h')) fun lv A' H' q => q
theorem c_dxpad (hE : EnvW E) {key : List UInt8} {kv : AV} {R : HP} {b : UInt8} (hR : RdLike W key kv R) (h1 : key.length ≤ 128) (h : Holds H (R :: Γ)) :
    ∃ v H', go W E 51 [kv, .int .u8 b.toNat] H = some (v, H') ∧ XH H' (padK key b) v (R :: Γ) := by
  suffices hh : Fin (fun r : AV × Heap => XH r.2 (padK key b) r.1 (R :: Γ)) (go W E 51 [kv, .int .u8 b.toNat] H) by
    obtain ⟨⟨r, H'⟩, e, q⟩ := hh
    exact ⟨r, H', e, q⟩
  have hlen := (hR h).len
  have b1 : ¬ (128 : Int) < key.length := by omega
  rw [go_code hE.f51 (by simp [sf51])]
  simp only [sf51, hlen, b1, ↓sxp, sxq, seval, evP, evX, evR, blkOf, evA, storeA, resL, resV, oneOrTup, noUnk, AV.cells, Cells.get, ↓bnd_assoc]
  refine Fin.loop (dpad_loop (Γ := Γ) (b := b) hR h1 128 0 _ _ (.sl none 0 (.exact 0)) (by omega) (by simp only [↓sxp, sxq, seval, evP, evX, evR, blkOf, evA, storeA, resL, resV, oneOrTup, noUnk, AV.cells, Cells.get, ↓bnd_assoc]) (by simp only [↓sxp, sxq, seval, evP, evX, evR, blkOf, evA, storeA, resL, resV, oneOrTup, noUnk, AV.cells, Cells.get, ↓bnd_assoc]) (by simp only [↓sxp, sxq, seval, evP, evX, evR, blkOf, evA, storeA, resL, resV, oneOrTup, noUnk, AV.cells, Cells.get, ↓bnd_assoc]) (by simp only [↓sxp, sxq, seval, evP, evX, evR, blkOf, evA, storeA, resL, resV, oneOrTup, noUnk, AV.cells, Cells.get, ↓bnd_assoc] <;> rfl) (.inl h.row_nil)) fun lv A H1 ⟨e1, v, a6, h2⟩ => ?_
  subst e1
  simp only [a6, ↓sxp, sxq, seval, evP, evX, evR, blkOf, evA, storeA, resL, resV, oneOrTup, noUnk, AV.cells, Cells.get, ↓bnd_assoc]
  exact Fin.ret h2
theorem list_loop {L : List UInt8} {jb : Nat} (hL : L.length = 64) {df : List Nat} : ∀ (m i : Nat) (A : Tm) (H : Heap) (v : AV), i + m = 64 → getX A 1 = .ptr (some ⟨.own jb, 0⟩) → getX A 3 = v → getX A 4 = .int .i64 i → XH H (L.take i) v (blk jb (cb L) 71 :: Γ) →
    ∃ lv A' H', run W E (.loop lp52_0) ⟨A, df, none⟩ H = some (lv, ⟨A', df, none⟩, H') ∧ (lv = .exit 0 ∧ ∃ v', getX A' 3 = v' ∧ XH H' L v' (blk jb (cb L) 71 :: Γ)) := by
  have hlp : ∀ f H, run W E lp52_0 f H = run W E lp52_0 f H := fun _ _ => rfl
  conv at hlp => enter [f, H, 2]; unfold lp52_0
  intro m
  induction m with
  | zero =>
    intro i A H v him a1 a3 a4 h
    have : i = 64 := by omega
    subst this
    have a4' : getX A 4 = .int .i64 64 := a4
    rw [run_loop]
    simp only [hlp, a4', ↓sxp, sxq, seval, evP, evX, evR, blkOf, evA, storeA, resL, resV, oneOrTup, noUnk, AV.cells, Cells.get, ↓bnd_assoc]
    rw [List.take_of_length_le (by omega)] at h
    exact ⟨_, _, _, rfl, rfl, v, by simp only [a3, ↓sxp, sxq, seval, evP, evX, evR, blkOf, evA, storeA, resL, resV, oneOrTup, noUnk, AV.cells, Cells.get, ↓bnd_assoc], h⟩
  | succ m ih =>
    intro i A H v him a1 a3 a4 h
    have hlt : (i : Int) < 64 := by omega
    have hwr : IntKind.i64.wrap ((i : Int) + 1) = ((i + 1 : Nat) : Int) := by rw [w64 (by omega)]; simp
    obtain ⟨Δ, hh⟩ := h.fr
    have g := hh.get
    have hx := cb_get (show i < L.length by omega)
    have htl : (L.take i).length < 1099511627776 := by rw [List.length_take]; omega
    have hts := take_succ_b L i (by omega)
    apply Fin.ex3
    rw [run_loop]
    simp only [hlp, a1, a3, a4, hlt, nc64, Int.natCast_nonneg, and_self, ↓g, hx, Int.toNat_natCast, ↓sxp, sxq, seval, evP, evX, evR, blkOf, evA, storeA, resL, resV, oneOrTup, noUnk, AV.cells, Cells.get, ↓bnd_assoc]
    refine Fin.byte h (L.getD i 0) htl fun v' H' h' => ?_
    rw [← hts] at h'
    simp only [a4, hwr, ↓sxp, sxq, seval, evP, evX, evR, blkOf, evA, storeA, resL, resV, oneOrTup, noUnk, AV.cells, Cells.get, ↓bnd_assoc]
    exact Fin.of3 (ih (i + 1) _ _ v' (by omega) (by simp only [a1, ↓sxp, sxq, seval, evP, evX, evR, blkOf, evA, storeA, resL, resV, oneOrTup, noUnk, AV.cells, Cells.get, ↓bnd_assoc]) (by simp only [↓sxp, sxq, seval, evP, evX, evR, blkOf, evA, storeA, resL, resV, oneOrTup, noUnk, AV.cells, Cells.get, ↓bnd_assoc]) (by simp only [↓sxp, sxq, seval, evP, evX, evR, blkOf, evA, storeA, resL, resV, oneOrTup, noUnk, AV.cells, Cells.get, ↓bnd_assoc]) (.inl h')) fun lv A' H' q => q
theorem c_list (hE : EnvW E) {L : List UInt8} (hL : L.length = 64) (h : Holds H Γ) :
    ∃ v H', go W E 52 [.agg (cb L)] H = some (v, H') ∧ ∃ j, XH H' L v (blk j (cb L) 71 :: Γ) := by
  suffices hh : Fin (fun r : AV × Heap => ∃ j, XH r.2 L r.1 (blk j (cb L) 71 :: Γ)) (go W E 52 [.agg (cb L)] H) by
    obtain ⟨⟨r, H'⟩, e, q⟩ := hh
    exact ⟨r, H', e, q⟩
  have h2 := h.push (c := cb L) (t := 71)
  rw [go_code hE.f52 (by simp [sf52])]
  generalize hcL : cb L = c at *
  simp only [sf52, ↓sxp, sxq, seval, evP, evX, evR, blkOf, evA, storeA, resL, resV, oneOrTup, noUnk, AV.cells, Cells.get, ↓bnd_assoc]
  subst hcL
  refine Fin.loop (list_loop (Γ := Γ) (jb := H.next) hL 64 0 _ _ (.sl none 0 (.exact 0)) (by omega) (by simp only [↓sxp, sxq, seval, evP, evX, evR, blkOf, evA, storeA, resL, resV, oneOrTup, noUnk, AV.cells, Cells.get, ↓bnd_assoc]) (by simp only [↓sxp, sxq, seval, evP, evX, evR, blkOf, evA, storeA, resL, resV, oneOrTup, noUnk, AV.cells, Cells.get, ↓bnd_assoc]) (by simp only [↓sxp, sxq, seval, evP, evX, evR, blkOf, evA, storeA, resL, resV, oneOrTup, noUnk, AV.cells, Cells.get, ↓bnd_assoc] <;> rfl) (.inl h2.row_nil)) fun lv A H1 ⟨e1, v, a3, h3⟩ => ?_
  subst e1
  simp only [a3, ↓sxp, sxq, seval, evP, evX, evR, blkOf, evA, storeA, resL, resV, oneOrTup, noUnk, AV.cells, Cells.get, ↓bnd_assoc]
  exact Fin.ret ⟨_, h3⟩
theorem c_dtag (hE : EnvW E) {key m : List UInt8} {kv mv : AV} {Rk Rm : HP} (hk : RdLike W key kv Rk) (hm : RdLike W m mv Rm) (h1 : key.length ≤ 128) (h0 : 0 < m.length) (hml : m.length < 50000) (h : Holds H (Rk :: Rm :: Γ)) :
    ∃ H', go W E 38 [kv, mv] H = some (.agg (cb (tagF key m)), H') ∧ Holds H' (Rk :: Rm :: Γ) := by
  apply Ends.out
  refine (show Fin (fun r : AV × Heap => r.1 = .agg (cb (tagF key m)) ∧ Holds r.2 (Rk :: Rm :: Γ)) _ from ?_)
  have hzz : [AV.int .u8 0, AV.int .u8 0, AV.int .u8 0, AV.int .u8 0, AV.int .u8 0, AV.int .u8 0, AV.int .u8 0, AV.int .u8 0, AV.int .u8 0, AV.int .u8 0, AV.int .u8 0, AV.int .u8 0, AV.int .u8 0, AV.int .u8 0, AV.int .u8 0, AV.int .u8 0, AV.int .u8 0, AV.int .u8 0, AV.int .u8 0, AV.int .u8 0, AV.int .u8 0, AV.int .u8 0, AV.int .u8 0, AV.int .u8 0, AV.int .u8 0, AV.int .u8 0, AV.int .u8 0, AV.int .u8 0, AV.int .u8 0, AV.int .u8 0, AV.int .u8 0, AV.int .u8 0, AV.int .u8 0, AV.int .u8 0, AV.int .u8 0, AV.int .u8 0, AV.int .u8 0, AV.int .u8 0, AV.int .u8 0, AV.int .u8 0, AV.int .u8 0, AV.int .u8 0, AV.int .u8 0, AV.int .u8 0, AV.int .u8 0, AV.int .u8 0, AV.int .u8 0, AV.int .u8 0, AV.int .u8 0, AV.int .u8 0, AV.int .u8 0, AV.int .u8 0, AV.int .u8 0, AV.int .u8 0, AV.int .u8 0, AV.int .u8 0, AV.int .u8 0, AV.int .u8 0, AV.int .u8 0, AV.int .u8 0, AV.int .u8 0, AV.int .u8 0, AV.int .u8 0, AV.int .u8 0] = z64 := rfl
  have h2 := h.push (c := z64) (t := 71)
  have pl54 := padK_len key 54 h1
  have pl92 := padK_len key 92 h1
  rw [go_code hE.f38 (by simp [sf38])]
  simp only [sf38, hzz, ↓sxp, sxq, seval, evP, evX, evR, blkOf, evA, storeA, resL, resV, oneOrTup, noUnk, AV.cells, Cells.get, ↓bnd_assoc]
  generalize H.next = b4 at *
  refine Fin.callX (fun v H' => XH H' (padK key 54) v (Rk :: blk b4 z64 71 :: Rm :: Γ)) (c_dxpad hE (b := 54) hk h1 (h2.ord [1])) fun v1 H3 h3 => ?_
  obtain ⟨C, hC⟩ := h3.any
  simp only [↓sxp, sxq, seval, evP, evX, evR, blkOf, evA, storeA, resL, resV, oneOrTup, noUnk, AV.cells, Cells.get, ↓bnd_assoc]
  refine Fin.xapp h3 ((hm (hC.ord [3])).src) h0 (by omega) fun v2 H4 h4 => ?_
  simp only [↓sxp, sxq, seval, evP, evX, evR, blkOf, evA, storeA, resL, resV, oneOrTup, noUnk, AV.cells, Cells.get, ↓bnd_assoc]
  refine Fin.callX (fun v H' => XH H' (padK key 92) v (Rk :: row 5 1 (cb (padK key 54 ++ m)) v2 :: blk b4 z64 71 :: Rm :: Γ)) (c_dxpad hE (b := 92) hk h1 (h4.ord [1])) fun v3 H5 h5 => ?_
  have hm1 : (padK key 54 ++ m).length < 60000 ∧ 0 < (padK key 54 ++ m).length := by rw [List.length_append]; omega
  have htag : tagF key m = sumF (padK key 92 ++ sumF (padK key 54 ++ m)) := rfl
  rw [htag]
  generalize hM1 : padK key 54 ++ m = M1 at *
  refine Fin.call (c_dsum hE.toEnvS (RdLike.row M1 v2) hm1.2 hm1.1 (h5.toH.ord [2])) fun H6 h6 => ?_
  have hs1 := sumF_len M1
  generalize sumF M1 = S1 at *
  refine Fin.callX (fun v H' => ∃ j, XH H' S1 v (blk j (cb S1) 71 :: HP.xh (padK key 92) v3 :: Rk :: blk b4 z64 71 :: Rm :: Γ)) (c_list hE hs1 (h6.rm 0)) fun v4 H7 ⟨j7, h7⟩ => ?_
  have h8 : XH H7 (padK key 92) v3 (HP.xh S1 v4 :: blk j7 (cb S1) 71 :: Rk :: blk b4 z64 71 :: Rm :: Γ) := XH.ofH (h7.toH.ord [2])
  refine Fin.xapp h8 (by rw [h7.src, hs1]) (by omega) (by omega) fun v5 H9 h9 => ?_
  have hm2 : (padK key 92 ++ S1).length < 60000 ∧ 0 < (padK key 92 ++ S1).length := by rw [List.length_append]; omega
  generalize padK key 92 ++ S1 = M2 at *
  refine Fin.call (c_dsum hE.toEnvS (RdLike.row M2 v5) hm2.2 hm2.1 h9) fun H10 h10 => ?_
  have hs2 := sumF_len M2
  generalize sumF M2 = S2 at *
  have hl64 : (cb S2).length = 64 := by rw [cb_len, hs2]
  have hg64 : Cells.getN (.lst (cb S2)) 0 64 = some (cb S2) := by
    have := getN_all (cb S2)
    rw [cb_len, hs2] at this; exact this
  simp only [hl64, ↓sxp, sxq, seval, evP, evX, evR, blkOf, evA, storeA, resL, resV, oneOrTup, noUnk, AV.cells, Cells.get, ↓bnd_assoc]
  refine Fin.write (cb S2) (h10.ord [4]) (setN_all (by rw [hl64]; rfl)) (by rw [hl64]; exact Nat.le_refl _) (cb_one S2) fun H15 h15 => ?_
  have g15 := h15.get
  simp only [↓g15, ↓hg64, ↓sxp, sxq, seval, evP, evX, evR, blkOf, evA, storeA, resL, resV, oneOrTup, noUnk, AV.cells, Cells.get, ↓bnd_assoc]
  exact Fin.ret ⟨rfl, h15.tail.tail.tail.tail⟩
end
end Go.Proofs.YtjfnhdiimibmiaaDoor.Sx

/- Keys, the document's. -/
namespace Go.Proofs.YtjfnhdiimibmiaaDoor.Sx
open HP
def msgF (s ctx : List UInt8) : List UInt8 := UInt8.ofNat s.length :: (s ++ (bytesN 4 ctx.length ++ ctx))
def keyF (key s ctx : List UInt8) : List UInt8 := (tagF key (msgF s ctx)).take 32
theorem tagF_len (key m : List UInt8) : (tagF key m).length = 64 := sumF_len _
theorem keyF_len (key s ctx : List UInt8) : (keyF key s ctx).length = 32 := by
  unfold keyF
  rw [List.length_take, tagF_len]; rfl
def z32 : List AV := cb (List.replicate 32 0)
theorem z32_eq : [AV.int .u8 0, AV.int .u8 0, AV.int .u8 0, AV.int .u8 0, AV.int .u8 0, AV.int .u8 0, AV.int .u8 0, AV.int .u8 0, AV.int .u8 0, AV.int .u8 0, AV.int .u8 0, AV.int .u8 0, AV.int .u8 0, AV.int .u8 0, AV.int .u8 0, AV.int .u8 0, AV.int .u8 0, AV.int .u8 0, AV.int .u8 0, AV.int .u8 0, AV.int .u8 0, AV.int .u8 0, AV.int .u8 0, AV.int .u8 0, AV.int .u8 0, AV.int .u8 0, AV.int .u8 0, AV.int .u8 0, AV.int .u8 0, AV.int .u8 0, AV.int .u8 0, AV.int .u8 0] = z32 := rfl
theorem z64_eq : [AV.int .u8 0, AV.int .u8 0, AV.int .u8 0, AV.int .u8 0, AV.int .u8 0, AV.int .u8 0, AV.int .u8 0, AV.int .u8 0, AV.int .u8 0, AV.int .u8 0, AV.int .u8 0, AV.int .u8 0, AV.int .u8 0, AV.int .u8 0, AV.int .u8 0, AV.int .u8 0, AV.int .u8 0, AV.int .u8 0, AV.int .u8 0, AV.int .u8 0, AV.int .u8 0, AV.int .u8 0, AV.int .u8 0, AV.int .u8 0, AV.int .u8 0, AV.int .u8 0, AV.int .u8 0, AV.int .u8 0, AV.int .u8 0, AV.int .u8 0, AV.int .u8 0, AV.int .u8 0, AV.int .u8 0, AV.int .u8 0, AV.int .u8 0, AV.int .u8 0, AV.int .u8 0, AV.int .u8 0, AV.int .u8 0, AV.int .u8 0, AV.int .u8 0, AV.int .u8 0, AV.int .u8 0, AV.int .u8 0, AV.int .u8 0, AV.int .u8 0, AV.int .u8 0, AV.int .u8 0, AV.int .u8 0, AV.int .u8 0, AV.int .u8 0, AV.int .u8 0, AV.int .u8 0, AV.int .u8 0, AV.int .u8 0, AV.int .u8 0, AV.int .u8 0, AV.int .u8 0, AV.int .u8 0, AV.int .u8 0, AV.int .u8 0, AV.int .u8 0, AV.int .u8 0, AV.int .u8 0] = z64 := rfl
theorem nc1 : ((1 : Nat) : Int) = 1 := (Eq.refl _).trans rfl
theorem nc32 : ((32 : Nat) : Int) = 32 := (Eq.refl _).trans rfl
section
variable {W : World} {E : Env} {H : Heap} {Γ : List HP}
theorem dk_loop0 {s : List UInt8} (hs : s.length < 65) {df : List Nat} : ∀ (m i : Nat) (A : Tm) (H : Heap) (v : AV) (pre : List UInt8), i + m = s.length → pre.length < 100 → getX A 1 = .str s → getX A 9 = v → getX A 10 = .int .i64 i → XH H (pre ++ s.take i) v Γ →
    ∃ lv A' H', run W E (.loop lp23_0) ⟨A, df, none⟩ H = some (lv, ⟨A', df, none⟩, H') ∧ (lv = .exit 0 ∧ getX A' 0 = getX A 0 ∧ getX A' 2 = getX A 2 ∧ getX A' 6 = getX A 6 ∧ getX A' 8 = getX A 8 ∧ ∃ v', getX A' 9 = v' ∧ XH H' (pre ++ s) v' Γ) := by
  have hlp : ∀ f H, run W E lp23_0 f H = run W E lp23_0 f H := fun _ _ => rfl
  conv at hlp => enter [f, H, 2]; unfold lp23_0
  intro m
  induction m with
  | zero =>
    intro i A H v pre him hp a1 a9 a10 h
    have : i = s.length := by omega
    subst this
    have hlt : ¬ (s.length : Int) < s.length := by omega
    rw [run_loop]
    simp only [hlp, a1, a10, hlt, ↓sxp, sxq, seval, evP, evX, evR, blkOf, evA, storeA, resL, resV, oneOrTup, noUnk, AV.cells, Cells.get, ↓bnd_assoc]
    rw [List.take_length] at h
    exact ⟨_, _, _, rfl, rfl, by simp only [↓sxp, sxq, seval, evP, evX, evR, blkOf, evA, storeA, resL, resV, oneOrTup, noUnk, AV.cells, Cells.get, ↓bnd_assoc], by simp only [↓sxp, sxq, seval, evP, evX, evR, blkOf, evA, storeA, resL, resV, oneOrTup, noUnk, AV.cells, Cells.get, ↓bnd_assoc], by simp only [↓sxp, sxq, seval, evP, evX, evR, blkOf, evA, storeA, resL, resV, oneOrTup, noUnk, AV.cells, Cells.get, ↓bnd_assoc], by simp only [↓sxp, sxq, seval, evP, evX, evR, blkOf, evA, storeA, resL, resV, oneOrTup, noUnk, AV.cells, Cells.get, ↓bnd_assoc], v, by simp only [a9, ↓sxp, sxq, seval, evP, evX, evR, blkOf, evA, storeA, resL, resV, oneOrTup, noUnk, AV.cells, Cells.get, ↓bnd_assoc], h⟩
  | succ m ih =>
    intro i A H v pre him hp a1 a9 a10 h
    have hlt : (i : Int) < s.length := by omega
    have hwr : IntKind.i64.wrap ((i : Int) + 1) = ((i + 1 : Nat) : Int) := by rw [w64 (by omega)]; simp
    have hx : s[i]? = some (s.getD i 0) := by rw [List.getD_eq_getElem?_getD, List.getElem?_eq_getElem (by omega)]; rfl
    have hts := take_succ_b s i (by omega)
    apply Fin.ex3
    rw [run_loop]
    simp only [hlp, a1, a9, a10, hlt, hx, Int.natCast_nonneg, Int.toNat_natCast, ↓sxp, sxq, seval, evP, evX, evR, blkOf, evA, storeA, resL, resV, oneOrTup, noUnk, AV.cells, Cells.get, ↓bnd_assoc]
    refine Fin.byte h (s.getD i 0) (by rw [List.length_append, List.length_take]; omega) fun v' H' h' => ?_
    rw [List.append_assoc, ← hts] at h'
    simp only [a10, hwr, ↓sxp, sxq, seval, evP, evX, evR, blkOf, evA, storeA, resL, resV, oneOrTup, noUnk, AV.cells, Cells.get, ↓bnd_assoc]
    exact Fin.of3 (ih (i + 1) _ _ v' pre (by omega) hp (by simp only [a1, ↓sxp, sxq, seval, evP, evX, evR, blkOf, evA, storeA, resL, resV, oneOrTup, noUnk, AV.cells, Cells.get, ↓bnd_assoc]) (by simp only [↓sxp, sxq, seval, evP, evX, evR, blkOf, evA, storeA, resL, resV, oneOrTup, noUnk, AV.cells, Cells.get, ↓bnd_assoc]) (by simp only [↓sxp, sxq, seval, evP, evX, evR, blkOf, evA, storeA, resL, resV, oneOrTup, noUnk, AV.cells, Cells.get, ↓bnd_assoc]) (.inl h')) fun lv A' H' ⟨q1, q2, q3, q4, q5, q6⟩ => ⟨q1, q2.trans (by simp only [↓sxp, sxq, seval, evP, evX, evR, blkOf, evA, storeA, resL, resV, oneOrTup, noUnk, AV.cells, Cells.get, ↓bnd_assoc]), q3.trans (by simp only [↓sxp, sxq, seval, evP, evX, evR, blkOf, evA, storeA, resL, resV, oneOrTup, noUnk, AV.cells, Cells.get, ↓bnd_assoc]), q4.trans (by simp only [↓sxp, sxq, seval, evP, evX, evR, blkOf, evA, storeA, resL, resV, oneOrTup, noUnk, AV.cells, Cells.get, ↓bnd_assoc]), q5.trans (by simp only [↓sxp, sxq, seval, evP, evX, evR, blkOf, evA, storeA, resL, resV, oneOrTup, noUnk, AV.cells, Cells.get, ↓bnd_assoc]), q6⟩
theorem dk_loop2 {T : List UInt8} {j8 j14 : Nat} (hT : T.length = 64) {df : List Nat} : ∀ (m i : Nat) (A : Tm) (H : Heap), i + m = 32 → getX A 8 = .ptr (some ⟨.own j8, 0⟩) → getX A 14 = .ptr (some ⟨.own j14, 0⟩) → getX A 15 = .int .i64 i → Holds H (blk j8 (cb (T.take i ++ List.replicate m 0)) 22 :: blk j14 (cb T) 71 :: Γ) →
    ∃ lv A' H', run W E (.loop lp23_2) ⟨A, df, none⟩ H = some (lv, ⟨A', df, none⟩, H') ∧ (lv = .exit 4 ∧ getX A' 6 = getX A 6 ∧ getX A' 8 = .ptr (some ⟨.own j8, 0⟩) ∧ Holds H' (blk j8 (cb (T.take 32)) 22 :: blk j14 (cb T) 71 :: Γ)) := by
  have hlp : ∀ f H, run W E lp23_2 f H = run W E lp23_2 f H := fun _ _ => rfl
  conv at hlp => enter [f, H, 2]; unfold lp23_2
  intro m
  induction m with
  | zero =>
    intro i A H him a8 a14 a15 h
    have : i = 32 := by omega
    subst this
    have a15' : getX A 15 = .int .i64 32 := a15
    rw [run_loop]
    simp only [hlp, a15', ↓sxp, sxq, seval, evP, evX, evR, blkOf, evA, storeA, resL, resV, oneOrTup, noUnk, AV.cells, Cells.get, ↓bnd_assoc]
    rw [List.replicate_zero, List.append_nil] at h
    exact ⟨_, _, _, rfl, rfl, by simp only [↓sxp, sxq, seval, evP, evX, evR, blkOf, evA, storeA, resL, resV, oneOrTup, noUnk, AV.cells, Cells.get, ↓bnd_assoc], by simp only [a8, ↓sxp, sxq, seval, evP, evX, evR, blkOf, evA, storeA, resL, resV, oneOrTup, noUnk, AV.cells, Cells.get, ↓bnd_assoc], h⟩
  | succ m ih =>
    intro i A H him a8 a14 a15 h
    have hlt : (i : Int) < 32 := by omega
    have hlt64 : (i : Int) < 64 := by omega
    have hwr : IntKind.i64.wrap ((i : Int) + 1) = ((i + 1 : Nat) : Int) := by rw [w64 (by omega)]; simp
    have g := (h.ord [1]).get
    have hx := cb_get (show i < T.length by omega)
    have hti : (T.take i).length = i := by rw [List.length_take]; omega
    have hset : (cb (T.take i ++ List.replicate (m + 1) 0)).set i (.int .u8 (T.getD i 0).toNat) = cb (T.take (i + 1) ++ List.replicate m 0) := by
      rw [cb_set, List.replicate_succ, take_succ_b T i (by omega)]
      congr 1
      have := set_mid (T.take i) 0 (T.getD i 0) (List.replicate m 0)
      rw [hti] at this
      rw [this]; simp
    apply Fin.ex3
    rw [run_loop]
    simp only [hlp, a8, a14, a15, hlt, hlt64, nc32, nc64, Int.natCast_nonneg, and_self, ↓g, hx, Int.toNat_natCast, ↓sxp, sxq, seval, evP, evX, evR, blkOf, evA, storeA, resL, resV, oneOrTup, noUnk, AV.cells, Cells.get, ↓bnd_assoc]
    refine Fin.write (cb (T.take (i + 1) ++ List.replicate m 0)) h (by simp only [Cells.setN, Cells.set, hset]) (by rw [cb_len, List.length_append, hti, List.length_replicate]; simp) rfl fun H4 h4 => ?_
    simp only [a15, hwr, ↓sxp, sxq, seval, evP, evX, evR, blkOf, evA, storeA, resL, resV, oneOrTup, noUnk, AV.cells, Cells.get, ↓bnd_assoc]
    exact Fin.of3 (ih (i + 1) _ _ (by omega) (by simp only [a8, ↓sxp, sxq, seval, evP, evX, evR, blkOf, evA, storeA, resL, resV, oneOrTup, noUnk, AV.cells, Cells.get, ↓bnd_assoc]) (by simp only [a14, ↓sxp, sxq, seval, evP, evX, evR, blkOf, evA, storeA, resL, resV, oneOrTup, noUnk, AV.cells, Cells.get, ↓bnd_assoc]) (by simp only [↓sxp, sxq, seval, evP, evX, evR, blkOf, evA, storeA, resL, resV, oneOrTup, noUnk, AV.cells, Cells.get, ↓bnd_assoc]) h4) fun lv A' H' ⟨q1, q2, q⟩ => ⟨q1, q2.trans (by simp only [↓sxp, sxq, seval, evP, evX, evR, blkOf, evA, storeA, resL, resV, oneOrTup, noUnk, AV.cells, Cells.get, ↓bnd_assoc]), q⟩
theorem c_dkey (hE : EnvW E) {key s ctx : List UInt8} {kv cv : AV} {jc : Nat} {Rk Rc : HP} (hk : RdLike W key kv Rk) (hc : RdLike W ctx cv Rc) (hk0 : 0 < key.length) (hk1 : key.length ≤ 128) (hs : s.length < 65) (hc0 : 0 < ctx.length) (hcl : ctx.length < 256) (h : Holds H (Rk :: blk jc [cv] 27 :: Rc :: Γ)) :
    ∃ H', go W E 23 [kv, .str s, .sl (some ⟨.own jc, 0⟩) 1 (.exact 1)] H = some (.tup [.agg (cb (keyF key s ctx)), .int .i64 0], H') ∧ Holds H' (Rk :: blk jc [cv] 27 :: Rc :: Γ) := by
  apply Ends.out
  refine (show Fin (fun r : AV × Heap => r.1 = .tup [.agg (cb (keyF key s ctx)), .int .i64 0] ∧ Holds r.2 (Rk :: blk jc [cv] 27 :: Rc :: Γ)) _ from ?_)
  have hklen := (hk h).len
  have hk2 : ¬ (key.length : Int) = 0 := by omega
  have hs2 : ¬ (64 : Int) < s.length := by omega
  have hcv : IntKind.u8.wrap (s.length : Int) = ((UInt8.ofNat s.length).toNat : Int) := wrap_u8' _
  have h2 := ((h.push (c := z32) (t := 22)).push (c := z32) (t := 22)).push (c := [.int .u8 (UInt8.ofNat s.length).toNat]) (t := 5)
  simp only [push_next] at h2
  rw [go_code hE.f23 (by simp [sf23])]
  simp only [sf23, z32_eq, z64_eq, hklen, hk2, hs2, hcv, nc1, ↓sxp, sxq, seval, evP, evX, evR, blkOf, evA, storeA, resL, resV, oneOrTup, noUnk, AV.cells, Cells.get, ↓bnd_assoc]
  generalize H.next = b6 at *
  refine Fin.loop (dk_loop0 (Γ := blk (b6 + 1) z32 22 :: blk b6 z32 22 :: Rk :: blk jc [cv] 27 :: Rc :: Γ) hs s.length 0 _ _ (.sl (some ⟨.own (b6 + 1 + 1), 0⟩) 1 (.exact 1)) [UInt8.ofNat s.length] (by omega) (by simp) (by simp only [↓sxp, sxq, seval, evP, evX, evR, blkOf, evA, storeA, resL, resV, oneOrTup, noUnk, AV.cells, Cells.get, ↓bnd_assoc]) (by simp only [↓sxp, sxq, seval, evP, evX, evR, blkOf, evA, storeA, resL, resV, oneOrTup, noUnk, AV.cells, Cells.get, ↓bnd_assoc]) (by simp only [↓sxp, sxq, seval, evP, evX, evR, blkOf, evA, storeA, resL, resV, oneOrTup, noUnk, AV.cells, Cells.get, ↓bnd_assoc] <;> rfl) (.inr ⟨_, by simp, by simp, h2⟩)) fun lv A H3 ⟨e1, a0, a2, a6, a8, v, a9, h3⟩ => ?_
  subst e1
  simp only [↓sxp, sxq, seval, evP, evX, evR, blkOf, evA, storeA, resL, resV, oneOrTup, noUnk, AV.cells, Cells.get, ↓bnd_assoc] at a0 a2 a6 a8
  have hlp : ∀ f H, run W E lp23_1 f H = run W E lp23_1 f H := fun _ _ => rfl
  conv at hlp => enter [f, H, 2]; unfold lp23_1
  obtain ⟨C, hC⟩ := h3.any
  have g1 := (hC.ord [4]).get
  have hclen := (hc (hC.ord [5])).len
  simp only [↓sxp, sxq, seval, evP, evX, evR, blkOf, evA, storeA, resL, resV, oneOrTup, noUnk, AV.cells, Cells.get, ↓bnd_assoc]
  rw [run_loop]
  simp only [hlp, a2, a9, nc1, ↓g1, hclen, ↓sxp, sxq, seval, evP, evX, evR, blkOf, evA, storeA, resL, resV, oneOrTup, noUnk, AV.cells, Cells.get, ↓bnd_assoc]
  have hb4 : ctx.length < 256 ^ 4 := Nat.lt_trans hcl (by decide)
  refine Fin.callX (fun r H' => ∃ nv, r = .tup [nv, .int .i64 0] ∧ ∃ R, RdLike W (bytesN 4 ctx.length) nv R ∧ Holds H' (R :: HP.xh ([UInt8.ofNat s.length] ++ s) v :: blk (b6 + 1) z32 22 :: blk b6 z32 22 :: Rk :: blk jc [cv] 27 :: Rc :: Γ)) (by obtain ⟨v, H', e, q⟩ := c_dput (W := W) hE (n := ctx.length) (sz := 4) (by omega) (by omega) hb4 (by omega) h3.toH; exact ⟨_, H', e, v, rfl, q⟩) fun r H4 ⟨nv, hr, R4, hR4, h4⟩ => ?_
  subst hr
  have h4' : XH H4 ([UInt8.ofNat s.length] ++ s) v (R4 :: blk (b6 + 1) z32 22 :: blk b6 z32 22 :: Rk :: blk jc [cv] 27 :: Rc :: Γ) := XH.ofH (h4.ord [1])
  simp only [List.getElem?_cons_zero, List.getElem?_cons_succ, ↓sxp, sxq, seval, evP, evX, evR, blkOf, evA, storeA, resL, resV, oneOrTup, noUnk, AV.cells, Cells.get, ↓bnd_assoc]
  refine Fin.xapp h4' ((hR4 h4).src) (by rw [bytesN_len]; omega) (by rw [bytesN_len]; simp; omega) fun v5 H5 h5 => ?_
  have g5 := (h5.ord [5]).get
  simp only [↓g5, ↓sxp, sxq, seval, evP, evX, evR, blkOf, evA, storeA, resL, resV, oneOrTup, noUnk, AV.cells, Cells.get, ↓bnd_assoc]
  refine Fin.app h5 (by omega) ((hc (h5.ord [6])).src) hc0 (by rw [cb_len, Nat.mul_one]) (cb_one ctx) (n := 1 + s.length + 4) (by rw [cb_len, Nat.mul_one]; simp [bytesN_len]; omega) (by omega) fun v6 H6 h6 => ?_
  have hmsg : cb ([UInt8.ofNat s.length] ++ s ++ bytesN 4 ctx.length) ++ cb ctx = cb (msgF s ctx) := by
    rw [← cb_app]; simp [msgF]
  rw [hmsg] at h6
  have hw1 : IntKind.i64.wrap 1 = 1 := rfl
  simp only [hw1, ↓sxp, sxq, seval, evP, evX, evR, blkOf, evA, storeA, resL, resV, oneOrTup, noUnk, AV.cells, Cells.get, ↓bnd_assoc]
  rw [run_loop]
  simp only [hlp, a0, a2, nc1, ↓sxp, sxq, seval, evP, evX, evR, blkOf, evA, storeA, resL, resV, oneOrTup, noUnk, AV.cells, Cells.get, ↓bnd_assoc]
  have hml : (msgF s ctx).length < 50000 ∧ 0 < (msgF s ctx).length := by unfold msgF; simp [bytesN_len]; omega
  have hkf : keyF key s ctx = (tagF key (msgF s ctx)).take 32 := rfl
  rw [hkf]
  generalize msgF s ctx = mm at *
  refine Fin.call (c_dtag hE hk (RdLike.row mm v6) hk1 hml.2 hml.1 (h6.ord [4])) fun H7 h7 => ?_
  have hT := tagF_len key mm
  generalize tagF key mm = T at *
  have hl64 : (cb T).length = 64 := by rw [cb_len, hT]
  have h8 := h7.push (c := z64) (t := 71)
  simp only [hl64, ↓sxp, sxq, seval, evP, evX, evR, blkOf, evA, storeA, resL, resV, oneOrTup, noUnk, AV.cells, Cells.get, ↓bnd_assoc]
  generalize H7.next = b14 at *
  refine Fin.write (cb T) h8 (setN_all (by rw [hl64]; rfl)) (by rw [hl64]; exact Nat.le_refl _) (cb_one T) fun H9 h9 => ?_
  refine Fin.loop (dk_loop2 (j8 := b6 + 1) (j14 := b14) hT 32 0 _ _ (by omega) (by simp only [a8, ↓sxp, sxq, seval, evP, evX, evR, blkOf, evA, storeA, resL, resV, oneOrTup, noUnk, AV.cells, Cells.get, ↓bnd_assoc]) (by simp only [↓sxp, sxq, seval, evP, evX, evR, blkOf, evA, storeA, resL, resV, oneOrTup, noUnk, AV.cells, Cells.get, ↓bnd_assoc]) (by simp only [↓sxp, sxq, seval, evP, evX, evR, blkOf, evA, storeA, resL, resV, oneOrTup, noUnk, AV.cells, Cells.get, ↓bnd_assoc] <;> rfl) (h9.ord [4])) fun lv A2 H10 ⟨e1, c6, c8, h10⟩ => ?_
  subst e1
  have c6' : getX A2 6 = .ptr (some ⟨.own b6, 0⟩) := c6.trans (by simp only [a6, ↓sxp, sxq, seval, evP, evX, evR, blkOf, evA, storeA, resL, resV, oneOrTup, noUnk, AV.cells, Cells.get, ↓bnd_assoc])
  have hl32 : (T.take 32).length = 32 := by rw [List.length_take, hT]; rfl
  generalize T.take 32 = O at *
  have hc32 : (cb O).length = 32 := by rw [cb_len, hl32]
  have hg32 : Cells.getN (.lst (cb O)) 0 32 = some (cb O) := by
    have := getN_all (cb O)
    rw [cb_len, hl32] at this; exact this
  have g10 := h10.get
  simp only [c6', c8, ↓g10, ↓hg32, hc32, ↓sxp, sxq, seval, evP, evX, evR, blkOf, evA, storeA, resL, resV, oneOrTup, noUnk, AV.cells, Cells.get, ↓bnd_assoc]
  refine Fin.write (cb O) (h10.ord [5]) (setN_all (by rw [hc32]; rfl)) (by rw [hc32]; exact Nat.le_refl _) (cb_one O) fun H11 h11 => ?_
  have g11 := h11.get
  simp only [c6', ↓g11, ↓hg32, ↓sxp, sxq, seval, evP, evX, evR, blkOf, evA, storeA, resL, resV, oneOrTup, noUnk, AV.cells, Cells.get, ↓bnd_assoc]
  exact Fin.ret ⟨rfl, ((h11.tail.tail.tail).rm 1).rm 1⟩
end
end Go.Proofs.YtjfnhdiimibmiaaDoor.Sx

/- Tags, the program's. -/
namespace Go.Proofs.YtjfnhdiimibmiaaDoor.Sx
open HP
abbrev sv (ps : List (List UInt8 × AV)) : List AV := ps.map Prod.snd
section
variable {W : World} {E : Env} {H : Heap} {Γ : List HP}
theorem Holds.pick {Rs : List HP} (h : Holds H (Rs ++ Γ)) (i : Nat) (hi : i < Rs.length) : ∃ Δ, Holds H (Rs[i] :: Δ) := by
  have := h.fr i (by rw [List.length_append]; omega)
  rw [List.getElem_append_left hi] at this
  exact ⟨_, this⟩
theorem PsLike.row {ps : List (List UInt8 × AV)} {v : AV} {Rs : List HP} (h0 : 0 < ps.length) (hl : Rs.length = ps.length) (hr : ∀ i (hi : i < ps.length), RdLike W ps[i].1 ps[i].2 (Rs[i]'(by omega))) : PsLike W ps v (HP.all (HP.row 27 1 (sv ps) v :: Rs)) := fun {H Γ} h => by
  have h1 : Holds H (HP.row 27 1 (sv ps) v :: (Rs ++ Γ)) := h.opn
  obtain ⟨j, l, c, rfl, hg⟩ := h1.row_get (by omega) (n := ps.length) (by rw [List.length_map, Nat.mul_one]) h0
  refine ⟨rfl, fun i hi => ⟨⟨_, by simp only [iaddrV]; rw [if_pos (by omega)], ?_⟩, ?_⟩⟩
  · simp only [loadV, blkOf, hg, Cells.get, Int.toNat_natCast, Nat.mul_one, Nat.zero_add]
    rw [List.getElem?_map, List.getElem?_eq_getElem hi]; rfl
  · obtain ⟨Δ, h2⟩ := h1.tail.pick i (by omega)
    exact hr i hi h2
theorem PsLike.blk {ps : List (List UInt8 × AV)} {j n : Nat} {Rs : List HP} (hn : ps.length = n) (hl : Rs.length = ps.length) (hr : ∀ i (hi : i < ps.length), RdLike W ps[i].1 ps[i].2 (Rs[i]'(by omega))) : PsLike W ps (.sl (some ⟨.own j, 0⟩) n (.exact n)) (HP.all (HP.blk j (sv ps) 27 :: Rs)) := fun {H Γ} h => by
  have h1 : Holds H (HP.blk j (sv ps) 27 :: (Rs ++ Γ)) := h.opn
  subst hn
  refine ⟨rfl, fun i hi => ⟨⟨_, by simp only [iaddrV]; rw [if_pos (by omega)], ?_⟩, ?_⟩⟩
  · simp only [loadV, blkOf, h1.get, Cells.get, Int.toNat_natCast, Nat.mul_one, Nat.zero_add]
    rw [List.getElem?_map, List.getElem?_eq_getElem hi]; rfl
  · obtain ⟨Δ, h2⟩ := h1.tail.pick i (by omega)
    exact hr i hi h2
theorem c_tag (hE : EnvW E) {key : List UInt8} {kv pv : AV} {Rk : HP} {ps : List (List UInt8 × AV)} {Rs : List HP} (hk : RdLike W key kv Rk) (hl : Rs.length = ps.length) (hr : ∀ i (hi : i < ps.length), RdLike W ps[i].1 ps[i].2 (Rs[i]'(by omega))) (hp0 : 0 < ps.length) (hpl : ps.length < 100) (hone : (sv ps).all oneC = true) (hk0 : 0 < key.length) (h1 : key.length ≤ 128) (hml : (flat ps).length < 50000) (h : Holds H (Rk :: row 27 1 (sv ps) pv :: HP.all Rs :: Γ)) :
    ∃ H', go W E 33 [kv, pv] H = some (.agg (cb (tagF key (flat ps))), H') ∧ Holds H' (Rk :: row 27 1 (sv ps) pv :: HP.all Rs :: Γ) := by
  apply Ends.out
  refine (show Fin (fun r : AV × Heap => r.1 = .agg (cb (tagF key (flat ps))) ∧ Holds r.2 (Rk :: row 27 1 (sv ps) pv :: HP.all Rs :: Γ)) _ from ?_)
  have h2 := h.push (c := z64) (t := 71)
  have htag : tagF key (flat ps) = sumF (padK key 92 ++ sumF (padK key 54 ++ flat ps)) := rfl
  have pl54 := padK_len key 54 h1
  have pl92 := padK_len key 92 h1
  rw [htag]
  rw [go_code hE.f33 (by simp [sf33])]
  simp only [sf33, z64_eq, ↓sxp, sxq, seval, evP, evX, evR, blkOf, evA, storeA, resL, resV, oneOrTup, noUnk, AV.cells, Cells.get, ↓bnd_assoc]
  generalize H.next = b4 at *
  refine Fin.callE (fun j : Nat => .sl (some ⟨.own j, 0⟩) 128 (.exact 128)) (fun j => blk j (cb (padK key 54)) 5 :: Rk :: blk b4 z64 71 :: row 27 1 (sv ps) pv :: HP.all Rs :: Γ) (c_xpad hE (b := 54) hk hk0 h1 (h2.ord [1])) fun j7 H3 h3 => ?_
  have h4 := h3.push (c := [.sl (some ⟨.own j7, 0⟩) 128 (.exact 128)]) (t := 27)
  have hsrc := (h4.ord [4]).row_src (W := W) (by omega) (n := ps.length) (by rw [List.length_map, Nat.mul_one]) hp0
  simp only [↓sxp, sxq, seval, evP, evX, evR, blkOf, evA, storeA, resL, resV, oneOrTup, noUnk, AV.cells, Cells.get, ↓bnd_assoc]
  generalize H3.next = j8 at *
  obtain ⟨v10, H5, e5, h5⟩ := h4.xadd (W := W) (ty := 27) (bytes := 24) (n := 1) (k := ps.length) (new := sv ps) rfl (by omega) hp0 (List.length_map ..) (by rw [List.all_append, hone]; rfl) (by omega)
  have e5' : appA W (H3.push (.cells (.lst [.sl (some ⟨.own j7, 0⟩) 128 (.exact 128)]) 27 none)) 27 1 24 false (.sl (some ⟨.own j8, 0⟩) 1 (.exact 1)) pv = some (v10, H5) := by
    simp only [appA, hsrc]; exact e5
  simp only [↓e5', ↓sxp, sxq, seval, evP, evX, evR, blkOf, evA, storeA, resL, resV, oneOrTup, noUnk, AV.cells, Cells.get, ↓bnd_assoc]
  have hps : PsLike W ((padK key 54, .sl (some ⟨.own j7, 0⟩) 128 (.exact 128)) :: ps) v10 (HP.all (row 27 1 (sv ((padK key 54, .sl (some ⟨.own j7, 0⟩) 128 (.exact 128)) :: ps)) v10 :: blk j7 (cb (padK key 54)) 5 :: Rs)) :=
    PsLike.row (by simp) (by simp [hl]) (fun i hi => by
      cases i with
      | zero => exact RdLike.exb _ _ _ pl54 5
      | succ i => exact hr i (by simpa using hi))
  have hfl : flat ((padK key 54, .sl (some ⟨.own j7, 0⟩) 128 (.exact 128)) :: ps) = padK key 54 ++ flat ps := by unfold flat; rw [List.flatMap_cons]
  have h6 : Holds H5 (HP.all (row 27 1 (sv ((padK key 54, .sl (some ⟨.own j7, 0⟩) 128 (.exact 128)) :: ps)) v10 :: blk j7 (cb (padK key 54)) 5 :: Rs) :: blk j8 [.sl (some ⟨.own j7, 0⟩) 128 (.exact 128)] 27 :: Rk :: blk b4 z64 71 :: row 27 1 (sv ps) pv :: Γ) := by
    have := (h5.ord [2, 5]).sep'.ord [1, 0]
    exact this.sep'
  refine Fin.call (c_sum hE.toEnvS hps (by rw [hfl, List.length_append]; omega) (by simp; omega) h6) fun H7 h7 => ?_
  rw [hfl]
  have hT := sumF_len (padK key 54 ++ flat ps)
  generalize sumF (padK key 54 ++ flat ps) = T at *
  have hl64 : (cb T).length = 64 := by rw [cb_len, hT]
  have h8 := h7.push (c := z64) (t := 71)
  simp only [hl64, ↓sxp, sxq, seval, evP, evX, evR, blkOf, evA, storeA, resL, resV, oneOrTup, noUnk, AV.cells, Cells.get, ↓bnd_assoc]
  generalize H7.next = b5 at *
  refine Fin.write (cb T) h8 (setN_all (by rw [hl64]; rfl)) (by rw [hl64]; exact Nat.le_refl _) (cb_one T) fun H9 h9 => ?_
  have b64 := fun A => bndN A 64
  have h10 := (h9.bump1 6 3).ord [4]
  refine Fin.callE (fun j : Nat => .sl (some ⟨.own j, 0⟩) 128 (.exact 128)) (fun j => blk j (cb (padK key 92)) 5 :: Rk :: resv (H9.next + 3) :: blk b5 (cb T) 71 :: HP.all (row 27 1 (sv ((padK key 54, .sl (some ⟨.own j7, 0⟩) 128 (.exact 128)) :: ps)) v10 :: blk j7 (cb (padK key 54)) 5 :: Rs) :: blk j8 [.sl (some ⟨.own j7, 0⟩) 128 (.exact 128)] 27 :: blk b4 z64 71 :: row 27 1 (sv ps) pv :: Γ) (c_xpad hE (b := 92) hk hk0 h1 h10) fun jn H11 h11 => ?_
  have hz2 : zerosL [AV.sl none 0 (Cap.exact 0)] 2 = [AV.sl none 0 (Cap.exact 0), AV.sl none 0 (Cap.exact 0)] := rfl
  have h12 := ((h11.ord [2]).lay (c := [.sl (some ⟨.own jn, 0⟩) 128 (.exact 128), .sl (some ⟨.own b5, 0⟩) 64 (.exact 64)]) (t := 27)).ord [0, 0, 1]
  simp only [↓b64, Nat.sub_zero, hz2, ↓sxp, sxq, seval, evP, evX, evR, blkOf, evA, storeA, resL, resV, oneOrTup, noUnk, AV.cells, Cells.get, ↓bnd_assoc]
  generalize H9.next + 3 = b15 at *
  have hps2 : PsLike W [(padK key 92, AV.sl (some ⟨.own jn, 0⟩) 128 (.exact 128)), (T, AV.sl (some ⟨.own b5, 0⟩) 64 (.exact 64))] (.sl (some ⟨.own b15, 0⟩) 2 (.exact 2)) (HP.all (blk b15 (sv [(padK key 92, AV.sl (some ⟨.own jn, 0⟩) 128 (.exact 128)), (T, AV.sl (some ⟨.own b5, 0⟩) 64 (.exact 64))]) 27 :: [blk jn (cb (padK key 92)) 5, blk b5 (cb T) 71])) :=
    PsLike.blk rfl rfl (fun i hi => by
      match i, hi with
      | 0, _ => exact @RdLike.exb W (padK key 92) jn 128 pl92 5
      | 1, _ => exact @RdLike.exb W T b5 64 hT 71)
  have hfl2 : flat [(padK key 92, AV.sl (some ⟨.own jn, 0⟩) 128 (.exact 128)), (T, AV.sl (some ⟨.own b5, 0⟩) 64 (.exact 64))] = padK key 92 ++ T := by simp [flat]
  refine Fin.call (c_sum hE.toEnvS hps2 (by rw [hfl2, List.length_append]; omega) (by simp) (Holds.cls [_, _, _] h12)) fun H13 h13 => ?_
  rw [hfl2]
  have hT2 := sumF_len (padK key 92 ++ T)
  generalize sumF (padK key 92 ++ T) = T2 at *
  have hl2 : (cb T2).length = 64 := by rw [cb_len, hT2]
  have hg2 : Cells.getN (.lst (cb T2)) 0 64 = some (cb T2) := by
    have := getN_all (cb T2)
    rw [cb_len, hT2] at this; exact this
  simp only [hl2, ↓sxp, sxq, seval, evP, evX, evR, blkOf, evA, storeA, resL, resV, oneOrTup, noUnk, AV.cells, Cells.get, ↓bnd_assoc]
  refine Fin.write (cb T2) (h13.ord [4]) (setN_all (by rw [hl2]; rfl)) (by rw [hl2]; exact Nat.le_refl _) (cb_one T2) fun H14 h14 => ?_
  have g14 := h14.get
  simp only [↓g14, ↓hg2, ↓sxp, sxq, seval, evP, evX, evR, blkOf, evA, storeA, resL, resV, oneOrTup, noUnk, AV.cells, Cells.get, ↓bnd_assoc]
  have h15 := ((((((h14.ord [3]).sep.tail.sep).tail).ord [3, 4, 0]).rm 3).rm 3).rm 3
  exact Fin.ret ⟨rfl, h15⟩
end
end Go.Proofs.YtjfnhdiimibmiaaDoor.Sx

/- Keys, the program's. -/
namespace Go.Proofs.YtjfnhdiimibmiaaDoor.Sx
open HP
section
variable {W : World} {E : Env} {H : Heap} {Γ : List HP}
theorem Rd.one {bs : List UInt8} {v : AV} (h : Rd W H bs v) : v.cells = [v] ∧ noUnk v = true ∧ oneC v = true := by
  cases h <;> exact ⟨rfl, rfl, rfl⟩
theorem Holds.s2b {s : List UInt8} (h : Holds H Γ) (h0 : 0 < s.length) (hl : s.length < 65536) : Holds (H.push (.cells (.lst (cb s)) 5 (some H.next))) (row 5 1 (cb s) (.sl (some ⟨.own H.next, 0⟩) s.length (.opn 1)) :: Γ) := by
  obtain ⟨v', H', e, h'⟩ := (h.row_nil (ty := 5) (es := 1)).addN (W := default) (bytes := 1) (k := s.length) (new := cb s) (n := 0) (by omega) h0 (by rw [cb_len, Nat.mul_one]) (cb_one s) rfl (by omega)
  simp only [appN] at e
  rw [if_pos ⟨trivial, trivial⟩, if_neg (by omega)] at e
  simp only [appNew] at e
  rw [if_pos (by omega)] at e
  cases e
  rw [List.nil_append] at h'
  exact h'
theorem c_contains (hE : EnvW E) {ctx : List UInt8} {cv : AV} {jc : Nat} (g : H.get jc = some (.cells (.lst [cv]) 27 none)) (hc : lenV cv = some (.int .i64 ctx.length)) (hl : ctx.length < 256) :
    go W E 32 [.sl (some ⟨.own jc, 0⟩) 1 (.exact 1), .fn 31 [] []] H = some (.bool false, H) := by
  have b1 : ¬ (1048576 : Int) < ctx.length := by omega
  have e31 : ∀ H, go W E 31 [cv] H = some (.bool false, H) := fun H => by
    rw [go_code hE.f31 (by simp [sf31])]
    simp only [sf31, hc, b1, ↓sxp, sxq, seval, evP, evX, evR, blkOf, evA, storeA, resL, resV, oneOrTup, noUnk, AV.cells, Cells.get, ↓bnd_assoc]
  have hlp : ∀ f H, run W E lp48_0 f H = run W E lp48_0 f H := fun _ _ => rfl
  conv at hlp => enter [f, H, 2]; unfold lp48_0
  have hw1 : IntKind.i64.wrap 1 = 1 := rfl
  have e48 : go W E 48 [.sl (some ⟨.own jc, 0⟩) 1 (.exact 1), .fn 31 [] []] H = some (.int .i64 (-1), H) := by
    rw [go_code hE.f48 (by simp [sf48])]
    simp only [sf48, nc1, ↓sxp, sxq, seval, evP, evX, evR, blkOf, evA, storeA, resL, resV, oneOrTup, noUnk, AV.cells, Cells.get, ↓bnd_assoc]
    rw [run_loop]
    simp only [hlp, nc1, ↓g, ↓stepK_v, e31, hw1, ↓sxp, sxq, seval, evP, evX, evR, blkOf, evA, storeA, resL, resV, oneOrTup, noUnk, AV.cells, Cells.get, ↓bnd_assoc]
    rw [run_loop]
    simp only [hlp, nc1, ↓sxp, sxq, seval, evP, evX, evR, blkOf, evA, storeA, resL, resV, oneOrTup, noUnk, AV.cells, Cells.get, ↓bnd_assoc]
  rw [go_code hE.f32 (by simp [sf32])]
  simp only [sf32, e48, ↓sxp, sxq, seval, evP, evX, evR, blkOf, evA, storeA, resL, resV, oneOrTup, noUnk, AV.cells, Cells.get, ↓bnd_assoc]
theorem c_key (hE : EnvW E) {key s ctx : List UInt8} {kv cv : AV} {jc : Nat} {Rk Rc : HP} (hk : RdLike W key kv Rk) (hc : RdLike W ctx cv Rc) (hk0 : 0 < key.length) (hk1 : key.length ≤ 128) (hs0 : 0 < s.length) (hs : s.length < 65) (hc0 : 0 < ctx.length) (hcl : ctx.length < 256) (h : Holds H (Rk :: blk jc [cv] 27 :: Rc :: Γ)) :
    ∃ H', go W E 18 [kv, .str s, .sl (some ⟨.own jc, 0⟩) 1 (.exact 1)] H = some (.tup [.agg (cb (keyF key s ctx)), .int .i64 0], H') ∧ Holds H' (Rk :: blk jc [cv] 27 :: Rc :: Γ) := by
  apply Ends.out
  refine (show Fin (fun r : AV × Heap => r.1 = .tup [.agg (cb (keyF key s ctx)), .int .i64 0] ∧ Holds r.2 (Rk :: blk jc [cv] 27 :: Rc :: Γ)) _ from ?_)
  have hklen := (hk h).len
  have hclen := (hc (h.ord [2])).len
  have hcone := (hc (h.ord [2])).one
  have hk2 : ¬ (key.length : Int) = 0 := by omega
  have hs2 : ¬ (64 : Int) < s.length := by omega
  have hs3 : s.length < 140737488355328 := by omega
  have hcv : IntKind.u8.wrap (s.length : Int) = ((UInt8.ofNat s.length).toNat : Int) := wrap_u8' _
  have h2 := h.push (c := z32) (t := 22)
  have g2 := (h2.ord [2]).get
  have ec := c_contains (W := W) hE g2 hclen hcl
  have h3 := h2.push (c := [.int .u8 (UInt8.ofNat s.length).toNat]) (t := 5)
  have h4 := h3.s2b hs0 (by omega)
  have hz2 : zerosL [AV.sl none 0 (Cap.exact 0)] 2 = [AV.sl none 0 (Cap.exact 0), AV.sl none 0 (Cap.exact 0)] := rfl
  have hlp : ∀ f H, run W E lp18_0 f H = run W E lp18_0 f H := fun _ _ => rfl
  conv at hlp => enter [f, H, 2]; unfold lp18_0
  rw [go_code hE.f18 (by simp [sf18])]
  simp only [sf18, z32_eq, z64_eq, hklen, hk2, hs2, hcv, nc1, evX, ↓ec, hs3, hz2, ↓sxp, sxq, seval, evP, evX, evR, blkOf, evA, storeA, resL, resV, oneOrTup, noUnk, AV.cells, Cells.get, ↓bnd_assoc]
  have h5 := h4.push (c := [.sl (some ⟨.own (H.next + 1), 0⟩) 1 (.exact 1), .sl (some ⟨.own (H.next + 1 + 1), 0⟩) s.length (.opn 1)]) (t := 27)
  simp only [push_next] at h5
  rw [run_loop]
  have g5 := (h5.ord [5]).get
  simp only [hlp, nc1, ↓g5, hclen, ↓sxp, sxq, seval, evP, evX, evR, blkOf, evA, storeA, resL, resV, oneOrTup, noUnk, AV.cells, Cells.get, ↓bnd_assoc]
  generalize H.next = b6 at *
  have hb4 : ctx.length < 256 ^ 4 := Nat.lt_trans hcl (by decide)
  refine Fin.callE (fun nv : AV => .tup [nv, .int .i64 0]) (fun nv => row 5 1 (cb (bytesN 4 ctx.length)) nv :: blk (b6 + 1 + 1 + 1) [.sl (some ⟨.own (b6 + 1), 0⟩) 1 (.exact 1), .sl (some ⟨.own (b6 + 1 + 1), 0⟩) s.length (.opn 1)] 27 :: row 5 1 (cb s) (.sl (some ⟨.own (b6 + 1 + 1), 0⟩) s.length (.opn 1)) :: blk (b6 + 1) [.int .u8 (UInt8.ofNat s.length).toNat] 5 :: blk b6 z32 22 :: Rk :: blk jc [cv] 27 :: Rc :: Γ) (c_put (W := W) hE (n := ctx.length) (sz := 4) (by omega) (by omega) hb4 (by omega) h5) fun nv H6 h6 => ?_
  have hnone := ((RdLike.row (W := W) _ nv) h6).one.2.2
  have hc1 := hcone.2.2
  have h7 := h6.push (c := [nv, cv]) (t := 27)
  have hone4 : [AV.sl (some ⟨.own (b6 + 1), 0⟩) 1 (.exact 1), .sl (some ⟨.own (b6 + 1 + 1), 0⟩) s.length (.opn 1), nv, cv].all oneC = true := by
    simp only [List.all_cons, List.all_nil, hnone, hc1, oneC_sl, Bool.and_self]
  obtain ⟨v9, H8, e8, h8⟩ := (h7.ord [2]).xadd (W := W) (ty := 27) (bytes := 24) (n := 2) (k := 2) (new := [nv, cv]) rfl (by omega) (by omega) rfl hone4 (by omega)
  have e8' : appA W (H6.push (.cells (.lst [nv, cv]) 27 none)) 27 1 24 false (.sl (some ⟨.own (b6 + 1 + 1 + 1), 0⟩) 2 (.exact 2)) (.sl (some ⟨.own H6.next, 0⟩) 2 (.exact 2)) = some (v9, H8) := by
    have g7 := h7.get
    have hs7 : srcA W (H6.push (.cells (.lst [nv, cv]) 27 none)) 1 false (.sl (some ⟨.own H6.next, 0⟩) 2 (.exact 2)) = some (2, [nv, cv]) := by
      simp only [srcA, blkOf, g7]; rfl
    simp only [appA, hs7]; exact e8
  have hw1 : IntKind.i64.wrap 1 = 1 := rfl
  simp only [hz2, hnone, hc1, ↓e8', hw1, ↓sxp, sxq, seval, evP, evX, evR, blkOf, evA, storeA, resL, resV, oneOrTup, noUnk, AV.cells, Cells.get, ↓bnd_assoc]
  rw [run_loop]
  simp only [hlp, nc1, z64_eq, ↓sxp, sxq, seval, evP, evX, evR, blkOf, evA, storeA, resL, resV, oneOrTup, noUnk, AV.cells, Cells.get, ↓bnd_assoc]
  have hfl : flat [([UInt8.ofNat s.length], AV.sl (some ⟨.own (b6 + 1), 0⟩) 1 (.exact 1)), (s, .sl (some ⟨.own (b6 + 1 + 1), 0⟩) s.length (.opn 1)), (bytesN 4 ctx.length, nv), (ctx, cv)] = msgF s ctx := by simp [flat, msgF]
  have h9 : Holds H8 (Rk :: row 27 1 (sv [([UInt8.ofNat s.length], AV.sl (some ⟨.own (b6 + 1), 0⟩) 1 (.exact 1)), (s, .sl (some ⟨.own (b6 + 1 + 1), 0⟩) s.length (.opn 1)), (bytesN 4 ctx.length, nv), (ctx, cv)]) v9 :: HP.all [blk (b6 + 1) (cb [UInt8.ofNat s.length]) 5, row 5 1 (cb s) (.sl (some ⟨.own (b6 + 1 + 1), 0⟩) s.length (.opn 1)), row 5 1 (cb (bytesN 4 ctx.length)) nv, Rc] :: blk b6 z32 22 :: blk jc [cv] 27 :: Γ) := by
    have := ((((Holds.cls [_, _, _, _] (h8.ord [5, 4, 3, 6])).ord [5, 1, 0]).rm 3).rm 3)
    exact this
  have hkf : keyF key s ctx = (tagF key (msgF s ctx)).take 32 := rfl
  have hml : (msgF s ctx).length < 50000 := by unfold msgF; simp [bytesN_len]; omega
  rw [← hfl] at hml hkf
  refine Fin.call (c_tag (ps := [([UInt8.ofNat s.length], AV.sl (some ⟨.own (b6 + 1), 0⟩) 1 (.exact 1)), (s, .sl (some ⟨.own (b6 + 1 + 1), 0⟩) s.length (.opn 1)), (bytesN 4 ctx.length, nv), (ctx, cv)]) hE hk rfl (fun i hi => by
      match i, hi with
      | 0, _ => exact @RdLike.exb W [UInt8.ofNat s.length] (b6 + 1) 1 rfl 5
      | 1, _ => exact @RdLike.row W s _
      | 2, _ => exact @RdLike.row W _ nv
      | 3, _ => exact @hc) (by simp) (by simp) (by exact hone4) hk0 hk1 hml h9) fun H10 h10 => ?_
  rw [hkf]
  have hT := tagF_len key (flat [([UInt8.ofNat s.length], AV.sl (some ⟨.own (b6 + 1), 0⟩) 1 (.exact 1)), (s, .sl (some ⟨.own (b6 + 1 + 1), 0⟩) s.length (.opn 1)), (bytesN 4 ctx.length, nv), (ctx, cv)])
  generalize tagF key (flat [([UInt8.ofNat s.length], AV.sl (some ⟨.own (b6 + 1), 0⟩) 1 (.exact 1)), (s, .sl (some ⟨.own (b6 + 1 + 1), 0⟩) s.length (.opn 1)), (bytesN 4 ctx.length, nv), (ctx, cv)]) = T at *
  have hl64 : (cb T).length = 64 := by rw [cb_len, hT]
  have h11 := h10.push (c := z64) (t := 71)
  have hb32 : ∀ A : Tm, bounds A 64 64 none (some (.c (.int .i64 32))) none = some (0, 32, 64) := fun _ => rfl
  simp only [hl64, ↓hb32, ↓sxp, sxq, seval, evP, evX, evR, blkOf, evA, storeA, resL, resV, oneOrTup, noUnk, AV.cells, Cells.get, ↓bnd_assoc]
  generalize H10.next = b14 at *
  refine Fin.write (cb T) h11 (setN_all (by rw [hl64]; rfl)) (by rw [hl64]; exact Nat.le_refl _) (cb_one T) fun H12 h12 => ?_
  have g12 := h12.get
  have hgT : Cells.getN (.lst (cb T)) 0 32 = some (cb (T.take 32)) := by
    have := getN_all (cb T)
    have := getN_sub 0 32 this (by rw [hl64]; omega)
    rw [cb_sub] at this
    simpa using this
  have hl32 : (T.take 32).length = 32 := by rw [List.length_take, hT]; rfl
  generalize T.take 32 = O at *
  have hc32 : (cb O).length = 32 := by rw [cb_len, hl32]
  have hg32 : Cells.getN (.lst (cb O)) 0 32 = some (cb O) := by
    have := getN_all (cb O)
    rw [cb_len, hl32] at this; exact this
  simp only [↓g12, ↓hgT, hc32, Nat.sub_zero, ↓sxp, sxq, seval, evP, evX, evR, blkOf, evA, storeA, resL, resV, oneOrTup, noUnk, AV.cells, Cells.get, ↓bnd_assoc]
  refine Fin.write (cb O) (h12.ord [4]) (setN_all (by rw [hc32]; rfl)) (by rw [hc32]; exact Nat.le_refl _) (cb_one O) fun H13 h13 => ?_
  have g13 := h13.get
  simp only [↓g13, ↓hg32, ↓sxp, sxq, seval, evP, evX, evR, blkOf, evA, storeA, resL, resV, oneOrTup, noUnk, AV.cells, Cells.get, ↓bnd_assoc]
  have h14 := (Holds.opn (l := [blk (b6 + 1) (cb [UInt8.ofNat s.length]) 5, row 5 1 (cb s) (.sl (some ⟨.own (b6 + 1 + 1), 0⟩) s.length (.opn 1)), row 5 1 (cb (bytesN 4 ctx.length)) nv, Rc]) ((h13.tail.tail).ord [2])).tail.tail.tail
  exact Fin.ret ⟨rfl, (h14.ord [1, 2, 0]).rm 3⟩
end
end Go.Proofs.YtjfnhdiimibmiaaDoor.Sx

/- Lots. -/
namespace Go.Proofs.YtjfnhdiimibmiaaDoor.Sx
open HP
def lotF (seed : List UInt8) (i : Nat) : List UInt8 := keyF seed [108, 111, 116] (bytesN 8 i)
theorem lotF_len (seed : List UInt8) (i : Nat) : (lotF seed i).length = 32 := keyF_len _ _ _
section
variable {W : World} {E : Env} {H : Heap} {Γ : List HP}
theorem getN_cb {L : List UInt8} {n : Nat} (h : L.length = n) : Cells.getN (.lst (cb L)) 0 n = some (cb L) := by
  have := getN_all (cb L)
  rw [cb_len, h] at this; exact this
theorem c_lot (hE : EnvW E) {seed : List UInt8} {i : Nat} (hs : seed.length = 32) (hi : i ≤ 1024) (h : Holds H Γ) :
    ∃ H', go W E 6 [.agg (cb seed), .int .i64 (i : Int)] H = some (.tup [.agg (cb (lotF seed i)), .int .i64 0], H') ∧ Holds H' Γ := by
  apply Ends.out
  refine (show Fin (fun r : AV × Heap => r.1 = .tup [.agg (cb (lotF seed i)), .int .i64 0] ∧ Holds r.2 Γ) _ from ?_)
  have h2 := (h.push (c := cb seed) (t := 22)).push (c := z32) (t := 22)
  have hlot : lotF seed i = keyF seed [108, 111, 116] (bytesN 8 i) := rfl
  have hrd := @RdLike.exb W seed H.next 32 hs 22
  have b1 : ¬ (i : Int) < 0 := by omega
  have b2 : ¬ (1024 : Int) < i := by omega
  have hol := keyF_len seed [108, 111, 116] (bytesN 8 i)
  rw [go_code hE.f6 (by simp [sf6])]
  rw [hlot]
  simp only [push_next] at h2
  generalize hcs : cb seed = cs at *
  simp only [sf6, z32_eq, b1, b2, ↓sxp, sxq, seval, evP, evX, evR, blkOf, evA, storeA, resL, resV, oneOrTup, noUnk, AV.cells, Cells.get, ↓bnd_assoc]
  refine Fin.callE (fun nv : AV => .tup [nv, .int .i64 0]) (fun nv => row 5 1 (cb (bytesN 8 i)) nv :: blk (H.next + 1) z32 22 :: blk H.next cs 22 :: Γ) (c_put (W := W) hE (n := i) (sz := 8) (by omega) (by omega) (Nat.lt_of_le_of_lt hi (by decide)) (by omega) h2) fun nv H3 h3 => ?_
  have hn1 := ((RdLike.row (W := W) _ nv) h3).one.2.2
  have h4 := h3.push (c := [nv]) (t := 27)
  have hz1 : zerosL [AV.sl none 0 (Cap.exact 0)] 1 = [AV.sl none 0 (Cap.exact 0)] := rfl
  have b32 := fun A => bndN A 32
  generalize H.next = bs at *
  simp only [hn1, hz1, ↓b32, Nat.sub_zero, ↓sxp, sxq, seval, evP, evX, evR, blkOf, evA, storeA, resL, resV, oneOrTup, noUnk, AV.cells, Cells.get, ↓bnd_assoc]
  generalize H3.next = b3 at *
  have h5 : Holds (H3.push (.cells (.lst [nv]) 27 none)) (blk bs cs 22 :: blk b3 [nv] 27 :: row 5 1 (cb (bytesN 8 i)) nv :: blk (bs + 1) z32 22 :: Γ) := (h4.ord [3])
  refine Fin.call (c_key (W := W) (key := seed) (s := [108, 111, 116]) (ctx := bytesN 8 i) hE hrd (RdLike.row _ nv) (by omega) (by omega) (by simp) (by simp) (by rw [bytesN_len]; omega) (by rw [bytesN_len]; omega) h5) fun H6 h6 => ?_
  generalize keyF seed [108, 111, 116] (bytesN 8 i) = O at *
  have hg32 := getN_cb hol
  have hc32 : (cb O).length = 32 := by rw [cb_len, hol]
  simp only [hc32, ↓sxp, sxq, seval, evP, evX, evR, blkOf, evA, storeA, resL, resV, oneOrTup, noUnk, AV.cells, Cells.get, ↓bnd_assoc]
  refine Fin.write (cb O) (h6.ord [3]) (setN_all (by rw [hc32]; rfl)) (by rw [hc32]; exact Nat.le_refl _) (cb_one O) fun H7 h7 => ?_
  have g7 := h7.get
  simp only [↓g7, ↓hg32, ↓sxp, sxq, seval, evP, evX, evR, blkOf, evA, storeA, resL, resV, oneOrTup, noUnk, AV.cells, Cells.get, ↓bnd_assoc]
  exact Fin.ret ⟨rfl, h7.tail.tail.tail.tail⟩
theorem c_lot_no (hE : EnvW E) {seed : List UInt8} {i : Int} (hi : i < 0 ∨ 1024 < i) (h : Holds H Γ) :
    ∃ H', go W E 6 [.agg (cb seed), .int .i64 i] H = some (.tup [.agg z32, .int .i64 2], H') ∧ Holds H' Γ := by
  apply Ends.out
  refine (show Fin (fun r : AV × Heap => r.1 = .tup [.agg z32, .int .i64 2] ∧ Holds r.2 Γ) _ from ?_)
  have h2 := (h.push (c := cb seed) (t := 22)).push (c := z32) (t := 22)
  simp only [push_next] at h2
  have hg32 : Cells.getN (.lst z32) 0 32 = some z32 := getN_cb (by simp)
  have hl32 : z32.length = 32 := rfl
  have ho32 : z32.all oneC = true := cb_one _
  have bz : ∀ A, evP A (.build z32 []) = some (.agg z32) := fun _ => rfl
  rw [go_code hE.f6 (by simp [sf6])]
  generalize hcs : cb seed = cs at *
  rcases hi with hi | hi
  · simp only [sf6, z32_eq, hi, ↓bz, hl32, ↓sxp, sxq, seval, evP, evX, evR, blkOf, evA, storeA, resL, resV, oneOrTup, noUnk, AV.cells, Cells.get, ↓bnd_assoc]
    refine Fin.write z32 h2 (setN_all rfl) (by rw [hl32]; exact Nat.le_refl _) ho32 fun H7 h7 => ?_
    have g7 := h7.get
    simp only [↓g7, ↓hg32, ↓sxp, sxq, seval, evP, evX, evR, blkOf, evA, storeA, resL, resV, oneOrTup, noUnk, AV.cells, Cells.get, ↓bnd_assoc]
    exact Fin.ret ⟨rfl, h7.tail.tail⟩
  · have b1 : ¬ i < 0 := by omega
    simp only [sf6, z32_eq, b1, hi, ↓bz, hl32, ↓sxp, sxq, seval, evP, evX, evR, blkOf, evA, storeA, resL, resV, oneOrTup, noUnk, AV.cells, Cells.get, ↓bnd_assoc]
    refine Fin.write z32 h2 (setN_all rfl) (by rw [hl32]; exact Nat.le_refl _) ho32 fun H7 h7 => ?_
    have g7 := h7.get
    simp only [↓g7, ↓hg32, ↓sxp, sxq, seval, evP, evX, evR, blkOf, evA, storeA, resL, resV, oneOrTup, noUnk, AV.cells, Cells.get, ↓bnd_assoc]
    exact Fin.ret ⟨rfl, h7.tail.tail⟩
theorem c_dlot (hE : EnvW E) {seed : List UInt8} {i : Nat} (hs : seed.length = 32) (hi : i ≤ 1024) (h : Holds H Γ) :
    ∃ H', go W E 9 [.agg (cb seed), .int .i64 (i : Int)] H = some (.agg (cb (lotF seed i)), H') ∧ Holds H' Γ := by
  apply Ends.out
  refine (show Fin (fun r : AV × Heap => r.1 = .agg (cb (lotF seed i)) ∧ Holds r.2 Γ) _ from ?_)
  have h2 := (h.push (c := cb seed) (t := 22)).push (c := z32) (t := 22)
  have hlot : lotF seed i = keyF seed [108, 111, 116] (bytesN 8 i) := rfl
  have hrd := @RdLike.exb W seed H.next 32 hs 22
  have hol := keyF_len seed [108, 111, 116] (bytesN 8 i)
  rw [go_code hE.f9 (by simp [sf9])]
  rw [hlot]
  simp only [push_next] at h2
  generalize hcs : cb seed = cs at *
  simp only [sf9, z32_eq, ↓sxp, sxq, seval, evP, evX, evR, blkOf, evA, storeA, resL, resV, oneOrTup, noUnk, AV.cells, Cells.get, ↓bnd_assoc]
  refine Fin.callX (fun r H' => ∃ nv, r = .tup [nv, .int .i64 0] ∧ ∃ R, RdLike W (bytesN 8 i) nv R ∧ Holds H' (R :: blk (H.next + 1) z32 22 :: blk H.next cs 22 :: Γ)) (by obtain ⟨v, H', e, q⟩ := c_dput (W := W) hE (n := i) (sz := 8) (by omega) (by omega) (Nat.lt_of_le_of_lt hi (by decide)) (by omega) h2; exact ⟨_, H', e, v, rfl, q⟩) fun r H3 ⟨nv, hr, R, hR, h3⟩ => ?_
  subst hr
  have hn1 := (hR h3).one.2.2
  have h4 := h3.push (c := [nv]) (t := 27)
  have hz1 : zerosL [AV.sl none 0 (Cap.exact 0)] 1 = [AV.sl none 0 (Cap.exact 0)] := rfl
  have b32 := fun A => bndN A 32
  generalize H.next = bs at *
  simp only [hn1, hz1, ↓b32, Nat.sub_zero, ↓sxp, sxq, seval, evP, evX, evR, blkOf, evA, storeA, resL, resV, oneOrTup, noUnk, AV.cells, Cells.get, ↓bnd_assoc]
  generalize H3.next = b3 at *
  refine Fin.call (c_dkey (W := W) (key := seed) (s := [108, 111, 116]) (ctx := bytesN 8 i) hE hrd hR (by omega) (by omega) (by simp) (by rw [bytesN_len]; omega) (by rw [bytesN_len]; omega) (h4.ord [3])) fun H6 h6 => ?_
  generalize keyF seed [108, 111, 116] (bytesN 8 i) = O at *
  have hg32 := getN_cb hol
  have hc32 : (cb O).length = 32 := by rw [cb_len, hol]
  have h7 := h6.push (c := z32) (t := 22)
  simp only [hc32, ↓sxp, sxq, seval, evP, evX, evR, blkOf, evA, storeA, resL, resV, oneOrTup, noUnk, AV.cells, Cells.get, ↓bnd_assoc]
  generalize H6.next = b7 at *
  refine Fin.write (cb O) h7 (setN_all (by rw [hc32]; rfl)) (by rw [hc32]; exact Nat.le_refl _) (cb_one O) fun H8 h8 => ?_
  have g8 := h8.get
  simp only [↓g8, ↓hg32, hc32, ↓sxp, sxq, seval, evP, evX, evR, blkOf, evA, storeA, resL, resV, oneOrTup, noUnk, AV.cells, Cells.get, ↓bnd_assoc]
  refine Fin.write (cb O) (h8.ord [4]) (setN_all (by rw [hc32]; rfl)) (by rw [hc32]; exact Nat.le_refl _) (cb_one O) fun H9 h9 => ?_
  have g9 := h9.get
  simp only [↓g9, ↓hg32, ↓sxp, sxq, seval, evP, evX, evR, blkOf, evA, storeA, resL, resV, oneOrTup, noUnk, AV.cells, Cells.get, ↓bnd_assoc]
  exact Fin.ret ⟨rfl, h9.tail.tail.tail.tail.tail⟩
end
end Go.Proofs.YtjfnhdiimibmiaaDoor.Sx

/- Names, and what is chosen. -/
namespace Go.Proofs.YtjfnhdiimibmiaaDoor.Sx
open HP
def nameF (l : UInt8) (n : Nat) : List UInt8 := [l, 48 + UInt8.ofNat n]
def otherF (n : Nat) (b : List UInt8) : List UInt8 := if n < 5 ∧ nameF 102 n ≠ b then nameF 102 n else []
section
variable {W : World} {E : Env} {H : Heap} {Γ : List HP}
theorem c_name (hE : EnvW E) (l : UInt8) (n : Nat) (h : Holds H Γ) : ∃ H', go W E 19 [.int .u8 l.toNat, .int .i64 (n : Int)] H = some (.str (nameF l n), H') ∧ Holds H' Γ := by
  apply Ends.out
  refine (show Fin (fun r : AV × Heap => r.1 = .str (nameF l n) ∧ Holds r.2 Γ) _ from ?_)
  have e1 := wrap_u8' n
  have e2 : IntKind.u8.wrap (48 + ((UInt8.ofNat n).toNat : Int)) = ((48 + UInt8.ofNat n : UInt8).toNat : Int) := by
    have := wrap_u8' (48 + (UInt8.ofNat n).toNat)
    rw [Int.natCast_add] at this
    refine Eq.trans this ?_
    congr 2
  have h2 := h.push (c := cb [l, 48 + UInt8.ofNat n]) (t := 5)
  have g2 := h2.get
  have hz2 : zerosL [AV.int .u8 0] 2 = [AV.int .u8 0, AV.int .u8 0] := rfl
  have hcb : cb [l, 48 + UInt8.ofNat n] = [.int .u8 l.toNat, .int .u8 (48 + UInt8.ofNat n : UInt8).toNat] := rfl
  have hb := bytesOf_cb [l, 48 + UInt8.ofNat n]
  have hg := getN_cb (L := [l, 48 + UInt8.ofNat n]) (n := 2) rfl
  rw [hcb] at h2 g2 hb hg
  have hs : b2sV W (H.push (.cells (.lst [.int .u8 l.toNat, .int .u8 (48 + UInt8.ofNat n : UInt8).toNat]) 5 none)) (.sl (some ⟨.own H.next, 0⟩) 2 (.exact 2)) = some (.str [l, 48 + UInt8.ofNat n]) := by
    simp only [b2sV, blkOf, g2, hg, hb, Option.map_some]
  rw [go_code hE.f19 (by simp [sf19])]
  simp only [sf19, e1, e2, hz2, hs, ↓sxp, sxq, ↓reduceIte, Nat.reduceBEq, Nat.reduceLT, evP, evX, evR, blkOf, evA, storeA, Nat.reduceEqDiff, resL, resV, oneOrTup, Int.reduceEq, Int.reduceLT, Int.reduceLE, Int.reduceNeg, Int.reduceAdd, Int.reduceSub, Int.reduceMul, Int.reduceToNat, Nat.reduceAdd, noUnk, AV.cells, reduceCtorEq, Nat.reduceLeDiff, Cells.get, Nat.reduceMul, ↓bnd_assoc]
  exact Fin.ret ⟨rfl, h2.tail⟩
theorem s_neq (x y : List UInt8) : bin .neq (.str x) (.str y) = some (.bool !(x == y)) := (Eq.refl _).trans rfl
theorem s_eql (x y : List UInt8) : bin .eql (.str x) (.str y) = some (.bool (x == y)) := (Eq.refl _).trans rfl
theorem c_other (hE : EnvW E) (n : Nat) (b : List UInt8) (h : Holds H Γ) : ∃ H', go W E 35 [.int .i64 (n : Int), .str b] H = some (.str (otherF n b), H') ∧ Holds H' Γ := by
  apply Ends.out
  refine (show Fin (fun r : AV × Heap => r.1 = .str (otherF n b) ∧ Holds r.2 Γ) _ from ?_)
  rw [go_code hE.f35 (by simp [sf35])]
  simp only [sf35, ↓sxp, sxq, ↓reduceIte, Nat.reduceBEq, Nat.reduceLT, evP, evX, evR, blkOf, evA, storeA, Nat.reduceEqDiff, resL, resV, oneOrTup, Int.reduceEq, Int.reduceLT, Int.reduceLE, Int.reduceNeg, Int.reduceAdd, Int.reduceSub, Int.reduceMul, Int.reduceToNat, Nat.reduceAdd, noUnk, AV.cells, reduceCtorEq, Nat.reduceLeDiff, Cells.get, Nat.reduceMul, ↓bnd_assoc]
  refine Fin.call (c_name hE 102 n h) fun H2 h2 => ?_
  by_cases h5 : n < 5
  · have h5' : (n : Int) < 5 := by omega
    by_cases hb : nameF 102 n = b
    · have e : (nameF 102 n == b) = true := by rw [hb]; exact beq_self_eq_true b
      simp only [h5', s_neq, e, ↓sxp, sxq, ↓reduceIte, Nat.reduceBEq, Nat.reduceLT, evP, evX, evR, blkOf, evA, storeA, Nat.reduceEqDiff, resL, resV, oneOrTup, Int.reduceEq, Int.reduceLT, Int.reduceLE, Int.reduceNeg, Int.reduceAdd, Int.reduceSub, Int.reduceMul, Int.reduceToNat, Nat.reduceAdd, noUnk, AV.cells, reduceCtorEq, Nat.reduceLeDiff, Cells.get, Nat.reduceMul, ↓bnd_assoc]
      exact Fin.ret ⟨by unfold otherF; rw [if_neg (fun h => h.2 hb)], h2⟩
    · have e : (nameF 102 n == b) = false := by simpa using hb
      simp only [h5', s_neq, e, ↓sxp, sxq, ↓reduceIte, Nat.reduceBEq, Nat.reduceLT, evP, evX, evR, blkOf, evA, storeA, Nat.reduceEqDiff, resL, resV, oneOrTup, Int.reduceEq, Int.reduceLT, Int.reduceLE, Int.reduceNeg, Int.reduceAdd, Int.reduceSub, Int.reduceMul, Int.reduceToNat, Nat.reduceAdd, noUnk, AV.cells, reduceCtorEq, Nat.reduceLeDiff, Cells.get, Nat.reduceMul, ↓bnd_assoc]
      exact Fin.ret ⟨by unfold otherF; rw [if_pos ⟨h5, hb⟩], h2⟩
  · have h5' : ¬ (n : Int) < 5 := by omega
    simp only [h5', ↓sxp, sxq, ↓reduceIte, Nat.reduceBEq, Nat.reduceLT, evP, evX, evR, blkOf, evA, storeA, Nat.reduceEqDiff, resL, resV, oneOrTup, Int.reduceEq, Int.reduceLT, Int.reduceLE, Int.reduceNeg, Int.reduceAdd, Int.reduceSub, Int.reduceMul, Int.reduceToNat, Nat.reduceAdd, noUnk, AV.cells, reduceCtorEq, Nat.reduceLeDiff, Cells.get, Nat.reduceMul, ↓bnd_assoc]
    exact Fin.ret ⟨by unfold otherF; rw [if_neg (fun h => h5 h.1)], h2⟩
def atF (L : List UInt8) (i n : Nat) : Nat := (L.getD i 0).toNat % n
theorem conv_i64 (b : UInt8) : IntKind.i64.wrap (b.toNat : Int) = (b.toNat : Int) := by
  have := b.toNat_lt
  rw [w64 (by omega)]
theorem c_at (hE : EnvW E) {L : List UInt8} {jb i n : Nat} (hl : L.length = 32) (hi : i < 32) (hn : 0 < n) (g : H.get jb = some (.cells (.lst (cb L)) 22 none)) :
    go W E 34 [.int .i64 (i : Int), .int .i64 (n : Int), .ptr (some ⟨.own jb, 0⟩)] H = some (.int .i64 ((atF L i n : Nat) : Int), H) := by
  have hlt : (i : Int) < 32 := by omega
  have hx := cb_get (show i < L.length by omega)
  have e1 := conv_i64 (L.getD i 0)
  have e2 := i_rem (L.getD i 0).toNat n (by omega)
  have e3 : (L.getD i 0).toNat % n = atF L i n := rfl
  rw [e3] at e2
  rw [go_code hE.f34 (by simp [sf34])]
  simp only [sf34, nc32, hlt, ↓g, hx, e1, e2, Int.natCast_nonneg, and_self, Int.toNat_natCast, ↓sxp, sxq, ↓reduceIte, Nat.reduceBEq, Nat.reduceLT, evP, evX, evR, blkOf, evA, storeA, Nat.reduceEqDiff, resL, resV, oneOrTup, Int.reduceEq, Int.reduceLT, Int.reduceLE, Int.reduceNeg, Int.reduceAdd, Int.reduceSub, Int.reduceMul, Int.reduceToNat, Nat.reduceAdd, noUnk, AV.cells, reduceCtorEq, Nat.reduceLeDiff, Cells.get, Nat.reduceMul, ↓bnd_assoc]
def bndF (n : Nat) (a : Int) (v : AV) : Option (Nat × Nat × Nat) := bounds .e n n (some (.c (.int .i64 a))) (some (.c v)) none
theorem bnd_ct (A : Tm) (n i : Nat) (a : Int) : bounds A n n (some (.c (.int .i64 a))) (some (.tmp i)) none = bndF n a (getX A i) := (Eq.refl _).trans rfl
theorem Holds.empty (h : Holds H Γ) : Holds H (HP.emp :: Γ) := by
  obtain ⟨fp, hp⟩ := h.a
  exact ⟨h.wf, fp, [], fp, rfl, hp, by simp, by simp⟩
def KND : List Nat := [2, 8, 8, 8, 5, 5, 6, 7, 9, 9, 10, 12, 13, 11, 3, 4, 14]
/-- The kinds lie in memory. -/
def GK (W : World) : Prop := ∃ c, (∀ H, blkOf W H (.old 0) = some c) ∧ ∀ i, i < 17 → c.get i = some (.int .i64 ((KND.getD i 0 : Nat) : Int))
theorem GK.load (h : GK W) {i : Nat} (hi : i < 17) (H : Heap) : loadV W H none (.ptr (some ⟨.old 0, i⟩)) = some (.int .i64 ((KND.getD i 0 : Nat) : Int)) := by
  obtain ⟨c, h1, h2⟩ := h
  simp only [loadV, h1 H, h2 i hi]
/-- A call. -/
structure CF where
  (kind : Nat) (user folder name other : List UInt8) (role version : Nat) (data : List UInt8)
def cfC (c : CF) (dv : AV) : List AV := [.int .i64 (c.kind : Int), .str c.user, .str c.folder, .str c.name, .str c.other, .int .i64 (c.role : Int), .int .i64 (c.version : Int), dv]
def choF (L : List UInt8) : CF :=
  let k := KND.getD (atF L 0 17) 0
  let u := nameF 117 (atF L 1 4)
  let f := nameF 102 (atF L 2 5)
  let x := nameF 120 (atF L 3 2)
  let o := nameF 117 (atF L 7 4)
  if k = 14 then ⟨k, u, [], [], nameF 117 ((atF L 1 4 + 1 + atF L 7 3) % 4), 0, 0, []⟩
  else if k = 2 ∨ k = 3 then ⟨k, u, f, [], otherF (atF L 7 6) f, 0, 0, []⟩
  else if k = 5 ∨ k = 6 then ⟨k, u, f, [], o, 1 + atF L 4 4, 0, []⟩
  else if k = 7 then ⟨k, u, f, [], o, 0, 0, []⟩
  else if k = 8 then ⟨k, u, f, x, [], 0, 0, (L.drop 16).take (atF L 6 9)⟩
  else if k = 9 then ⟨k, u, f, x, [], 0, atF L 5 3, []⟩
  else if k = 11 ∨ k = 12 then ⟨k, u, f, x, [], 0, 0, []⟩
  else ⟨k, u, f, [], [], 0, 0, []⟩
theorem KND_in : ∀ a, a < 17 → KND.getD a 0 ∈ [2, 3, 4, 5, 6, 7, 8, 9, 10, 11, 12, 13, 14] := by decide
abbrev c0 : List AV := [.int .i64 0, .str [], .str [], .str [], .str [], .int .i64 0, .int .i64 0, .sl none 0 (.exact 0)]
theorem c0_eq : [AV.int .i64 0, .str [], .str [], .str [], .str [], .int .i64 0, .int .i64 0, .sl none 0 (.exact 0)] = c0 := rfl
theorem c_chosen (hE : EnvW E) (hG : GK W) {L : List UInt8} (hl : L.length = 32) (h : Holds H Γ) :
    ∃ dv H', go W E 20 [.agg (cb L)] H = some (.agg (cfC (choF L) dv), H') ∧ ∃ R, RdLike W (choF L).data dv R ∧ Holds H' (R :: Γ) := by
  suffices hh : Fin (fun r : AV × Heap => ∃ dv, r.1 = .agg (cfC (choF L) dv) ∧ ∃ R, RdLike W (choF L).data dv R ∧ Holds r.2 (R :: Γ)) (go W E 20 [.agg (cb L)] H) by
    obtain ⟨⟨r, H'⟩, e, dv, hr, q⟩ := hh
    simp only at hr
    subst hr
    exact ⟨dv, H', e, q⟩
  have hg8 : ∀ a b c d e f g h : AV, Cells.getN (.lst [a, b, c, d, e, f, g, h]) 0 8 = some [a, b, c, d, e, f, g, h] := fun _ _ _ _ _ _ _ _ => rfl
  have h2 := (h.push (c := cb L) (t := 22)).push (c := c0) (t := 29)
  simp only [push_next] at h2
  have h3 := h2.bump1 10 8
  simp only [push_next] at h3
  have at17 : atF L 0 17 < 17 := Nat.mod_lt _ (by omega)
  have i17 : ((atF L 0 17 : Nat) : Int) < ((17 : Nat) : Int) := by omega
  have hld := hG.load at17
  have hkin := KND_in _ at17
  rw [go_code hE.f20 (by simp [sf20])]
  generalize hcs : cb L = cs at *
  simp only [sf20, ↓stepK_v, ↓sxp, sxq, ↓reduceIte, Nat.reduceBEq, Nat.reduceLT, evP, evX, evR, blkOf, evA, storeA, Nat.reduceEqDiff, resL, resV, oneOrTup, Int.reduceEq, Int.reduceLT, Int.reduceLE, Int.reduceNeg, Int.reduceAdd, Int.reduceSub, Int.reduceMul, Int.reduceToNat, Nat.reduceAdd, noUnk, AV.cells, reduceCtorEq, Nat.reduceLeDiff, Cells.get, Nat.reduceMul, ↓bnd_assoc]
  generalize H.next = jb at *
  have a0_17 : ∀ H : Heap, H.get jb = some (.cells (.lst cs) 22 none) → go W E 34 [.int .i64 0, .int .i64 17, .ptr (some ⟨.own jb, 0⟩)] H = some (.int .i64 ((atF L 0 17 : Nat) : Int), H) := fun H g => by subst hcs; exact c_at hE hl (i := 0) (n := 17) (by omega) (by omega) g
  have a1_4 : ∀ H : Heap, H.get jb = some (.cells (.lst cs) 22 none) → go W E 34 [.int .i64 1, .int .i64 4, .ptr (some ⟨.own jb, 0⟩)] H = some (.int .i64 ((atF L 1 4 : Nat) : Int), H) := fun H g => by subst hcs; exact c_at hE hl (i := 1) (n := 4) (by omega) (by omega) g
  have a2_5 : ∀ H : Heap, H.get jb = some (.cells (.lst cs) 22 none) → go W E 34 [.int .i64 2, .int .i64 5, .ptr (some ⟨.own jb, 0⟩)] H = some (.int .i64 ((atF L 2 5 : Nat) : Int), H) := fun H g => by subst hcs; exact c_at hE hl (i := 2) (n := 5) (by omega) (by omega) g
  have a7_6 : ∀ H : Heap, H.get jb = some (.cells (.lst cs) 22 none) → go W E 34 [.int .i64 7, .int .i64 6, .ptr (some ⟨.own jb, 0⟩)] H = some (.int .i64 ((atF L 7 6 : Nat) : Int), H) := fun H g => by subst hcs; exact c_at hE hl (i := 7) (n := 6) (by omega) (by omega) g
  have a7_4 : ∀ H : Heap, H.get jb = some (.cells (.lst cs) 22 none) → go W E 34 [.int .i64 7, .int .i64 4, .ptr (some ⟨.own jb, 0⟩)] H = some (.int .i64 ((atF L 7 4 : Nat) : Int), H) := fun H g => by subst hcs; exact c_at hE hl (i := 7) (n := 4) (by omega) (by omega) g
  have a7_3 : ∀ H : Heap, H.get jb = some (.cells (.lst cs) 22 none) → go W E 34 [.int .i64 7, .int .i64 3, .ptr (some ⟨.own jb, 0⟩)] H = some (.int .i64 ((atF L 7 3 : Nat) : Int), H) := fun H g => by subst hcs; exact c_at hE hl (i := 7) (n := 3) (by omega) (by omega) g
  have a4_4 : ∀ H : Heap, H.get jb = some (.cells (.lst cs) 22 none) → go W E 34 [.int .i64 4, .int .i64 4, .ptr (some ⟨.own jb, 0⟩)] H = some (.int .i64 ((atF L 4 4 : Nat) : Int), H) := fun H g => by subst hcs; exact c_at hE hl (i := 4) (n := 4) (by omega) (by omega) g
  have a3_2 : ∀ H : Heap, H.get jb = some (.cells (.lst cs) 22 none) → go W E 34 [.int .i64 3, .int .i64 2, .ptr (some ⟨.own jb, 0⟩)] H = some (.int .i64 ((atF L 3 2 : Nat) : Int), H) := fun H g => by subst hcs; exact c_at hE hl (i := 3) (n := 2) (by omega) (by omega) g
  have a6_9 : ∀ H : Heap, H.get jb = some (.cells (.lst cs) 22 none) → go W E 34 [.int .i64 6, .int .i64 9, .ptr (some ⟨.own jb, 0⟩)] H = some (.int .i64 ((atF L 6 9 : Nat) : Int), H) := fun H g => by subst hcs; exact c_at hE hl (i := 6) (n := 9) (by omega) (by omega) g
  have a5_3 : ∀ H : Heap, H.get jb = some (.cells (.lst cs) 22 none) → go W E 34 [.int .i64 5, .int .i64 3, .ptr (some ⟨.own jb, 0⟩)] H = some (.int .i64 ((atF L 5 3 : Nat) : Int), H) := fun H g => by subst hcs; exact c_at hE hl (i := 5) (n := 3) (by omega) (by omega) g
  have g3 := (h3.ord [2]).get
  simp only [a0_17, a1_4, ↓g3, i17, Int.natCast_nonneg, and_self, Int.toNat_natCast, hld, ↓sxp, sxq, ↓reduceIte, Nat.reduceBEq, Nat.reduceLT, evP, evX, evR, blkOf, evA, storeA, Nat.reduceEqDiff, resL, resV, oneOrTup, Int.reduceEq, Int.reduceLT, Int.reduceLE, Int.reduceNeg, Int.reduceAdd, Int.reduceSub, Int.reduceMul, Int.reduceToNat, Nat.reduceAdd, noUnk, AV.cells, reduceCtorEq, Nat.reduceLeDiff, Cells.get, Nat.reduceMul, ↓bnd_assoc]
  refine Fin.call (c_name hE 117 (atF L 1 4) h3) fun H4 h4 => ?_
  have h5 := h4.lay (c := c0) (t := 29)
  simp only [↓sxp, sxq, ↓reduceIte, Nat.reduceBEq, Nat.reduceLT, evP, evX, evR, blkOf, evA, storeA, Nat.reduceEqDiff, resL, resV, oneOrTup, Int.reduceEq, Int.reduceLT, Int.reduceLE, Int.reduceNeg, Int.reduceAdd, Int.reduceSub, Int.reduceMul, Int.reduceToNat, Nat.reduceAdd, noUnk, AV.cells, reduceCtorEq, Nat.reduceLeDiff, Cells.get, Nat.reduceMul, ↓bnd_assoc]
  generalize jb + 1 + 1 + 8 = j4 at *
  generalize hk : KND.getD (atF L 0 17) 0 = k at *
  refine Fin.write [.int .i64 (k : Int), .str (nameF 117 (atF L 1 4)), .str [], .str [], .str [], .int .i64 0, .int .i64 0, .sl none 0 (.exact 0)] h5 rfl (by simp) rfl fun H6 h6 => ?_
  have g6 := h6.get
  have g6b := (h6.ord [2]).get
  by_cases k14 : k = 14
  · subst k14
    have m4 : atF L 1 4 < 4 := Nat.mod_lt _ (by omega)
    have m3 : atF L 7 3 < 3 := Nat.mod_lt _ (by omega)
    have w1 : IntKind.i64.wrap (((atF L 1 4 : Nat) : Int) + 1) = ((atF L 1 4 + 1 : Nat) : Int) := by rw [w64 (by omega)]; omega
    have w2 : IntKind.i64.wrap (((atF L 1 4 + 1 : Nat) : Int) + ((atF L 7 3 : Nat) : Int)) = ((atF L 1 4 + 1 + atF L 7 3 : Nat) : Int) := by rw [w64 (by omega)]; omega
    have w3 : bin .rem (.int .i64 ((atF L 1 4 + 1 + atF L 7 3 : Nat) : Int)) (.int .i64 4) = some (.int .i64 (((atF L 1 4 + 1 + atF L 7 3) % 4 : Nat) : Int)) := i_rem _ 4 (by omega)
    have n14 : ((14 : Nat) : Int) = 14 := rfl
    simp only [↓g6, n14, a1_4, a7_3, ↓g6b, ↓stepK_v, w1, w2, w3, ↓sxp, sxq, ↓reduceIte, Nat.reduceBEq, Nat.reduceLT, evP, evX, evR, blkOf, evA, storeA, Nat.reduceEqDiff, resL, resV, oneOrTup, Int.reduceEq, Int.reduceLT, Int.reduceLE, Int.reduceNeg, Int.reduceAdd, Int.reduceSub, Int.reduceMul, Int.reduceToNat, Nat.reduceAdd, noUnk, AV.cells, reduceCtorEq, Nat.reduceLeDiff, Cells.get, Nat.reduceMul, ↓bnd_assoc]
    refine Fin.call (c_name hE 117 ((atF L 1 4 + 1 + atF L 7 3) % 4) h6) fun H7 h7 => ?_
    simp only [↓sxp, sxq, ↓reduceIte, Nat.reduceBEq, Nat.reduceLT, evP, evX, evR, blkOf, evA, storeA, Nat.reduceEqDiff, resL, resV, oneOrTup, Int.reduceEq, Int.reduceLT, Int.reduceLE, Int.reduceNeg, Int.reduceAdd, Int.reduceSub, Int.reduceMul, Int.reduceToNat, Nat.reduceAdd, noUnk, AV.cells, reduceCtorEq, Nat.reduceLeDiff, Cells.get, Nat.reduceMul, ↓bnd_assoc]
    refine Fin.write [.int .i64 14, .str (nameF 117 (atF L 1 4)), .str [], .str [], .str (nameF 117 ((atF L 1 4 + 1 + atF L 7 3) % 4)), .int .i64 0, .int .i64 0, .sl none 0 (.exact 0)] h7 rfl (by simp) rfl fun H8 h8 => ?_
    have gz := h8.get
    simp only [↓gz, ↓hg8, ↓sxp, sxq, ↓reduceIte, Nat.reduceBEq, Nat.reduceLT, evP, evX, evR, blkOf, evA, storeA, Nat.reduceEqDiff, resL, resV, oneOrTup, Int.reduceEq, Int.reduceLT, Int.reduceLE, Int.reduceNeg, Int.reduceAdd, Int.reduceSub, Int.reduceMul, Int.reduceToNat, Nat.reduceAdd, noUnk, AV.cells, reduceCtorEq, Nat.reduceLeDiff, Cells.get, Nat.reduceMul, ↓bnd_assoc]
    refine Fin.write [.int .i64 14, .str (nameF 117 (atF L 1 4)), .str [], .str [], .str (nameF 117 ((atF L 1 4 + 1 + atF L 7 3) % 4)), .int .i64 0, .int .i64 0, .sl none 0 (.exact 0)] (h8.ord [1]) rfl (by simp) rfl fun Hy hy => ?_
    have gy := hy.get
    simp only [↓gy, ↓hg8, ↓sxp, sxq, ↓reduceIte, Nat.reduceBEq, Nat.reduceLT, evP, evX, evR, blkOf, evA, storeA, Nat.reduceEqDiff, resL, resV, oneOrTup, Int.reduceEq, Int.reduceLT, Int.reduceLE, Int.reduceNeg, Int.reduceAdd, Int.reduceSub, Int.reduceMul, Int.reduceToNat, Nat.reduceAdd, noUnk, AV.cells, reduceCtorEq, Nat.reduceLeDiff, Cells.get, Nat.reduceMul, ↓bnd_assoc]
    exact Fin.ret ⟨_, by rw [show choF L = ⟨14, nameF 117 (atF L 1 4), [], [], nameF 117 ((atF L 1 4 + 1 + atF L 7 3) % 4), 0, 0, []⟩ from by unfold choF; rw [hk]; rfl]; rfl, HP.emp, by rw [show choF L = ⟨14, nameF 117 (atF L 1 4), [], [], nameF 117 ((atF L 1 4 + 1 + atF L 7 3) % 4), 0, 0, []⟩ from by unfold choF; rw [hk]; rfl]; exact fun _ => Rd.nil, (hy.tail.tail.tail).empty⟩
  · have k14' : ¬ (k : Int) = 14 := by omega
    simp only [↓g6, k14', a2_5, ↓g6b, ↓stepK_v, ↓sxp, sxq, ↓reduceIte, Nat.reduceBEq, Nat.reduceLT, evP, evX, evR, blkOf, evA, storeA, Nat.reduceEqDiff, resL, resV, oneOrTup, Int.reduceEq, Int.reduceLT, Int.reduceLE, Int.reduceNeg, Int.reduceAdd, Int.reduceSub, Int.reduceMul, Int.reduceToNat, Nat.reduceAdd, noUnk, AV.cells, reduceCtorEq, Nat.reduceLeDiff, Cells.get, Nat.reduceMul, ↓bnd_assoc]
    refine Fin.call (c_name hE 102 (atF L 2 5) h6) fun H7 h7 => ?_
    simp only [↓sxp, sxq, ↓reduceIte, Nat.reduceBEq, Nat.reduceLT, evP, evX, evR, blkOf, evA, storeA, Nat.reduceEqDiff, resL, resV, oneOrTup, Int.reduceEq, Int.reduceLT, Int.reduceLE, Int.reduceNeg, Int.reduceAdd, Int.reduceSub, Int.reduceMul, Int.reduceToNat, Nat.reduceAdd, noUnk, AV.cells, reduceCtorEq, Nat.reduceLeDiff, Cells.get, Nat.reduceMul, ↓bnd_assoc]
    refine Fin.write [.int .i64 (k : Int), .str (nameF 117 (atF L 1 4)), .str (nameF 102 (atF L 2 5)), .str [], .str [], .int .i64 0, .int .i64 0, .sl none 0 (.exact 0)] h7 rfl (by simp) rfl fun H8 h8 => ?_
    have g8 := h8.get
    have g8b := (h8.ord [2]).get
    simp only [List.mem_cons, List.not_mem_nil, or_false] at hkin
    rcases hkin with rfl | rfl | rfl | rfl | rfl | rfl | rfl | rfl | rfl | rfl | rfl | rfl | rfl
    · have nk : ((2 : Nat) : Int) = 2 := rfl
      have g8d := (h8.bump 7).get
      have g8e := ((h8.bump 7).ord [2]).get
      simp only [↓g8, nk, a7_6, ↓g8b, ↓g8d, ↓g8e, ↓stepK_v, ↓sxp, sxq, ↓reduceIte, Nat.reduceBEq, Nat.reduceLT, evP, evX, evR, blkOf, evA, storeA, Nat.reduceEqDiff, resL, resV, oneOrTup, Int.reduceEq, Int.reduceLT, Int.reduceLE, Int.reduceNeg, Int.reduceAdd, Int.reduceSub, Int.reduceMul, Int.reduceToNat, Nat.reduceAdd, noUnk, AV.cells, reduceCtorEq, Nat.reduceLeDiff, Cells.get, Nat.reduceMul, ↓bnd_assoc]
      refine Fin.call (c_other hE (atF L 7 6) (nameF 102 (atF L 2 5)) (h8.bump 7)) fun H9 h9 => ?_
      simp only [↓sxp, sxq, ↓reduceIte, Nat.reduceBEq, Nat.reduceLT, evP, evX, evR, blkOf, evA, storeA, Nat.reduceEqDiff, resL, resV, oneOrTup, Int.reduceEq, Int.reduceLT, Int.reduceLE, Int.reduceNeg, Int.reduceAdd, Int.reduceSub, Int.reduceMul, Int.reduceToNat, Nat.reduceAdd, noUnk, AV.cells, reduceCtorEq, Nat.reduceLeDiff, Cells.get, Nat.reduceMul, ↓bnd_assoc]
      refine Fin.write [.int .i64 2, .str (nameF 117 (atF L 1 4)), .str (nameF 102 (atF L 2 5)), .str [], .str (otherF (atF L 7 6) (nameF 102 (atF L 2 5))), .int .i64 0, .int .i64 0, .sl none 0 (.exact 0)] h9 rfl (by simp) rfl fun H10 h10 => ?_
      have gz := h10.get
      simp only [↓gz, ↓hg8, ↓sxp, sxq, ↓reduceIte, Nat.reduceBEq, Nat.reduceLT, evP, evX, evR, blkOf, evA, storeA, Nat.reduceEqDiff, resL, resV, oneOrTup, Int.reduceEq, Int.reduceLT, Int.reduceLE, Int.reduceNeg, Int.reduceAdd, Int.reduceSub, Int.reduceMul, Int.reduceToNat, Nat.reduceAdd, noUnk, AV.cells, reduceCtorEq, Nat.reduceLeDiff, Cells.get, Nat.reduceMul, ↓bnd_assoc]
      refine Fin.write [.int .i64 2, .str (nameF 117 (atF L 1 4)), .str (nameF 102 (atF L 2 5)), .str [], .str (otherF (atF L 7 6) (nameF 102 (atF L 2 5))), .int .i64 0, .int .i64 0, .sl none 0 (.exact 0)] (h10.ord [1]) rfl (by simp) rfl fun Hy hy => ?_
      have gy := hy.get
      simp only [↓gy, ↓hg8, ↓sxp, sxq, ↓reduceIte, Nat.reduceBEq, Nat.reduceLT, evP, evX, evR, blkOf, evA, storeA, Nat.reduceEqDiff, resL, resV, oneOrTup, Int.reduceEq, Int.reduceLT, Int.reduceLE, Int.reduceNeg, Int.reduceAdd, Int.reduceSub, Int.reduceMul, Int.reduceToNat, Nat.reduceAdd, noUnk, AV.cells, reduceCtorEq, Nat.reduceLeDiff, Cells.get, Nat.reduceMul, ↓bnd_assoc]
      exact Fin.ret ⟨_, by rw [show choF L = ⟨2, nameF 117 (atF L 1 4), nameF 102 (atF L 2 5), [], otherF (atF L 7 6) (nameF 102 (atF L 2 5)), 0, 0, []⟩ from by unfold choF; rw [hk]; rfl]; rfl, HP.emp, by rw [show choF L = ⟨2, nameF 117 (atF L 1 4), nameF 102 (atF L 2 5), [], otherF (atF L 7 6) (nameF 102 (atF L 2 5)), 0, 0, []⟩ from by unfold choF; rw [hk]; rfl]; exact fun _ => Rd.nil, (hy.tail.tail.tail).empty⟩
    · have nk : ((3 : Nat) : Int) = 3 := rfl
      have g8d := (h8.bump 7).get
      have g8e := ((h8.bump 7).ord [2]).get
      simp only [↓g8, nk, a7_6, ↓g8b, ↓g8d, ↓g8e, ↓stepK_v, ↓sxp, sxq, ↓reduceIte, Nat.reduceBEq, Nat.reduceLT, evP, evX, evR, blkOf, evA, storeA, Nat.reduceEqDiff, resL, resV, oneOrTup, Int.reduceEq, Int.reduceLT, Int.reduceLE, Int.reduceNeg, Int.reduceAdd, Int.reduceSub, Int.reduceMul, Int.reduceToNat, Nat.reduceAdd, noUnk, AV.cells, reduceCtorEq, Nat.reduceLeDiff, Cells.get, Nat.reduceMul, ↓bnd_assoc]
      refine Fin.call (c_other hE (atF L 7 6) (nameF 102 (atF L 2 5)) (h8.bump 7)) fun H9 h9 => ?_
      simp only [↓sxp, sxq, ↓reduceIte, Nat.reduceBEq, Nat.reduceLT, evP, evX, evR, blkOf, evA, storeA, Nat.reduceEqDiff, resL, resV, oneOrTup, Int.reduceEq, Int.reduceLT, Int.reduceLE, Int.reduceNeg, Int.reduceAdd, Int.reduceSub, Int.reduceMul, Int.reduceToNat, Nat.reduceAdd, noUnk, AV.cells, reduceCtorEq, Nat.reduceLeDiff, Cells.get, Nat.reduceMul, ↓bnd_assoc]
      refine Fin.write [.int .i64 3, .str (nameF 117 (atF L 1 4)), .str (nameF 102 (atF L 2 5)), .str [], .str (otherF (atF L 7 6) (nameF 102 (atF L 2 5))), .int .i64 0, .int .i64 0, .sl none 0 (.exact 0)] h9 rfl (by simp) rfl fun H10 h10 => ?_
      have gz := h10.get
      simp only [↓gz, ↓hg8, ↓sxp, sxq, ↓reduceIte, Nat.reduceBEq, Nat.reduceLT, evP, evX, evR, blkOf, evA, storeA, Nat.reduceEqDiff, resL, resV, oneOrTup, Int.reduceEq, Int.reduceLT, Int.reduceLE, Int.reduceNeg, Int.reduceAdd, Int.reduceSub, Int.reduceMul, Int.reduceToNat, Nat.reduceAdd, noUnk, AV.cells, reduceCtorEq, Nat.reduceLeDiff, Cells.get, Nat.reduceMul, ↓bnd_assoc]
      refine Fin.write [.int .i64 3, .str (nameF 117 (atF L 1 4)), .str (nameF 102 (atF L 2 5)), .str [], .str (otherF (atF L 7 6) (nameF 102 (atF L 2 5))), .int .i64 0, .int .i64 0, .sl none 0 (.exact 0)] (h10.ord [1]) rfl (by simp) rfl fun Hy hy => ?_
      have gy := hy.get
      simp only [↓gy, ↓hg8, ↓sxp, sxq, ↓reduceIte, Nat.reduceBEq, Nat.reduceLT, evP, evX, evR, blkOf, evA, storeA, Nat.reduceEqDiff, resL, resV, oneOrTup, Int.reduceEq, Int.reduceLT, Int.reduceLE, Int.reduceNeg, Int.reduceAdd, Int.reduceSub, Int.reduceMul, Int.reduceToNat, Nat.reduceAdd, noUnk, AV.cells, reduceCtorEq, Nat.reduceLeDiff, Cells.get, Nat.reduceMul, ↓bnd_assoc]
      exact Fin.ret ⟨_, by rw [show choF L = ⟨3, nameF 117 (atF L 1 4), nameF 102 (atF L 2 5), [], otherF (atF L 7 6) (nameF 102 (atF L 2 5)), 0, 0, []⟩ from by unfold choF; rw [hk]; rfl]; rfl, HP.emp, by rw [show choF L = ⟨3, nameF 117 (atF L 1 4), nameF 102 (atF L 2 5), [], otherF (atF L 7 6) (nameF 102 (atF L 2 5)), 0, 0, []⟩ from by unfold choF; rw [hk]; rfl]; exact fun _ => Rd.nil, (hy.tail.tail.tail).empty⟩
    · have nk : ((4 : Nat) : Int) = 4 := rfl
      simp only [↓g8, nk, ↓g8b, ↓stepK_v, ↓hg8, ↓sxp, sxq, ↓reduceIte, Nat.reduceBEq, Nat.reduceLT, evP, evX, evR, blkOf, evA, storeA, Nat.reduceEqDiff, resL, resV, oneOrTup, Int.reduceEq, Int.reduceLT, Int.reduceLE, Int.reduceNeg, Int.reduceAdd, Int.reduceSub, Int.reduceMul, Int.reduceToNat, Nat.reduceAdd, noUnk, AV.cells, reduceCtorEq, Nat.reduceLeDiff, Cells.get, Nat.reduceMul, ↓bnd_assoc]
      refine Fin.write [.int .i64 4, .str (nameF 117 (atF L 1 4)), .str (nameF 102 (atF L 2 5)), .str [], .str [], .int .i64 0, .int .i64 0, .sl none 0 (.exact 0)] (h8.ord [1]) rfl (by simp) rfl fun Hy hy => ?_
      have gy := hy.get
      simp only [↓gy, ↓hg8, ↓sxp, sxq, ↓reduceIte, Nat.reduceBEq, Nat.reduceLT, evP, evX, evR, blkOf, evA, storeA, Nat.reduceEqDiff, resL, resV, oneOrTup, Int.reduceEq, Int.reduceLT, Int.reduceLE, Int.reduceNeg, Int.reduceAdd, Int.reduceSub, Int.reduceMul, Int.reduceToNat, Nat.reduceAdd, noUnk, AV.cells, reduceCtorEq, Nat.reduceLeDiff, Cells.get, Nat.reduceMul, ↓bnd_assoc]
      exact Fin.ret ⟨_, by rw [show choF L = ⟨4, nameF 117 (atF L 1 4), nameF 102 (atF L 2 5), [], [], 0, 0, []⟩ from by unfold choF; rw [hk]; rfl]; rfl, HP.emp, by rw [show choF L = ⟨4, nameF 117 (atF L 1 4), nameF 102 (atF L 2 5), [], [], 0, 0, []⟩ from by unfold choF; rw [hk]; rfl]; exact fun _ => Rd.nil, (hy.tail.tail.tail).empty⟩
    · have nk : ((5 : Nat) : Int) = 5 := rfl
      have m4 : atF L 4 4 < 4 := Nat.mod_lt _ (by omega)
      have w1 : IntKind.i64.wrap (1 + ((atF L 4 4 : Nat) : Int)) = ((1 + atF L 4 4 : Nat) : Int) := by rw [w64 (by omega)]; omega
      simp only [↓g8, nk, a7_4, ↓g8b, ↓stepK_v, ↓sxp, sxq, ↓reduceIte, Nat.reduceBEq, Nat.reduceLT, evP, evX, evR, blkOf, evA, storeA, Nat.reduceEqDiff, resL, resV, oneOrTup, Int.reduceEq, Int.reduceLT, Int.reduceLE, Int.reduceNeg, Int.reduceAdd, Int.reduceSub, Int.reduceMul, Int.reduceToNat, Nat.reduceAdd, noUnk, AV.cells, reduceCtorEq, Nat.reduceLeDiff, Cells.get, Nat.reduceMul, ↓bnd_assoc]
      refine Fin.call (c_name hE 117 (atF L 7 4) h8) fun H9 h9 => ?_
      have g9b := (h9.ord [2]).get
      simp only [a4_4, ↓g9b, ↓stepK_v, w1, ↓sxp, sxq, ↓reduceIte, Nat.reduceBEq, Nat.reduceLT, evP, evX, evR, blkOf, evA, storeA, Nat.reduceEqDiff, resL, resV, oneOrTup, Int.reduceEq, Int.reduceLT, Int.reduceLE, Int.reduceNeg, Int.reduceAdd, Int.reduceSub, Int.reduceMul, Int.reduceToNat, Nat.reduceAdd, noUnk, AV.cells, reduceCtorEq, Nat.reduceLeDiff, Cells.get, Nat.reduceMul, ↓bnd_assoc]
      refine Fin.write [.int .i64 5, .str (nameF 117 (atF L 1 4)), .str (nameF 102 (atF L 2 5)), .str [], .str (nameF 117 (atF L 7 4)), .int .i64 0, .int .i64 0, .sl none 0 (.exact 0)] h9 rfl (by simp) rfl fun H10 h10 => ?_
      refine Fin.write [.int .i64 5, .str (nameF 117 (atF L 1 4)), .str (nameF 102 (atF L 2 5)), .str [], .str (nameF 117 (atF L 7 4)), .int .i64 ((1 + atF L 4 4 : Nat) : Int), .int .i64 0, .sl none 0 (.exact 0)] h10 rfl (by simp) rfl fun H11 h11 => ?_
      have gz := h11.get
      simp only [↓gz, ↓hg8, ↓sxp, sxq, ↓reduceIte, Nat.reduceBEq, Nat.reduceLT, evP, evX, evR, blkOf, evA, storeA, Nat.reduceEqDiff, resL, resV, oneOrTup, Int.reduceEq, Int.reduceLT, Int.reduceLE, Int.reduceNeg, Int.reduceAdd, Int.reduceSub, Int.reduceMul, Int.reduceToNat, Nat.reduceAdd, noUnk, AV.cells, reduceCtorEq, Nat.reduceLeDiff, Cells.get, Nat.reduceMul, ↓bnd_assoc]
      refine Fin.write [.int .i64 5, .str (nameF 117 (atF L 1 4)), .str (nameF 102 (atF L 2 5)), .str [], .str (nameF 117 (atF L 7 4)), .int .i64 ((1 + atF L 4 4 : Nat) : Int), .int .i64 0, .sl none 0 (.exact 0)] (h11.ord [1]) rfl (by simp) rfl fun Hy hy => ?_
      have gy := hy.get
      simp only [↓gy, ↓hg8, ↓sxp, sxq, ↓reduceIte, Nat.reduceBEq, Nat.reduceLT, evP, evX, evR, blkOf, evA, storeA, Nat.reduceEqDiff, resL, resV, oneOrTup, Int.reduceEq, Int.reduceLT, Int.reduceLE, Int.reduceNeg, Int.reduceAdd, Int.reduceSub, Int.reduceMul, Int.reduceToNat, Nat.reduceAdd, noUnk, AV.cells, reduceCtorEq, Nat.reduceLeDiff, Cells.get, Nat.reduceMul, ↓bnd_assoc]
      exact Fin.ret ⟨_, by rw [show choF L = ⟨5, nameF 117 (atF L 1 4), nameF 102 (atF L 2 5), [], nameF 117 (atF L 7 4), 1 + atF L 4 4, 0, []⟩ from by unfold choF; rw [hk]; rfl]; rfl, HP.emp, by rw [show choF L = ⟨5, nameF 117 (atF L 1 4), nameF 102 (atF L 2 5), [], nameF 117 (atF L 7 4), 1 + atF L 4 4, 0, []⟩ from by unfold choF; rw [hk]; rfl]; exact fun _ => Rd.nil, (hy.tail.tail.tail).empty⟩
    · have nk : ((6 : Nat) : Int) = 6 := rfl
      have m4 : atF L 4 4 < 4 := Nat.mod_lt _ (by omega)
      have w1 : IntKind.i64.wrap (1 + ((atF L 4 4 : Nat) : Int)) = ((1 + atF L 4 4 : Nat) : Int) := by rw [w64 (by omega)]; omega
      simp only [↓g8, nk, a7_4, ↓g8b, ↓stepK_v, ↓sxp, sxq, ↓reduceIte, Nat.reduceBEq, Nat.reduceLT, evP, evX, evR, blkOf, evA, storeA, Nat.reduceEqDiff, resL, resV, oneOrTup, Int.reduceEq, Int.reduceLT, Int.reduceLE, Int.reduceNeg, Int.reduceAdd, Int.reduceSub, Int.reduceMul, Int.reduceToNat, Nat.reduceAdd, noUnk, AV.cells, reduceCtorEq, Nat.reduceLeDiff, Cells.get, Nat.reduceMul, ↓bnd_assoc]
      refine Fin.call (c_name hE 117 (atF L 7 4) h8) fun H9 h9 => ?_
      have g9b := (h9.ord [2]).get
      simp only [a4_4, ↓g9b, ↓stepK_v, w1, ↓sxp, sxq, ↓reduceIte, Nat.reduceBEq, Nat.reduceLT, evP, evX, evR, blkOf, evA, storeA, Nat.reduceEqDiff, resL, resV, oneOrTup, Int.reduceEq, Int.reduceLT, Int.reduceLE, Int.reduceNeg, Int.reduceAdd, Int.reduceSub, Int.reduceMul, Int.reduceToNat, Nat.reduceAdd, noUnk, AV.cells, reduceCtorEq, Nat.reduceLeDiff, Cells.get, Nat.reduceMul, ↓bnd_assoc]
      refine Fin.write [.int .i64 6, .str (nameF 117 (atF L 1 4)), .str (nameF 102 (atF L 2 5)), .str [], .str (nameF 117 (atF L 7 4)), .int .i64 0, .int .i64 0, .sl none 0 (.exact 0)] h9 rfl (by simp) rfl fun H10 h10 => ?_
      refine Fin.write [.int .i64 6, .str (nameF 117 (atF L 1 4)), .str (nameF 102 (atF L 2 5)), .str [], .str (nameF 117 (atF L 7 4)), .int .i64 ((1 + atF L 4 4 : Nat) : Int), .int .i64 0, .sl none 0 (.exact 0)] h10 rfl (by simp) rfl fun H11 h11 => ?_
      have gz := h11.get
      simp only [↓gz, ↓hg8, ↓sxp, sxq, ↓reduceIte, Nat.reduceBEq, Nat.reduceLT, evP, evX, evR, blkOf, evA, storeA, Nat.reduceEqDiff, resL, resV, oneOrTup, Int.reduceEq, Int.reduceLT, Int.reduceLE, Int.reduceNeg, Int.reduceAdd, Int.reduceSub, Int.reduceMul, Int.reduceToNat, Nat.reduceAdd, noUnk, AV.cells, reduceCtorEq, Nat.reduceLeDiff, Cells.get, Nat.reduceMul, ↓bnd_assoc]
      refine Fin.write [.int .i64 6, .str (nameF 117 (atF L 1 4)), .str (nameF 102 (atF L 2 5)), .str [], .str (nameF 117 (atF L 7 4)), .int .i64 ((1 + atF L 4 4 : Nat) : Int), .int .i64 0, .sl none 0 (.exact 0)] (h11.ord [1]) rfl (by simp) rfl fun Hy hy => ?_
      have gy := hy.get
      simp only [↓gy, ↓hg8, ↓sxp, sxq, ↓reduceIte, Nat.reduceBEq, Nat.reduceLT, evP, evX, evR, blkOf, evA, storeA, Nat.reduceEqDiff, resL, resV, oneOrTup, Int.reduceEq, Int.reduceLT, Int.reduceLE, Int.reduceNeg, Int.reduceAdd, Int.reduceSub, Int.reduceMul, Int.reduceToNat, Nat.reduceAdd, noUnk, AV.cells, reduceCtorEq, Nat.reduceLeDiff, Cells.get, Nat.reduceMul, ↓bnd_assoc]
      exact Fin.ret ⟨_, by rw [show choF L = ⟨6, nameF 117 (atF L 1 4), nameF 102 (atF L 2 5), [], nameF 117 (atF L 7 4), 1 + atF L 4 4, 0, []⟩ from by unfold choF; rw [hk]; rfl]; rfl, HP.emp, by rw [show choF L = ⟨6, nameF 117 (atF L 1 4), nameF 102 (atF L 2 5), [], nameF 117 (atF L 7 4), 1 + atF L 4 4, 0, []⟩ from by unfold choF; rw [hk]; rfl]; exact fun _ => Rd.nil, (hy.tail.tail.tail).empty⟩
    · have nk : ((7 : Nat) : Int) = 7 := rfl
      simp only [↓g8, nk, a7_4, ↓g8b, ↓stepK_v, ↓sxp, sxq, ↓reduceIte, Nat.reduceBEq, Nat.reduceLT, evP, evX, evR, blkOf, evA, storeA, Nat.reduceEqDiff, resL, resV, oneOrTup, Int.reduceEq, Int.reduceLT, Int.reduceLE, Int.reduceNeg, Int.reduceAdd, Int.reduceSub, Int.reduceMul, Int.reduceToNat, Nat.reduceAdd, noUnk, AV.cells, reduceCtorEq, Nat.reduceLeDiff, Cells.get, Nat.reduceMul, ↓bnd_assoc]
      refine Fin.call (c_name hE 117 (atF L 7 4) h8) fun H9 h9 => ?_
      simp only [↓sxp, sxq, ↓reduceIte, Nat.reduceBEq, Nat.reduceLT, evP, evX, evR, blkOf, evA, storeA, Nat.reduceEqDiff, resL, resV, oneOrTup, Int.reduceEq, Int.reduceLT, Int.reduceLE, Int.reduceNeg, Int.reduceAdd, Int.reduceSub, Int.reduceMul, Int.reduceToNat, Nat.reduceAdd, noUnk, AV.cells, reduceCtorEq, Nat.reduceLeDiff, Cells.get, Nat.reduceMul, ↓bnd_assoc]
      refine Fin.write [.int .i64 7, .str (nameF 117 (atF L 1 4)), .str (nameF 102 (atF L 2 5)), .str [], .str (nameF 117 (atF L 7 4)), .int .i64 0, .int .i64 0, .sl none 0 (.exact 0)] h9 rfl (by simp) rfl fun H10 h10 => ?_
      have gz := h10.get
      simp only [↓gz, ↓hg8, ↓sxp, sxq, ↓reduceIte, Nat.reduceBEq, Nat.reduceLT, evP, evX, evR, blkOf, evA, storeA, Nat.reduceEqDiff, resL, resV, oneOrTup, Int.reduceEq, Int.reduceLT, Int.reduceLE, Int.reduceNeg, Int.reduceAdd, Int.reduceSub, Int.reduceMul, Int.reduceToNat, Nat.reduceAdd, noUnk, AV.cells, reduceCtorEq, Nat.reduceLeDiff, Cells.get, Nat.reduceMul, ↓bnd_assoc]
      refine Fin.write [.int .i64 7, .str (nameF 117 (atF L 1 4)), .str (nameF 102 (atF L 2 5)), .str [], .str (nameF 117 (atF L 7 4)), .int .i64 0, .int .i64 0, .sl none 0 (.exact 0)] (h10.ord [1]) rfl (by simp) rfl fun Hy hy => ?_
      have gy := hy.get
      simp only [↓gy, ↓hg8, ↓sxp, sxq, ↓reduceIte, Nat.reduceBEq, Nat.reduceLT, evP, evX, evR, blkOf, evA, storeA, Nat.reduceEqDiff, resL, resV, oneOrTup, Int.reduceEq, Int.reduceLT, Int.reduceLE, Int.reduceNeg, Int.reduceAdd, Int.reduceSub, Int.reduceMul, Int.reduceToNat, Nat.reduceAdd, noUnk, AV.cells, reduceCtorEq, Nat.reduceLeDiff, Cells.get, Nat.reduceMul, ↓bnd_assoc]
      exact Fin.ret ⟨_, by rw [show choF L = ⟨7, nameF 117 (atF L 1 4), nameF 102 (atF L 2 5), [], nameF 117 (atF L 7 4), 0, 0, []⟩ from by unfold choF; rw [hk]; rfl]; rfl, HP.emp, by rw [show choF L = ⟨7, nameF 117 (atF L 1 4), nameF 102 (atF L 2 5), [], nameF 117 (atF L 7 4), 0, 0, []⟩ from by unfold choF; rw [hk]; rfl]; exact fun _ => Rd.nil, (hy.tail.tail.tail).empty⟩
    · have nk : ((8 : Nat) : Int) = 8 := rfl
      simp only [↓g8, nk, a3_2, ↓g8b, ↓stepK_v, ↓sxp, sxq, ↓reduceIte, Nat.reduceBEq, Nat.reduceLT, evP, evX, evR, blkOf, evA, storeA, Nat.reduceEqDiff, resL, resV, oneOrTup, Int.reduceEq, Int.reduceLT, Int.reduceLE, Int.reduceNeg, Int.reduceAdd, Int.reduceSub, Int.reduceMul, Int.reduceToNat, Nat.reduceAdd, noUnk, AV.cells, reduceCtorEq, Nat.reduceLeDiff, Cells.get, Nat.reduceMul, ↓bnd_assoc]
      refine Fin.call (c_name hE 120 (atF L 3 2) h8) fun H9 h9 => ?_
      have h10 := h9.push (c := []) (t := 5)
      have g10 := (h10.ord [3]).get
      have m9 : atF L 6 9 < 9 := Nat.mod_lt _ (by omega)
      have w1 : IntKind.i64.wrap (16 + ((atF L 6 9 : Nat) : Int)) = ((16 + atF L 6 9 : Nat) : Int) := by rw [w64 (by omega)]; omega
      simp only [a6_9, ↓g10, ↓stepK_v, w1, ↓sxp, sxq, ↓reduceIte, Nat.reduceBEq, Nat.reduceLT, evP, evX, evR, blkOf, evA, storeA, Nat.reduceEqDiff, resL, resV, oneOrTup, Int.reduceEq, Int.reduceLT, Int.reduceLE, Int.reduceNeg, Int.reduceAdd, Int.reduceSub, Int.reduceMul, Int.reduceToNat, Nat.reduceAdd, noUnk, AV.cells, reduceCtorEq, Nat.reduceLeDiff, Cells.get, Nat.reduceMul, ↓bnd_assoc]
      generalize hm : atF L 6 9 = m at *
      have hb : bndF 32 16 (.int .i64 ((16 + m : Nat) : Int)) = some (16, 16 + m, 32) := by
        have e1 : inI ((16 + m : Nat) : Int) 32 = some (16 + m) := by unfold inI; rw [if_pos (by omega), if_pos (by omega), Int.toNat_natCast]
        have e2 : inI 16 (16 + m) = some 16 := by unfold inI; rw [if_pos (by omega), if_pos (by omega)]; rfl
        simp only [bndF, bounds, bound, evX, e1, e2]
      have hsub : 16 + m - 16 = m := by omega
      have hcho : choF L = ⟨8, nameF 117 (atF L 1 4), nameF 102 (atF L 2 5), nameF 120 (atF L 3 2), [], 0, 0, (L.drop 16).take m⟩ := by unfold choF; rw [hk, ← hm]; rfl
      have hdl : ((L.drop 16).take m).length = m := by rw [List.length_take, List.length_drop]; omega
      have hsrc : srcA W (H9.push (.cells (.lst []) 5 none)) 1 false (.sl (some ⟨.own jb, 16⟩) m (.exact 16)) = some (m, cb ((L.drop 16).take m)) := by
        have hgl := getN_cb hl
        rw [hcs] at hgl
        have := getN_sub 16 m hgl (by omega)
        rw [← hcs, cb_sub, Nat.zero_add] at this
        rw [hcs] at this
        simp only [srcA, blkOf, g10, Nat.mul_one, this]
      simp only [↓bnd_ct, hb, hsub, Nat.reduceSub, ↓sxp, sxq, ↓reduceIte, Nat.reduceBEq, Nat.reduceLT, evP, evX, evR, blkOf, evA, storeA, Nat.reduceEqDiff, resL, resV, oneOrTup, Int.reduceEq, Int.reduceLT, Int.reduceLE, Int.reduceNeg, Int.reduceAdd, Int.reduceSub, Int.reduceMul, Int.reduceToNat, Nat.reduceAdd, noUnk, AV.cells, reduceCtorEq, Nat.reduceLeDiff, Cells.get, Nat.reduceMul, ↓bnd_assoc]
      by_cases m0 : m = 0
      · subst m0
        have happ : appA W (H9.push (.cells (.lst []) 5 none)) 5 1 1 false (.sl (some ⟨.own H9.next, 0⟩) 0 (.exact 0)) (.sl (some ⟨.own jb, 16⟩) 0 (.exact 16)) = some (.sl (some ⟨.own H9.next, 0⟩) 0 (.exact 0), H9.push (.cells (.lst []) 5 none)) := by
          simp only [appA, hsrc]; rfl
        generalize H9.next = b9 at *
        simp only [↓happ, ↓sxp, sxq, ↓reduceIte, Nat.reduceBEq, Nat.reduceLT, evP, evX, evR, blkOf, evA, storeA, Nat.reduceEqDiff, resL, resV, oneOrTup, Int.reduceEq, Int.reduceLT, Int.reduceLE, Int.reduceNeg, Int.reduceAdd, Int.reduceSub, Int.reduceMul, Int.reduceToNat, Nat.reduceAdd, noUnk, AV.cells, reduceCtorEq, Nat.reduceLeDiff, Cells.get, Nat.reduceMul, ↓bnd_assoc]
        refine Fin.write [.int .i64 8, .str (nameF 117 (atF L 1 4)), .str (nameF 102 (atF L 2 5)), .str (nameF 120 (atF L 3 2)), .str [], .int .i64 0, .int .i64 0, .sl none 0 (.exact 0)] (h10.ord [1]) rfl (by simp) rfl fun H11 h11 => ?_
        refine Fin.write [.int .i64 8, .str (nameF 117 (atF L 1 4)), .str (nameF 102 (atF L 2 5)), .str (nameF 120 (atF L 3 2)), .str [], .int .i64 0, .int .i64 0, .sl (some ⟨.own b9, 0⟩) 0 (.exact 0)] h11 rfl (by simp) rfl fun H12 h12 => ?_
        have gz := h12.get
        simp only [↓gz, ↓hg8, ↓sxp, sxq, ↓reduceIte, Nat.reduceBEq, Nat.reduceLT, evP, evX, evR, blkOf, evA, storeA, Nat.reduceEqDiff, resL, resV, oneOrTup, Int.reduceEq, Int.reduceLT, Int.reduceLE, Int.reduceNeg, Int.reduceAdd, Int.reduceSub, Int.reduceMul, Int.reduceToNat, Nat.reduceAdd, noUnk, AV.cells, reduceCtorEq, Nat.reduceLeDiff, Cells.get, Nat.reduceMul, ↓bnd_assoc]
        refine Fin.write [.int .i64 8, .str (nameF 117 (atF L 1 4)), .str (nameF 102 (atF L 2 5)), .str (nameF 120 (atF L 3 2)), .str [], .int .i64 0, .int .i64 0, .sl (some ⟨.own b9, 0⟩) 0 (.exact 0)] (h12.ord [2]) rfl (by simp) rfl fun Hy hy => ?_
        have gy := hy.get
        simp only [↓gy, ↓hg8, ↓sxp, sxq, ↓reduceIte, Nat.reduceBEq, Nat.reduceLT, evP, evX, evR, blkOf, evA, storeA, Nat.reduceEqDiff, resL, resV, oneOrTup, Int.reduceEq, Int.reduceLT, Int.reduceLE, Int.reduceNeg, Int.reduceAdd, Int.reduceSub, Int.reduceMul, Int.reduceToNat, Nat.reduceAdd, noUnk, AV.cells, reduceCtorEq, Nat.reduceLeDiff, Cells.get, Nat.reduceMul, ↓bnd_assoc]
        exact Fin.ret ⟨_, by rw [hcho]; rfl, blk b9 (cb []) 5, by rw [hcho]; exact @RdLike.exb W [] b9 0 rfl 5, (hy.tail.tail).rm 1⟩
      · obtain ⟨v', H11, e11, h11⟩ := h10.eadd (W := W) (ty := 5) (bytes := 1) (k := m) (new := cb ((L.drop 16).take m)) (by omega) (by rw [cb_len, hdl]) (cb_one _) (by omega)
        have happ : appA W (H9.push (.cells (.lst []) 5 none)) 5 1 1 false (.sl (some ⟨.own H9.next, 0⟩) 0 (.exact 0)) (.sl (some ⟨.own jb, 16⟩) m (.exact 16)) = some (v', H11) := by
          simp only [appA, hsrc]; exact e11
        obtain ⟨u1, u2, u3⟩ := ((RdLike.row (W := W) _ v') h11).one
        unfold AV.cells at u1
        unfold noUnk at u2
        generalize H9.next = b9 at *
        simp only [↓happ, ↓u1, ↓u2, ↓sxp, sxq, ↓reduceIte, Nat.reduceBEq, Nat.reduceLT, evP, evX, evR, blkOf, evA, storeA, Nat.reduceEqDiff, resL, resV, oneOrTup, Int.reduceEq, Int.reduceLT, Int.reduceLE, Int.reduceNeg, Int.reduceAdd, Int.reduceSub, Int.reduceMul, Int.reduceToNat, Nat.reduceAdd, noUnk, AV.cells, reduceCtorEq, Nat.reduceLeDiff, Cells.get, Nat.reduceMul, ↓bnd_assoc]
        refine Fin.write [.int .i64 8, .str (nameF 117 (atF L 1 4)), .str (nameF 102 (atF L 2 5)), .str (nameF 120 (atF L 3 2)), .str [], .int .i64 0, .int .i64 0, .sl none 0 (.exact 0)] (h11.ord [2]) rfl (by simp) rfl fun H12 h12 => ?_
        refine Fin.write [.int .i64 8, .str (nameF 117 (atF L 1 4)), .str (nameF 102 (atF L 2 5)), .str (nameF 120 (atF L 3 2)), .str [], .int .i64 0, .int .i64 0, v'] h12 rfl (by simp) (by simp [u3]) fun H13 h13 => ?_
        have gz := h13.get
        simp only [↓gz, ↓hg8, ↓sxp, sxq, ↓reduceIte, Nat.reduceBEq, Nat.reduceLT, evP, evX, evR, blkOf, evA, storeA, Nat.reduceEqDiff, resL, resV, oneOrTup, Int.reduceEq, Int.reduceLT, Int.reduceLE, Int.reduceNeg, Int.reduceAdd, Int.reduceSub, Int.reduceMul, Int.reduceToNat, Nat.reduceAdd, noUnk, AV.cells, reduceCtorEq, Nat.reduceLeDiff, Cells.get, Nat.reduceMul, ↓bnd_assoc]
        refine Fin.write [.int .i64 8, .str (nameF 117 (atF L 1 4)), .str (nameF 102 (atF L 2 5)), .str (nameF 120 (atF L 3 2)), .str [], .int .i64 0, .int .i64 0, v'] (h13.ord [3]) rfl (by simp) (by simp only [List.all_cons, List.all_nil, u3]; rfl) fun Hy hy => ?_
        have gy := hy.get
        simp only [↓gy, ↓hg8, ↓sxp, sxq, ↓reduceIte, Nat.reduceBEq, Nat.reduceLT, evP, evX, evR, blkOf, evA, storeA, Nat.reduceEqDiff, resL, resV, oneOrTup, Int.reduceEq, Int.reduceLT, Int.reduceLE, Int.reduceNeg, Int.reduceAdd, Int.reduceSub, Int.reduceMul, Int.reduceToNat, Nat.reduceAdd, noUnk, AV.cells, reduceCtorEq, Nat.reduceLeDiff, Cells.get, Nat.reduceMul, ↓bnd_assoc]
        exact Fin.ret ⟨_, by rw [hcho]; rfl, row 5 1 (cb ((L.drop 16).take m)) v', by rw [hcho]; exact RdLike.row _ v', ((hy.tail.tail).rm 1).rm 1⟩
    · have nk : ((9 : Nat) : Int) = 9 := rfl
      simp only [↓g8, nk, a3_2, ↓g8b, ↓stepK_v, ↓sxp, sxq, ↓reduceIte, Nat.reduceBEq, Nat.reduceLT, evP, evX, evR, blkOf, evA, storeA, Nat.reduceEqDiff, resL, resV, oneOrTup, Int.reduceEq, Int.reduceLT, Int.reduceLE, Int.reduceNeg, Int.reduceAdd, Int.reduceSub, Int.reduceMul, Int.reduceToNat, Nat.reduceAdd, noUnk, AV.cells, reduceCtorEq, Nat.reduceLeDiff, Cells.get, Nat.reduceMul, ↓bnd_assoc]
      refine Fin.call (c_name hE 120 (atF L 3 2) h8) fun H9 h9 => ?_
      have g9b := (h9.ord [2]).get
      simp only [a5_3, ↓g9b, ↓stepK_v, ↓sxp, sxq, ↓reduceIte, Nat.reduceBEq, Nat.reduceLT, evP, evX, evR, blkOf, evA, storeA, Nat.reduceEqDiff, resL, resV, oneOrTup, Int.reduceEq, Int.reduceLT, Int.reduceLE, Int.reduceNeg, Int.reduceAdd, Int.reduceSub, Int.reduceMul, Int.reduceToNat, Nat.reduceAdd, noUnk, AV.cells, reduceCtorEq, Nat.reduceLeDiff, Cells.get, Nat.reduceMul, ↓bnd_assoc]
      refine Fin.write [.int .i64 9, .str (nameF 117 (atF L 1 4)), .str (nameF 102 (atF L 2 5)), .str (nameF 120 (atF L 3 2)), .str [], .int .i64 0, .int .i64 0, .sl none 0 (.exact 0)] h9 rfl (by simp) rfl fun H10 h10 => ?_
      refine Fin.write [.int .i64 9, .str (nameF 117 (atF L 1 4)), .str (nameF 102 (atF L 2 5)), .str (nameF 120 (atF L 3 2)), .str [], .int .i64 0, .int .i64 ((atF L 5 3 : Nat) : Int), .sl none 0 (.exact 0)] h10 rfl (by simp) rfl fun H11 h11 => ?_
      have gz := h11.get
      simp only [↓gz, ↓hg8, ↓sxp, sxq, ↓reduceIte, Nat.reduceBEq, Nat.reduceLT, evP, evX, evR, blkOf, evA, storeA, Nat.reduceEqDiff, resL, resV, oneOrTup, Int.reduceEq, Int.reduceLT, Int.reduceLE, Int.reduceNeg, Int.reduceAdd, Int.reduceSub, Int.reduceMul, Int.reduceToNat, Nat.reduceAdd, noUnk, AV.cells, reduceCtorEq, Nat.reduceLeDiff, Cells.get, Nat.reduceMul, ↓bnd_assoc]
      refine Fin.write [.int .i64 9, .str (nameF 117 (atF L 1 4)), .str (nameF 102 (atF L 2 5)), .str (nameF 120 (atF L 3 2)), .str [], .int .i64 0, .int .i64 ((atF L 5 3 : Nat) : Int), .sl none 0 (.exact 0)] (h11.ord [1]) rfl (by simp) rfl fun Hy hy => ?_
      have gy := hy.get
      simp only [↓gy, ↓hg8, ↓sxp, sxq, ↓reduceIte, Nat.reduceBEq, Nat.reduceLT, evP, evX, evR, blkOf, evA, storeA, Nat.reduceEqDiff, resL, resV, oneOrTup, Int.reduceEq, Int.reduceLT, Int.reduceLE, Int.reduceNeg, Int.reduceAdd, Int.reduceSub, Int.reduceMul, Int.reduceToNat, Nat.reduceAdd, noUnk, AV.cells, reduceCtorEq, Nat.reduceLeDiff, Cells.get, Nat.reduceMul, ↓bnd_assoc]
      exact Fin.ret ⟨_, by rw [show choF L = ⟨9, nameF 117 (atF L 1 4), nameF 102 (atF L 2 5), nameF 120 (atF L 3 2), [], 0, atF L 5 3, []⟩ from by unfold choF; rw [hk]; rfl]; rfl, HP.emp, by rw [show choF L = ⟨9, nameF 117 (atF L 1 4), nameF 102 (atF L 2 5), nameF 120 (atF L 3 2), [], 0, atF L 5 3, []⟩ from by unfold choF; rw [hk]; rfl]; exact fun _ => Rd.nil, (hy.tail.tail.tail).empty⟩
    · have nk : ((10 : Nat) : Int) = 10 := rfl
      simp only [↓g8, nk, ↓g8b, ↓stepK_v, ↓hg8, ↓sxp, sxq, ↓reduceIte, Nat.reduceBEq, Nat.reduceLT, evP, evX, evR, blkOf, evA, storeA, Nat.reduceEqDiff, resL, resV, oneOrTup, Int.reduceEq, Int.reduceLT, Int.reduceLE, Int.reduceNeg, Int.reduceAdd, Int.reduceSub, Int.reduceMul, Int.reduceToNat, Nat.reduceAdd, noUnk, AV.cells, reduceCtorEq, Nat.reduceLeDiff, Cells.get, Nat.reduceMul, ↓bnd_assoc]
      refine Fin.write [.int .i64 10, .str (nameF 117 (atF L 1 4)), .str (nameF 102 (atF L 2 5)), .str [], .str [], .int .i64 0, .int .i64 0, .sl none 0 (.exact 0)] (h8.ord [1]) rfl (by simp) rfl fun Hy hy => ?_
      have gy := hy.get
      simp only [↓gy, ↓hg8, ↓sxp, sxq, ↓reduceIte, Nat.reduceBEq, Nat.reduceLT, evP, evX, evR, blkOf, evA, storeA, Nat.reduceEqDiff, resL, resV, oneOrTup, Int.reduceEq, Int.reduceLT, Int.reduceLE, Int.reduceNeg, Int.reduceAdd, Int.reduceSub, Int.reduceMul, Int.reduceToNat, Nat.reduceAdd, noUnk, AV.cells, reduceCtorEq, Nat.reduceLeDiff, Cells.get, Nat.reduceMul, ↓bnd_assoc]
      exact Fin.ret ⟨_, by rw [show choF L = ⟨10, nameF 117 (atF L 1 4), nameF 102 (atF L 2 5), [], [], 0, 0, []⟩ from by unfold choF; rw [hk]; rfl]; rfl, HP.emp, by rw [show choF L = ⟨10, nameF 117 (atF L 1 4), nameF 102 (atF L 2 5), [], [], 0, 0, []⟩ from by unfold choF; rw [hk]; rfl]; exact fun _ => Rd.nil, (hy.tail.tail.tail).empty⟩
    · have nk : ((11 : Nat) : Int) = 11 := rfl
      simp only [↓g8, nk, a3_2, ↓g8b, ↓stepK_v, ↓sxp, sxq, ↓reduceIte, Nat.reduceBEq, Nat.reduceLT, evP, evX, evR, blkOf, evA, storeA, Nat.reduceEqDiff, resL, resV, oneOrTup, Int.reduceEq, Int.reduceLT, Int.reduceLE, Int.reduceNeg, Int.reduceAdd, Int.reduceSub, Int.reduceMul, Int.reduceToNat, Nat.reduceAdd, noUnk, AV.cells, reduceCtorEq, Nat.reduceLeDiff, Cells.get, Nat.reduceMul, ↓bnd_assoc]
      refine Fin.call (c_name hE 120 (atF L 3 2) h8) fun H9 h9 => ?_
      simp only [↓sxp, sxq, ↓reduceIte, Nat.reduceBEq, Nat.reduceLT, evP, evX, evR, blkOf, evA, storeA, Nat.reduceEqDiff, resL, resV, oneOrTup, Int.reduceEq, Int.reduceLT, Int.reduceLE, Int.reduceNeg, Int.reduceAdd, Int.reduceSub, Int.reduceMul, Int.reduceToNat, Nat.reduceAdd, noUnk, AV.cells, reduceCtorEq, Nat.reduceLeDiff, Cells.get, Nat.reduceMul, ↓bnd_assoc]
      refine Fin.write [.int .i64 11, .str (nameF 117 (atF L 1 4)), .str (nameF 102 (atF L 2 5)), .str (nameF 120 (atF L 3 2)), .str [], .int .i64 0, .int .i64 0, .sl none 0 (.exact 0)] h9 rfl (by simp) rfl fun H10 h10 => ?_
      have gz := h10.get
      simp only [↓gz, ↓hg8, ↓sxp, sxq, ↓reduceIte, Nat.reduceBEq, Nat.reduceLT, evP, evX, evR, blkOf, evA, storeA, Nat.reduceEqDiff, resL, resV, oneOrTup, Int.reduceEq, Int.reduceLT, Int.reduceLE, Int.reduceNeg, Int.reduceAdd, Int.reduceSub, Int.reduceMul, Int.reduceToNat, Nat.reduceAdd, noUnk, AV.cells, reduceCtorEq, Nat.reduceLeDiff, Cells.get, Nat.reduceMul, ↓bnd_assoc]
      refine Fin.write [.int .i64 11, .str (nameF 117 (atF L 1 4)), .str (nameF 102 (atF L 2 5)), .str (nameF 120 (atF L 3 2)), .str [], .int .i64 0, .int .i64 0, .sl none 0 (.exact 0)] (h10.ord [1]) rfl (by simp) rfl fun Hy hy => ?_
      have gy := hy.get
      simp only [↓gy, ↓hg8, ↓sxp, sxq, ↓reduceIte, Nat.reduceBEq, Nat.reduceLT, evP, evX, evR, blkOf, evA, storeA, Nat.reduceEqDiff, resL, resV, oneOrTup, Int.reduceEq, Int.reduceLT, Int.reduceLE, Int.reduceNeg, Int.reduceAdd, Int.reduceSub, Int.reduceMul, Int.reduceToNat, Nat.reduceAdd, noUnk, AV.cells, reduceCtorEq, Nat.reduceLeDiff, Cells.get, Nat.reduceMul, ↓bnd_assoc]
      exact Fin.ret ⟨_, by rw [show choF L = ⟨11, nameF 117 (atF L 1 4), nameF 102 (atF L 2 5), nameF 120 (atF L 3 2), [], 0, 0, []⟩ from by unfold choF; rw [hk]; rfl]; rfl, HP.emp, by rw [show choF L = ⟨11, nameF 117 (atF L 1 4), nameF 102 (atF L 2 5), nameF 120 (atF L 3 2), [], 0, 0, []⟩ from by unfold choF; rw [hk]; rfl]; exact fun _ => Rd.nil, (hy.tail.tail.tail).empty⟩
    · have nk : ((12 : Nat) : Int) = 12 := rfl
      simp only [↓g8, nk, a3_2, ↓g8b, ↓stepK_v, ↓sxp, sxq, ↓reduceIte, Nat.reduceBEq, Nat.reduceLT, evP, evX, evR, blkOf, evA, storeA, Nat.reduceEqDiff, resL, resV, oneOrTup, Int.reduceEq, Int.reduceLT, Int.reduceLE, Int.reduceNeg, Int.reduceAdd, Int.reduceSub, Int.reduceMul, Int.reduceToNat, Nat.reduceAdd, noUnk, AV.cells, reduceCtorEq, Nat.reduceLeDiff, Cells.get, Nat.reduceMul, ↓bnd_assoc]
      refine Fin.call (c_name hE 120 (atF L 3 2) h8) fun H9 h9 => ?_
      simp only [↓sxp, sxq, ↓reduceIte, Nat.reduceBEq, Nat.reduceLT, evP, evX, evR, blkOf, evA, storeA, Nat.reduceEqDiff, resL, resV, oneOrTup, Int.reduceEq, Int.reduceLT, Int.reduceLE, Int.reduceNeg, Int.reduceAdd, Int.reduceSub, Int.reduceMul, Int.reduceToNat, Nat.reduceAdd, noUnk, AV.cells, reduceCtorEq, Nat.reduceLeDiff, Cells.get, Nat.reduceMul, ↓bnd_assoc]
      refine Fin.write [.int .i64 12, .str (nameF 117 (atF L 1 4)), .str (nameF 102 (atF L 2 5)), .str (nameF 120 (atF L 3 2)), .str [], .int .i64 0, .int .i64 0, .sl none 0 (.exact 0)] h9 rfl (by simp) rfl fun H10 h10 => ?_
      have gz := h10.get
      simp only [↓gz, ↓hg8, ↓sxp, sxq, ↓reduceIte, Nat.reduceBEq, Nat.reduceLT, evP, evX, evR, blkOf, evA, storeA, Nat.reduceEqDiff, resL, resV, oneOrTup, Int.reduceEq, Int.reduceLT, Int.reduceLE, Int.reduceNeg, Int.reduceAdd, Int.reduceSub, Int.reduceMul, Int.reduceToNat, Nat.reduceAdd, noUnk, AV.cells, reduceCtorEq, Nat.reduceLeDiff, Cells.get, Nat.reduceMul, ↓bnd_assoc]
      refine Fin.write [.int .i64 12, .str (nameF 117 (atF L 1 4)), .str (nameF 102 (atF L 2 5)), .str (nameF 120 (atF L 3 2)), .str [], .int .i64 0, .int .i64 0, .sl none 0 (.exact 0)] (h10.ord [1]) rfl (by simp) rfl fun Hy hy => ?_
      have gy := hy.get
      simp only [↓gy, ↓hg8, ↓sxp, sxq, ↓reduceIte, Nat.reduceBEq, Nat.reduceLT, evP, evX, evR, blkOf, evA, storeA, Nat.reduceEqDiff, resL, resV, oneOrTup, Int.reduceEq, Int.reduceLT, Int.reduceLE, Int.reduceNeg, Int.reduceAdd, Int.reduceSub, Int.reduceMul, Int.reduceToNat, Nat.reduceAdd, noUnk, AV.cells, reduceCtorEq, Nat.reduceLeDiff, Cells.get, Nat.reduceMul, ↓bnd_assoc]
      exact Fin.ret ⟨_, by rw [show choF L = ⟨12, nameF 117 (atF L 1 4), nameF 102 (atF L 2 5), nameF 120 (atF L 3 2), [], 0, 0, []⟩ from by unfold choF; rw [hk]; rfl]; rfl, HP.emp, by rw [show choF L = ⟨12, nameF 117 (atF L 1 4), nameF 102 (atF L 2 5), nameF 120 (atF L 3 2), [], 0, 0, []⟩ from by unfold choF; rw [hk]; rfl]; exact fun _ => Rd.nil, (hy.tail.tail.tail).empty⟩
    · have nk : ((13 : Nat) : Int) = 13 := rfl
      simp only [↓g8, nk, ↓g8b, ↓stepK_v, ↓hg8, ↓sxp, sxq, ↓reduceIte, Nat.reduceBEq, Nat.reduceLT, evP, evX, evR, blkOf, evA, storeA, Nat.reduceEqDiff, resL, resV, oneOrTup, Int.reduceEq, Int.reduceLT, Int.reduceLE, Int.reduceNeg, Int.reduceAdd, Int.reduceSub, Int.reduceMul, Int.reduceToNat, Nat.reduceAdd, noUnk, AV.cells, reduceCtorEq, Nat.reduceLeDiff, Cells.get, Nat.reduceMul, ↓bnd_assoc]
      refine Fin.write [.int .i64 13, .str (nameF 117 (atF L 1 4)), .str (nameF 102 (atF L 2 5)), .str [], .str [], .int .i64 0, .int .i64 0, .sl none 0 (.exact 0)] (h8.ord [1]) rfl (by simp) rfl fun Hy hy => ?_
      have gy := hy.get
      simp only [↓gy, ↓hg8, ↓sxp, sxq, ↓reduceIte, Nat.reduceBEq, Nat.reduceLT, evP, evX, evR, blkOf, evA, storeA, Nat.reduceEqDiff, resL, resV, oneOrTup, Int.reduceEq, Int.reduceLT, Int.reduceLE, Int.reduceNeg, Int.reduceAdd, Int.reduceSub, Int.reduceMul, Int.reduceToNat, Nat.reduceAdd, noUnk, AV.cells, reduceCtorEq, Nat.reduceLeDiff, Cells.get, Nat.reduceMul, ↓bnd_assoc]
      exact Fin.ret ⟨_, by rw [show choF L = ⟨13, nameF 117 (atF L 1 4), nameF 102 (atF L 2 5), [], [], 0, 0, []⟩ from by unfold choF; rw [hk]; rfl]; rfl, HP.emp, by rw [show choF L = ⟨13, nameF 117 (atF L 1 4), nameF 102 (atF L 2 5), [], [], 0, 0, []⟩ from by unfold choF; rw [hk]; rfl]; exact fun _ => Rd.nil, (hy.tail.tail.tail).empty⟩
    · exact absurd rfl k14
end
end Go.Proofs.YtjfnhdiimibmiaaDoor.Sx

/- Calls, the document's. -/
namespace Go.Proofs.YtjfnhdiimibmiaaDoor.Sx
open HP
def callF (seed : List UInt8) (i : Nat) : CF := if i < 4 then ⟨1, nameF 117 i, [], [], [], 0, 0, []⟩ else choF (lotF seed i)
def knl : List AV := KND.map fun n : Nat => .int .i64 ((n : Nat) : Int)
section
variable {W : World} {E : Env} {H : Heap} {Γ : List HP}
def bndG (n : Nat) (a b : AV) : Option (Nat × Nat × Nat) := bounds .e n n (some (.c a)) (some (.c b)) none
theorem RdLike.xh (bs : List UInt8) (v : AV) : RdLike W bs v (HP.xh bs v) := fun {H Γ} h => by
  obtain ⟨R, hR, h2⟩ := (XH.ofH h).out (W := W)
  exact hR h2
theorem bnd_tt (A : Tm) (n i j : Nat) : bounds A n n (some (.tmp i)) (some (.tmp j)) none = bndG n (getX A i) (getX A j) := (Eq.refl _).trans rfl
theorem digit : ∀ n : Nat, n < 10 → (([48, 49, 50, 51, 52, 53, 54, 55, 56, 57] : List UInt8).take (n + 1)).drop n = [48 + UInt8.ofNat n] := by decide
theorem c_named (hE : EnvW E) (l : UInt8) (n : Nat) (hn : n < 10) (H : Heap) : go W E 24 [.str [l], .int .i64 (n : Int)] H = some (.str (nameF l n), H) := by
  have w1 : IntKind.i64.wrap ((n : Int) + 1) = ((n + 1 : Nat) : Int) := by rw [w64 (by omega)]; simp
  have hb : bndG 10 (.int .i64 (n : Int)) (.int .i64 ((n + 1 : Nat) : Int)) = some (n, n + 1, 10) := by
    have e1 : inI ((n + 1 : Nat) : Int) 10 = some (n + 1) := by unfold inI; rw [if_pos (by omega), if_pos (by omega), Int.toNat_natCast]
    have e2 : inI (n : Int) (n + 1) = some n := by unfold inI; rw [if_pos (by omega), if_pos (by omega), Int.toNat_natCast]
    simp only [bndG, bounds, bound, evX, e1, e2]
  have hd := digit n hn
  generalize hL : ([48, 49, 50, 51, 52, 53, 54, 55, 56, 57] : List UInt8) = D at *
  have hDl : D.length = 10 := by rw [← hL]; rfl
  have hadd : bin .add (.str [l]) (.str [48 + UInt8.ofNat n]) = some (.str (nameF l n)) := rfl
  rw [go_code hE.f24 (by simp [sf24])]
  simp only [sf24, hL, w1, hDl, ↓bnd_tt, hb, hd, hadd, ↓sxp, sxq, ↓reduceIte, Nat.reduceBEq, Nat.reduceLT, evP, evX, evR, blkOf, evA, storeA, Nat.reduceEqDiff, resL, resV, oneOrTup, Int.reduceEq, Int.reduceLT, Int.reduceLE, Int.reduceNeg, Int.reduceAdd, Int.reduceSub, Int.reduceMul, Int.reduceToNat, Nat.reduceAdd, noUnk, AV.cells, reduceCtorEq, Nat.reduceLeDiff, Cells.get, Nat.reduceMul, ↓bnd_assoc]
theorem cd_loop {L : List UInt8} (hl : L.length = 32) {j9 j5 : Nat} {a b c d e f g : AV} {df : List Nat} : ∀ (m i : Nat) (A : Tm) (H : Heap) (dv : AV), i + m = atF L 6 9 → getX A 5 = .ptr (some ⟨.own j5, 0⟩) → getX A 9 = .ptr (some ⟨.own j9, 0⟩) → getX A 11 = .int .i64 i → XH H ((L.drop 16).take i) dv (blk j9 [a, b, c, d, e, f, g, dv] 29 :: blk j5 (cb L) 22 :: Γ) →
    ∃ lv A' H', run W E (.loop lp10_0) ⟨A, df, none⟩ H = some (lv, ⟨A', df, none⟩, H') ∧ (lv = .exit 0 ∧ getX A' 4 = getX A 4 ∧ getX A' 9 = getX A 9 ∧ ∃ dv', XH H' ((L.drop 16).take (atF L 6 9)) dv' (blk j9 [a, b, c, d, e, f, g, dv'] 29 :: blk j5 (cb L) 22 :: Γ)) := by
  have hlp : ∀ f H, run W E lp10_0 f H = run W E lp10_0 f H := fun _ _ => rfl
  conv at hlp => enter [f, H, 2]; unfold lp10_0
  have m9 : atF L 6 9 < 9 := Nat.mod_lt _ (by omega)
  have r6 : bin .rem (.int .i64 ((L.getD 6 0).toNat : Int)) (.int .i64 9) = some (.int .i64 ((atF L 6 9 : Nat) : Int)) := i_rem (L.getD 6 0).toNat 9 (by omega)
  have x6 : (cb L)[6]? = some (.int .u8 (L.getD 6 0).toNat) := cb_get (show 6 < L.length by omega)
  intro m
  induction m with
  | zero =>
    intro i A H dv him a5 a9 a11 h
    have hi : i = atF L 6 9 := by omega
    have hlt : ¬ (i : Int) < ((atF L 6 9 : Nat) : Int) := by omega
    have g5 := (h.toH.ord [2]).get
    rw [run_loop]
    simp only [hlp, a5, a9, a11, nc32, ↓g5, x6, conv_i64, r6, hlt, ↓sxp, sxq, ↓reduceIte, Nat.reduceBEq, Nat.reduceLT, evP, evX, evR, blkOf, evA, storeA, Nat.reduceEqDiff, resL, resV, oneOrTup, Int.reduceEq, Int.reduceLT, Int.reduceLE, Int.reduceNeg, Int.reduceAdd, Int.reduceSub, Int.reduceMul, Int.reduceToNat, Nat.reduceAdd, noUnk, AV.cells, reduceCtorEq, Nat.reduceLeDiff, Cells.get, Nat.reduceMul, ↓bnd_assoc]
    exact ⟨_, _, _, rfl, rfl, by simp only [↓sxp, sxq, ↓reduceIte, Nat.reduceBEq, Nat.reduceLT, evP, evX, evR, blkOf, evA, storeA, Nat.reduceEqDiff, resL, resV, oneOrTup, Int.reduceEq, Int.reduceLT, Int.reduceLE, Int.reduceNeg, Int.reduceAdd, Int.reduceSub, Int.reduceMul, Int.reduceToNat, Nat.reduceAdd, noUnk, AV.cells, reduceCtorEq, Nat.reduceLeDiff, Cells.get, Nat.reduceMul, ↓bnd_assoc], by simp only [a9, ↓sxp, sxq, ↓reduceIte, Nat.reduceBEq, Nat.reduceLT, evP, evX, evR, blkOf, evA, storeA, Nat.reduceEqDiff, resL, resV, oneOrTup, Int.reduceEq, Int.reduceLT, Int.reduceLE, Int.reduceNeg, Int.reduceAdd, Int.reduceSub, Int.reduceMul, Int.reduceToNat, Nat.reduceAdd, noUnk, AV.cells, reduceCtorEq, Nat.reduceLeDiff, Cells.get, Nat.reduceMul, ↓bnd_assoc], dv, by rw [← hi]; exact h⟩
  | succ m ih =>
    intro i A H dv him a5 a9 a11 h
    have hlt : (i : Int) < ((atF L 6 9 : Nat) : Int) := by omega
    have hwr : IntKind.i64.wrap ((i : Int) + 1) = ((i + 1 : Nat) : Int) := by rw [w64 (by omega)]; simp
    have w2 : IntKind.i64.wrap (16 + (i : Int)) = ((16 + i : Nat) : Int) := by rw [w64 (by omega)]; omega
    have i32 : ((16 + i : Nat) : Int) < 32 := by omega
    have g5 := (h.toH.ord [2]).get
    have g5b := ((h.toH.bump 10).ord [2]).get
    have g9b := ((h.toH.bump 10).ord [1]).get
    have xi := cb_get (show 16 + i < L.length by omega)
    have hx7 : ∀ v : AV, ([a, b, c, d, e, f, g, v] : List AV)[7]? = some v := fun v => rfl
    have h1 := ((h.toH).bump1 10 6).lay (c := [.int .u8 (L.getD (16 + i) 0).toNat]) (t := 5)
    have hb6 := h1.get
    have h2 : XH _ ((L.drop 16).take i) dv (blk (H.next + 6) [.int .u8 (L.getD (16 + i) 0).toNat] 5 :: blk j9 [a, b, c, d, e, f, g, dv] 29 :: blk j5 (cb L) 22 :: Γ) := XH.ofH (h1.ord [1])
    have hsrc : srcA W (({ H with next := H.next + 10 } : Heap).lay (H.next + 6) (.cells (.lst [.int .u8 (L.getD (16 + i) 0).toNat]) 5 none)) 1 false (.sl (some ⟨.own (H.next + 6), 0⟩) 1 (.exact 1)) = some (1, [.int .u8 (L.getD (16 + i) 0).toNat]) := by
      simp only [srcA, blkOf, hb6]; rfl
    obtain ⟨v', H3, e3, h3⟩ := XH.app (W := W) (ps := [L.getD (16 + i) 0]) h2 hsrc (by simp) (by rw [List.length_take]; simp; omega)
    have hts : (L.drop 16).take i ++ [L.getD (16 + i) 0] = (L.drop 16).take (i + 1) := by
      rw [take_succ_b _ i (by rw [List.length_drop]; omega)]
      congr 2
      simp only [List.getD_eq_getElem?_getD, List.getElem?_drop]
    rw [hts] at h3
    obtain ⟨u1, u2, u3⟩ := ((RdLike.row (W := W) _ v') h3).one
    unfold AV.cells at u1
    unfold noUnk at u2
    apply Fin.ex3
    rw [run_loop]
    simp only [hlp, a5, a9, a11, nc32, ↓g5, ↓g5b, ↓g9b, x6, xi, hx7, conv_i64, r6, hlt, w2, i32, Int.natCast_nonneg, and_self, Int.toNat_natCast, ↓e3, ↓u1, ↓u2, ↓sxp, sxq, ↓reduceIte, Nat.reduceBEq, Nat.reduceLT, evP, evX, evR, blkOf, evA, storeA, Nat.reduceEqDiff, resL, resV, oneOrTup, Int.reduceEq, Int.reduceLT, Int.reduceLE, Int.reduceNeg, Int.reduceAdd, Int.reduceSub, Int.reduceMul, Int.reduceToNat, Nat.reduceAdd, noUnk, AV.cells, reduceCtorEq, Nat.reduceLeDiff, Cells.get, Nat.reduceMul, ↓bnd_assoc]
    refine Fin.write [a, b, c, d, e, f, g, v'] (h3.ord [2]) rfl (by simp) (by simp [u3]) fun H4 h4 => ?_
    simp only [a11, hwr, ↓sxp, sxq, ↓reduceIte, Nat.reduceBEq, Nat.reduceLT, evP, evX, evR, blkOf, evA, storeA, Nat.reduceEqDiff, resL, resV, oneOrTup, Int.reduceEq, Int.reduceLT, Int.reduceLE, Int.reduceNeg, Int.reduceAdd, Int.reduceSub, Int.reduceMul, Int.reduceToNat, Nat.reduceAdd, noUnk, AV.cells, reduceCtorEq, Nat.reduceLeDiff, Cells.get, Nat.reduceMul, ↓bnd_assoc]
    refine Fin.of3 (ih (i + 1) _ _ v' (by omega) (by simp only [a5, ↓sxp, sxq, ↓reduceIte, Nat.reduceBEq, Nat.reduceLT, evP, evX, evR, blkOf, evA, storeA, Nat.reduceEqDiff, resL, resV, oneOrTup, Int.reduceEq, Int.reduceLT, Int.reduceLE, Int.reduceNeg, Int.reduceAdd, Int.reduceSub, Int.reduceMul, Int.reduceToNat, Nat.reduceAdd, noUnk, AV.cells, reduceCtorEq, Nat.reduceLeDiff, Cells.get, Nat.reduceMul, ↓bnd_assoc]) (by simp only [a9, ↓sxp, sxq, ↓reduceIte, Nat.reduceBEq, Nat.reduceLT, evP, evX, evR, blkOf, evA, storeA, Nat.reduceEqDiff, resL, resV, oneOrTup, Int.reduceEq, Int.reduceLT, Int.reduceLE, Int.reduceNeg, Int.reduceAdd, Int.reduceSub, Int.reduceMul, Int.reduceToNat, Nat.reduceAdd, noUnk, AV.cells, reduceCtorEq, Nat.reduceLeDiff, Cells.get, Nat.reduceMul, ↓bnd_assoc]) (by simp only [↓sxp, sxq, ↓reduceIte, Nat.reduceBEq, Nat.reduceLT, evP, evX, evR, blkOf, evA, storeA, Nat.reduceEqDiff, resL, resV, oneOrTup, Int.reduceEq, Int.reduceLT, Int.reduceLE, Int.reduceNeg, Int.reduceAdd, Int.reduceSub, Int.reduceMul, Int.reduceToNat, Nat.reduceAdd, noUnk, AV.cells, reduceCtorEq, Nat.reduceLeDiff, Cells.get, Nat.reduceMul, ↓bnd_assoc]) (.inl ((h4.rm 2).ord [1]))) fun lv A' H' ⟨q1, q2, q3, q⟩ => ⟨q1, q2.trans (by simp only [↓sxp, sxq, ↓reduceIte, Nat.reduceBEq, Nat.reduceLT, evP, evX, evR, blkOf, evA, storeA, Nat.reduceEqDiff, resL, resV, oneOrTup, Int.reduceEq, Int.reduceLT, Int.reduceLE, Int.reduceNeg, Int.reduceAdd, Int.reduceSub, Int.reduceMul, Int.reduceToNat, Nat.reduceAdd, noUnk, AV.cells, reduceCtorEq, Nat.reduceLeDiff, Cells.get, Nat.reduceMul, ↓bnd_assoc]), q3.trans (by simp only [a9, ↓sxp, sxq, ↓reduceIte, Nat.reduceBEq, Nat.reduceLT, evP, evX, evR, blkOf, evA, storeA, Nat.reduceEqDiff, resL, resV, oneOrTup, Int.reduceEq, Int.reduceLT, Int.reduceLE, Int.reduceNeg, Int.reduceAdd, Int.reduceSub, Int.reduceMul, Int.reduceToNat, Nat.reduceAdd, noUnk, AV.cells, reduceCtorEq, Nat.reduceLeDiff, Cells.get, Nat.reduceMul, ↓bnd_assoc]), q⟩
theorem c_dcall (hE : EnvW E) {seed : List UInt8} {i : Nat} (hs : seed.length = 32) (hi : i ≤ 1024) (h : Holds H Γ) :
    ∃ dv H', go W E 10 [.agg (cb seed), .int .i64 (i : Int)] H = some (.agg (cfC (callF seed i) dv), H') ∧ ∃ R, RdLike W (callF seed i).data dv R ∧ Holds H' (R :: Γ) := by
  suffices hh : Fin (fun r : AV × Heap => ∃ dv, r.1 = .agg (cfC (callF seed i) dv) ∧ ∃ R, RdLike W (callF seed i).data dv R ∧ Holds r.2 (R :: Γ)) (go W E 10 [.agg (cb seed), .int .i64 (i : Int)] H) by
    obtain ⟨⟨r, H'⟩, e, dv, hr, q⟩ := hh
    simp only at hr
    subst hr
    exact ⟨dv, H', e, q⟩
  have hg8 : ∀ a b c d e f g h : AV, Cells.getN (.lst [a, b, c, d, e, f, g, h]) 0 8 = some [a, b, c, d, e, f, g, h] := fun _ _ _ _ _ _ _ _ => rfl
  have h2 := (h.push (c := cb seed) (t := 22)).push (c := c0) (t := 29)
  simp only [push_next] at h2
  have hgs := getN_cb hs
  rw [go_code hE.f10 (by simp [sf10])]
  generalize hcs : cb seed = cs at *
  by_cases h4 : i < 4
  · have h4' : (i : Int) < 4 := by omega
    have hcf : callF seed i = ⟨1, nameF 117 i, [], [], [], 0, 0, []⟩ := by unfold callF; rw [if_pos h4]
    have dn := c_named (W := W) hE 117 i (by omega)
    rw [hcf]
    simp only [sf10, h4', dn, ↓sxp, sxq, ↓reduceIte, Nat.reduceBEq, Nat.reduceLT, evP, evX, evR, blkOf, evA, storeA, Nat.reduceEqDiff, resL, resV, oneOrTup, Int.reduceEq, Int.reduceLT, Int.reduceLE, Int.reduceNeg, Int.reduceAdd, Int.reduceSub, Int.reduceMul, Int.reduceToNat, Nat.reduceAdd, noUnk, AV.cells, reduceCtorEq, Nat.reduceLeDiff, Cells.get, Nat.reduceMul, ↓bnd_assoc]
    refine Fin.write [.int .i64 1, .str (nameF 117 i), .str [], .str [], .str [], .int .i64 0, .int .i64 0, .sl none 0 (.exact 0)] h2 rfl (by simp) rfl fun Hy hy => ?_
    have gy := hy.get
    simp only [↓gy, ↓hg8, ↓sxp, sxq, ↓reduceIte, Nat.reduceBEq, Nat.reduceLT, evP, evX, evR, blkOf, evA, storeA, Nat.reduceEqDiff, resL, resV, oneOrTup, Int.reduceEq, Int.reduceLT, Int.reduceLE, Int.reduceNeg, Int.reduceAdd, Int.reduceSub, Int.reduceMul, Int.reduceToNat, Nat.reduceAdd, noUnk, AV.cells, reduceCtorEq, Nat.reduceLeDiff, Cells.get, Nat.reduceMul, ↓bnd_assoc]
    exact Fin.ret ⟨_, rfl, HP.emp, fun _ => Rd.nil, (hy.tail.tail).empty⟩
  · have h4' : ¬ (i : Int) < 4 := by omega
    have hcf : callF seed i = choF (lotF seed i) := by unfold callF; rw [if_neg h4]
    have g2 := (h2.ord [1]).get
    have hkl : ∀ A id, evA A id (.bsl 3 17 1 [.int .i64 0] [(0, 1, .c (.int .i64 2)), (1, 1, .c (.int .i64 8)), (2, 1, .c (.int .i64 8)), (3, 1, .c (.int .i64 8)), (4, 1, .c (.int .i64 5)), (5, 1, .c (.int .i64 5)), (6, 1, .c (.int .i64 6)), (7, 1, .c (.int .i64 7)), (8, 1, .c (.int .i64 9)), (9, 1, .c (.int .i64 9)), (10, 1, .c (.int .i64 10)), (11, 1, .c (.int .i64 12)), (12, 1, .c (.int .i64 13)), (13, 1, .c (.int .i64 11)), (14, 1, .c (.int .i64 3)), (15, 1, .c (.int .i64 4)), (16, 1, .c (.int .i64 14))]) = some (.cells (.lst knl) 3 none, .sl (some ⟨.own id, 0⟩) 17 (.exact 17)) := fun _ _ => by kernel_rfl
    rw [hcf]
    simp only [sf10, z32_eq, h4', ↓g2, ↓hgs, ↓hkl, ↓sxp, sxq, ↓reduceIte, Nat.reduceBEq, Nat.reduceLT, evP, evX, evR, blkOf, evA, storeA, Nat.reduceEqDiff, resL, resV, oneOrTup, Int.reduceEq, Int.reduceLT, Int.reduceLE, Int.reduceNeg, Int.reduceAdd, Int.reduceSub, Int.reduceMul, Int.reduceToNat, Nat.reduceAdd, noUnk, AV.cells, reduceCtorEq, Nat.reduceLeDiff, Cells.get, Nat.reduceMul, ↓bnd_assoc]
    subst hcs
    refine Fin.call (c_dlot hE hs hi h2) fun H3 h3 => ?_
    have hl := lotF_len seed i
    generalize lotF seed i = L at *
    have hc32 : (cb L).length = 32 := by rw [cb_len, hl]
    have h5 := h3.push (c := z32) (t := 22)
    simp only [hc32, ↓sxp, sxq, ↓reduceIte, Nat.reduceBEq, Nat.reduceLT, evP, evX, evR, blkOf, evA, storeA, Nat.reduceEqDiff, resL, resV, oneOrTup, Int.reduceEq, Int.reduceLT, Int.reduceLE, Int.reduceNeg, Int.reduceAdd, Int.reduceSub, Int.reduceMul, Int.reduceToNat, Nat.reduceAdd, noUnk, AV.cells, reduceCtorEq, Nat.reduceLeDiff, Cells.get, Nat.reduceMul, ↓bnd_assoc]
    generalize H.next = j2 at *
    generalize H3.next = j5 at *
    refine Fin.write (cb L) h5 (setN_all (by rw [hc32]; rfl)) (by rw [hc32]; exact Nat.le_refl _) (cb_one L) fun H6 h6 => ?_
    have h7 := h6.push (c := knl) (t := 3)
    have g7 := h7.get
    have g7b := (h7.ord [1]).get
    have r0_17 : bin .rem (.int .i64 ((L.getD 0 0).toNat : Int)) (.int .i64 17) = some (.int .i64 ((atF L 0 17 : Nat) : Int)) := i_rem (L.getD 0 0).toNat 17 (by omega)
    have r1_4 : bin .rem (.int .i64 ((L.getD 1 0).toNat : Int)) (.int .i64 4) = some (.int .i64 ((atF L 1 4 : Nat) : Int)) := i_rem (L.getD 1 0).toNat 4 (by omega)
    have r2_5 : bin .rem (.int .i64 ((L.getD 2 0).toNat : Int)) (.int .i64 5) = some (.int .i64 ((atF L 2 5 : Nat) : Int)) := i_rem (L.getD 2 0).toNat 5 (by omega)
    have r7_6 : bin .rem (.int .i64 ((L.getD 7 0).toNat : Int)) (.int .i64 6) = some (.int .i64 ((atF L 7 6 : Nat) : Int)) := i_rem (L.getD 7 0).toNat 6 (by omega)
    have r7_4 : bin .rem (.int .i64 ((L.getD 7 0).toNat : Int)) (.int .i64 4) = some (.int .i64 ((atF L 7 4 : Nat) : Int)) := i_rem (L.getD 7 0).toNat 4 (by omega)
    have r7_3 : bin .rem (.int .i64 ((L.getD 7 0).toNat : Int)) (.int .i64 3) = some (.int .i64 ((atF L 7 3 : Nat) : Int)) := i_rem (L.getD 7 0).toNat 3 (by omega)
    have r4_4 : bin .rem (.int .i64 ((L.getD 4 0).toNat : Int)) (.int .i64 4) = some (.int .i64 ((atF L 4 4 : Nat) : Int)) := i_rem (L.getD 4 0).toNat 4 (by omega)
    have r3_2 : bin .rem (.int .i64 ((L.getD 3 0).toNat : Int)) (.int .i64 2) = some (.int .i64 ((atF L 3 2 : Nat) : Int)) := i_rem (L.getD 3 0).toNat 2 (by omega)
    have r6_9 : bin .rem (.int .i64 ((L.getD 6 0).toNat : Int)) (.int .i64 9) = some (.int .i64 ((atF L 6 9 : Nat) : Int)) := i_rem (L.getD 6 0).toNat 9 (by omega)
    have r5_3 : bin .rem (.int .i64 ((L.getD 5 0).toNat : Int)) (.int .i64 3) = some (.int .i64 ((atF L 5 3 : Nat) : Int)) := i_rem (L.getD 5 0).toNat 3 (by omega)
    have x0 : (cb L)[0]? = some (.int .u8 (L.getD 0 0).toNat) := cb_get (show 0 < L.length by omega)
    have x1 : (cb L)[1]? = some (.int .u8 (L.getD 1 0).toNat) := cb_get (show 1 < L.length by omega)
    have x2 : (cb L)[2]? = some (.int .u8 (L.getD 2 0).toNat) := cb_get (show 2 < L.length by omega)
    have x3 : (cb L)[3]? = some (.int .u8 (L.getD 3 0).toNat) := cb_get (show 3 < L.length by omega)
    have x4 : (cb L)[4]? = some (.int .u8 (L.getD 4 0).toNat) := cb_get (show 4 < L.length by omega)
    have x5 : (cb L)[5]? = some (.int .u8 (L.getD 5 0).toNat) := cb_get (show 5 < L.length by omega)
    have x6 : (cb L)[6]? = some (.int .u8 (L.getD 6 0).toNat) := cb_get (show 6 < L.length by omega)
    have x7 : (cb L)[7]? = some (.int .u8 (L.getD 7 0).toNat) := cb_get (show 7 < L.length by omega)
    have m0_17 : atF L 0 17 < 17 := Nat.mod_lt _ (by omega)
    have m1_4 : atF L 1 4 < 4 := Nat.mod_lt _ (by omega)
    have m2_5 : atF L 2 5 < 5 := Nat.mod_lt _ (by omega)
    have m7_6 : atF L 7 6 < 6 := Nat.mod_lt _ (by omega)
    have m7_4 : atF L 7 4 < 4 := Nat.mod_lt _ (by omega)
    have m7_3 : atF L 7 3 < 3 := Nat.mod_lt _ (by omega)
    have m4_4 : atF L 4 4 < 4 := Nat.mod_lt _ (by omega)
    have m3_2 : atF L 3 2 < 2 := Nat.mod_lt _ (by omega)
    have m6_9 : atF L 6 9 < 9 := Nat.mod_lt _ (by omega)
    have m5_3 : atF L 5 3 < 3 := Nat.mod_lt _ (by omega)
    have d1_4 := c_named (W := W) hE 117 (atF L 1 4) (by omega)
    have d2_5 := c_named (W := W) hE 102 (atF L 2 5) (by omega)
    have d7_4 := c_named (W := W) hE 117 (atF L 7 4) (by omega)
    have d3_2 := c_named (W := W) hE 120 (atF L 3 2) (by omega)
    have i17 : ((atF L 0 17 : Nat) : Int) < 17 := by omega
    have n17 : ((17 : Nat) : Int) = 17 := rfl
    have hkx : knl[atF L 0 17]? = some (.int .i64 ((KND.getD (atF L 0 17) 0 : Nat) : Int)) := by
      unfold knl
      rw [List.getElem?_map, List.getElem?_eq_getElem (show atF L 0 17 < KND.length from m0_17), List.getD_eq_getElem?_getD, List.getElem?_eq_getElem (show atF L 0 17 < KND.length from m0_17)]; rfl
    have hkin := KND_in _ m0_17
    have h8 := h7.push (c := c0) (t := 29)
    simp only [push_next] at h8
    simp only [nc32, n17, ↓g7, ↓g7b, conv_i64, r0_17, r1_4, r2_5, r7_6, r7_4, r7_3, r4_4, r3_2, r6_9, r5_3, x0, x1, x2, x3, x4, x5, x6, x7, d1_4, d2_5, d7_4, d3_2, Int.toNat_natCast, Int.natCast_nonneg, and_self, i17, hkx, ↓sxp, sxq, ↓reduceIte, Nat.reduceBEq, Nat.reduceLT, evP, evX, evR, blkOf, evA, storeA, Nat.reduceEqDiff, resL, resV, oneOrTup, Int.reduceEq, Int.reduceLT, Int.reduceLE, Int.reduceNeg, Int.reduceAdd, Int.reduceSub, Int.reduceMul, Int.reduceToNat, Nat.reduceAdd, noUnk, AV.cells, reduceCtorEq, Nat.reduceLeDiff, Cells.get, Nat.reduceMul, ↓bnd_assoc]
    generalize H6.next = j6 at *
    generalize hk : KND.getD (atF L 0 17) 0 = k at *
    refine Fin.write [.int .i64 (k : Int), .str (nameF 117 (atF L 1 4)), .str [], .str [], .str [], .int .i64 0, .int .i64 0, .sl none 0 (.exact 0)] h8 rfl (by simp) rfl fun H9 h9 => ?_
    have g9 := h9.get
    have g9b := (h9.ord [2]).get
    have h10 := ((h9.ord [0, 2, 1]).rm 3).rm 3
    have n14 : ((14 : Nat) : Int) = 14 := rfl
    clear g9 g9b
    generalize j6 + 1 = j9 at *
    generalize j2 + 1 = j4 at *
    have g9 := h10.get
    have g9b := (h10.ord [2]).get
    by_cases k14 : k = 14
    · subst k14
      have w1 : IntKind.i64.wrap (((atF L 1 4 : Nat) : Int) + 1) = ((atF L 1 4 + 1 : Nat) : Int) := by rw [w64 (by omega)]; omega
      have w2 : IntKind.i64.wrap (((atF L 1 4 + 1 : Nat) : Int) + ((atF L 7 3 : Nat) : Int)) = ((atF L 1 4 + 1 + atF L 7 3 : Nat) : Int) := by rw [w64 (by omega)]; omega
      have w3 : bin .rem (.int .i64 ((atF L 1 4 + 1 + atF L 7 3 : Nat) : Int)) (.int .i64 4) = some (.int .i64 (((atF L 1 4 + 1 + atF L 7 3) % 4 : Nat) : Int)) := i_rem _ 4 (by omega)
      have dn := c_named (W := W) hE 117 ((atF L 1 4 + 1 + atF L 7 3) % 4) (by omega)
      have hcho : choF L = ⟨14, nameF 117 (atF L 1 4), [], [], nameF 117 ((atF L 1 4 + 1 + atF L 7 3) % 4), 0, 0, []⟩ := by unfold choF; rw [hk]; rfl
      generalize hz : (atF L 1 4 + 1 + atF L 7 3 : Nat) = z at *
      simp only [n14, nc32, ↓g9, ↓g9b, conv_i64, r0_17, r1_4, r2_5, r7_6, r7_4, r7_3, r4_4, r3_2, r6_9, r5_3, x0, x1, x2, x3, x4, x5, x6, x7, d1_4, d2_5, d7_4, d3_2, Int.toNat_natCast, Int.natCast_nonneg, and_self, w1, w2, w3, dn, ↓sxp, sxq, ↓reduceIte, Nat.reduceBEq, Nat.reduceLT, evP, evX, evR, blkOf, evA, storeA, Nat.reduceEqDiff, resL, resV, oneOrTup, Int.reduceEq, Int.reduceLT, Int.reduceLE, Int.reduceNeg, Int.reduceAdd, Int.reduceSub, Int.reduceMul, Int.reduceToNat, Nat.reduceAdd, noUnk, AV.cells, reduceCtorEq, Nat.reduceLeDiff, Cells.get, Nat.reduceMul, ↓bnd_assoc]
      refine Fin.write [.int .i64 14, .str (nameF 117 (atF L 1 4)), .str [], .str [], .str (nameF 117 (z % 4)), .int .i64 0, .int .i64 0, .sl none 0 (.exact 0)] h10 rfl (by simp) rfl fun H11 h11 => ?_
      have nk := n14
      have gz := h11.get
      simp only [↓gz, ↓hg8, nk, ↓sxp, sxq, ↓reduceIte, Nat.reduceBEq, Nat.reduceLT, evP, evX, evR, blkOf, evA, storeA, Nat.reduceEqDiff, resL, resV, oneOrTup, Int.reduceEq, Int.reduceLT, Int.reduceLE, Int.reduceNeg, Int.reduceAdd, Int.reduceSub, Int.reduceMul, Int.reduceToNat, Nat.reduceAdd, noUnk, AV.cells, reduceCtorEq, Nat.reduceLeDiff, Cells.get, Nat.reduceMul, ↓bnd_assoc]
      refine Fin.write [.int .i64 14, .str (nameF 117 (atF L 1 4)), .str [], .str [], .str (nameF 117 (z % 4)), .int .i64 0, .int .i64 0, .sl none 0 (.exact 0)] (h11.ord [1]) rfl (by simp) rfl fun Hy hy => ?_
      have gy := hy.get
      simp only [↓gy, ↓hg8, ↓sxp, sxq, ↓reduceIte, Nat.reduceBEq, Nat.reduceLT, evP, evX, evR, blkOf, evA, storeA, Nat.reduceEqDiff, resL, resV, oneOrTup, Int.reduceEq, Int.reduceLT, Int.reduceLE, Int.reduceNeg, Int.reduceAdd, Int.reduceSub, Int.reduceMul, Int.reduceToNat, Nat.reduceAdd, noUnk, AV.cells, reduceCtorEq, Nat.reduceLeDiff, Cells.get, Nat.reduceMul, ↓bnd_assoc]
      exact Fin.ret ⟨_, by rw [hcho]; rfl, HP.emp, by rw [hcho]; exact fun _ => Rd.nil, (hy.tail.tail.tail).empty⟩
    · have k14' : ¬ (k : Int) = 14 := by omega
      simp only [k14', nc32, ↓g9, ↓g9b, conv_i64, r0_17, r1_4, r2_5, r7_6, r7_4, r7_3, r4_4, r3_2, r6_9, r5_3, x0, x1, x2, x3, x4, x5, x6, x7, d1_4, d2_5, d7_4, d3_2, Int.toNat_natCast, Int.natCast_nonneg, and_self, ↓sxp, sxq, ↓reduceIte, Nat.reduceBEq, Nat.reduceLT, evP, evX, evR, blkOf, evA, storeA, Nat.reduceEqDiff, resL, resV, oneOrTup, Int.reduceEq, Int.reduceLT, Int.reduceLE, Int.reduceNeg, Int.reduceAdd, Int.reduceSub, Int.reduceMul, Int.reduceToNat, Nat.reduceAdd, noUnk, AV.cells, reduceCtorEq, Nat.reduceLeDiff, Cells.get, Nat.reduceMul, ↓bnd_assoc]
      refine Fin.write [.int .i64 (k : Int), .str (nameF 117 (atF L 1 4)), .str (nameF 102 (atF L 2 5)), .str [], .str [], .int .i64 0, .int .i64 0, .sl none 0 (.exact 0)] h10 rfl (by simp) rfl fun H11 h11 => ?_
      have g11 := h11.get
      have g11b := (h11.ord [2]).get
      simp only [List.mem_cons, List.not_mem_nil, or_false] at hkin
      rcases hkin with rfl | rfl | rfl | rfl | rfl | rfl | rfl | rfl | rfl | rfl | rfl | rfl | rfl
      · have nk : ((2 : Nat) : Int) = 2 := rfl
        have hcho : choF L = ⟨2, nameF 117 (atF L 1 4), nameF 102 (atF L 2 5), [], otherF (atF L 7 6) (nameF 102 (atF L 2 5)), 0, 0, []⟩ := by unfold choF; rw [hk]; rfl
        have g11c := (h11.bump 9).get
        have d76 := c_named (W := W) hE 102 (atF L 7 6) (by omega)
        by_cases h5 : atF L 7 6 < 5
        · have h5' : ((atF L 7 6 : Nat) : Int) < 5 := by omega
          by_cases hb : nameF 102 (atF L 7 6) = nameF 102 (atF L 2 5)
          · have e : (nameF 102 (atF L 7 6) == nameF 102 (atF L 2 5)) = true := by rw [hb]; exact beq_self_eq_true _
            have ho : otherF (atF L 7 6) (nameF 102 (atF L 2 5)) = [] := by unfold otherF; rw [if_neg (fun h => h.2 hb)]
            rw [ho] at hcho
            simp only [↓g11, nk, nc32, ↓g11b, ↓g11c, conv_i64, r0_17, r1_4, r2_5, r7_6, r7_4, r7_3, r4_4, r3_2, r6_9, r5_3, x0, x1, x2, x3, x4, x5, x6, x7, d1_4, d2_5, d7_4, d3_2, Int.toNat_natCast, Int.natCast_nonneg, and_self, h5', d76, s_neq, e, ↓hg8, ↓sxp, sxq, ↓reduceIte, Nat.reduceBEq, Nat.reduceLT, evP, evX, evR, blkOf, evA, storeA, Nat.reduceEqDiff, resL, resV, oneOrTup, Int.reduceEq, Int.reduceLT, Int.reduceLE, Int.reduceNeg, Int.reduceAdd, Int.reduceSub, Int.reduceMul, Int.reduceToNat, Nat.reduceAdd, noUnk, AV.cells, reduceCtorEq, Nat.reduceLeDiff, Cells.get, Nat.reduceMul, ↓bnd_assoc]
            have h12 := h11.bump 9
            refine Fin.write [.int .i64 2, .str (nameF 117 (atF L 1 4)), .str (nameF 102 (atF L 2 5)), .str [], .str [], .int .i64 0, .int .i64 0, .sl none 0 (.exact 0)] (h12.ord [1]) rfl (by simp) rfl fun Hy hy => ?_
            have gy := hy.get
            simp only [↓gy, ↓hg8, ↓sxp, sxq, ↓reduceIte, Nat.reduceBEq, Nat.reduceLT, evP, evX, evR, blkOf, evA, storeA, Nat.reduceEqDiff, resL, resV, oneOrTup, Int.reduceEq, Int.reduceLT, Int.reduceLE, Int.reduceNeg, Int.reduceAdd, Int.reduceSub, Int.reduceMul, Int.reduceToNat, Nat.reduceAdd, noUnk, AV.cells, reduceCtorEq, Nat.reduceLeDiff, Cells.get, Nat.reduceMul, ↓bnd_assoc]
            exact Fin.ret ⟨_, by rw [hcho]; rfl, HP.emp, by rw [hcho]; exact fun _ => Rd.nil, (hy.tail.tail.tail).empty⟩
          · have e : (nameF 102 (atF L 7 6) == nameF 102 (atF L 2 5)) = false := by simpa using hb
            have ho : otherF (atF L 7 6) (nameF 102 (atF L 2 5)) = nameF 102 (atF L 7 6) := by unfold otherF; rw [if_pos ⟨h5, hb⟩]
            rw [ho] at hcho
            simp only [↓g11, nk, nc32, ↓g11b, ↓g11c, conv_i64, r0_17, r1_4, r2_5, r7_6, r7_4, r7_3, r4_4, r3_2, r6_9, r5_3, x0, x1, x2, x3, x4, x5, x6, x7, d1_4, d2_5, d7_4, d3_2, Int.toNat_natCast, Int.natCast_nonneg, and_self, h5', d76, s_neq, e, ↓sxp, sxq, ↓reduceIte, Nat.reduceBEq, Nat.reduceLT, evP, evX, evR, blkOf, evA, storeA, Nat.reduceEqDiff, resL, resV, oneOrTup, Int.reduceEq, Int.reduceLT, Int.reduceLE, Int.reduceNeg, Int.reduceAdd, Int.reduceSub, Int.reduceMul, Int.reduceToNat, Nat.reduceAdd, noUnk, AV.cells, reduceCtorEq, Nat.reduceLeDiff, Cells.get, Nat.reduceMul, ↓bnd_assoc]
            refine Fin.write [.int .i64 2, .str (nameF 117 (atF L 1 4)), .str (nameF 102 (atF L 2 5)), .str [], .str (nameF 102 (atF L 7 6)), .int .i64 0, .int .i64 0, .sl none 0 (.exact 0)] (h11.bump 9) rfl (by simp) rfl fun H12 h12 => ?_
            have gz := h12.get
            simp only [↓gz, ↓hg8, nk, ↓sxp, sxq, ↓reduceIte, Nat.reduceBEq, Nat.reduceLT, evP, evX, evR, blkOf, evA, storeA, Nat.reduceEqDiff, resL, resV, oneOrTup, Int.reduceEq, Int.reduceLT, Int.reduceLE, Int.reduceNeg, Int.reduceAdd, Int.reduceSub, Int.reduceMul, Int.reduceToNat, Nat.reduceAdd, noUnk, AV.cells, reduceCtorEq, Nat.reduceLeDiff, Cells.get, Nat.reduceMul, ↓bnd_assoc]
            refine Fin.write [.int .i64 2, .str (nameF 117 (atF L 1 4)), .str (nameF 102 (atF L 2 5)), .str [], .str (nameF 102 (atF L 7 6)), .int .i64 0, .int .i64 0, .sl none 0 (.exact 0)] (h12.ord [1]) rfl (by simp) rfl fun Hy hy => ?_
            have gy := hy.get
            simp only [↓gy, ↓hg8, ↓sxp, sxq, ↓reduceIte, Nat.reduceBEq, Nat.reduceLT, evP, evX, evR, blkOf, evA, storeA, Nat.reduceEqDiff, resL, resV, oneOrTup, Int.reduceEq, Int.reduceLT, Int.reduceLE, Int.reduceNeg, Int.reduceAdd, Int.reduceSub, Int.reduceMul, Int.reduceToNat, Nat.reduceAdd, noUnk, AV.cells, reduceCtorEq, Nat.reduceLeDiff, Cells.get, Nat.reduceMul, ↓bnd_assoc]
            exact Fin.ret ⟨_, by rw [hcho]; rfl, HP.emp, by rw [hcho]; exact fun _ => Rd.nil, (hy.tail.tail.tail).empty⟩
        · have h5' : ¬ ((atF L 7 6 : Nat) : Int) < 5 := by omega
          have ho : otherF (atF L 7 6) (nameF 102 (atF L 2 5)) = [] := by unfold otherF; rw [if_neg (fun h => h5 h.1)]
          rw [ho] at hcho
          simp only [↓g11, nk, nc32, ↓g11b, ↓g11c, conv_i64, r0_17, r1_4, r2_5, r7_6, r7_4, r7_3, r4_4, r3_2, r6_9, r5_3, x0, x1, x2, x3, x4, x5, x6, x7, d1_4, d2_5, d7_4, d3_2, Int.toNat_natCast, Int.natCast_nonneg, and_self, h5', ↓hg8, ↓sxp, sxq, ↓reduceIte, Nat.reduceBEq, Nat.reduceLT, evP, evX, evR, blkOf, evA, storeA, Nat.reduceEqDiff, resL, resV, oneOrTup, Int.reduceEq, Int.reduceLT, Int.reduceLE, Int.reduceNeg, Int.reduceAdd, Int.reduceSub, Int.reduceMul, Int.reduceToNat, Nat.reduceAdd, noUnk, AV.cells, reduceCtorEq, Nat.reduceLeDiff, Cells.get, Nat.reduceMul, ↓bnd_assoc]
          have h12 := h11.bump 9
          refine Fin.write [.int .i64 2, .str (nameF 117 (atF L 1 4)), .str (nameF 102 (atF L 2 5)), .str [], .str [], .int .i64 0, .int .i64 0, .sl none 0 (.exact 0)] (h12.ord [1]) rfl (by simp) rfl fun Hy hy => ?_
          have gy := hy.get
          simp only [↓gy, ↓hg8, ↓sxp, sxq, ↓reduceIte, Nat.reduceBEq, Nat.reduceLT, evP, evX, evR, blkOf, evA, storeA, Nat.reduceEqDiff, resL, resV, oneOrTup, Int.reduceEq, Int.reduceLT, Int.reduceLE, Int.reduceNeg, Int.reduceAdd, Int.reduceSub, Int.reduceMul, Int.reduceToNat, Nat.reduceAdd, noUnk, AV.cells, reduceCtorEq, Nat.reduceLeDiff, Cells.get, Nat.reduceMul, ↓bnd_assoc]
          exact Fin.ret ⟨_, by rw [hcho]; rfl, HP.emp, by rw [hcho]; exact fun _ => Rd.nil, (hy.tail.tail.tail).empty⟩
      · have nk : ((3 : Nat) : Int) = 3 := rfl
        have hcho : choF L = ⟨3, nameF 117 (atF L 1 4), nameF 102 (atF L 2 5), [], otherF (atF L 7 6) (nameF 102 (atF L 2 5)), 0, 0, []⟩ := by unfold choF; rw [hk]; rfl
        have g11c := (h11.bump 9).get
        have d76 := c_named (W := W) hE 102 (atF L 7 6) (by omega)
        by_cases h5 : atF L 7 6 < 5
        · have h5' : ((atF L 7 6 : Nat) : Int) < 5 := by omega
          by_cases hb : nameF 102 (atF L 7 6) = nameF 102 (atF L 2 5)
          · have e : (nameF 102 (atF L 7 6) == nameF 102 (atF L 2 5)) = true := by rw [hb]; exact beq_self_eq_true _
            have ho : otherF (atF L 7 6) (nameF 102 (atF L 2 5)) = [] := by unfold otherF; rw [if_neg (fun h => h.2 hb)]
            rw [ho] at hcho
            simp only [↓g11, nk, nc32, ↓g11b, ↓g11c, conv_i64, r0_17, r1_4, r2_5, r7_6, r7_4, r7_3, r4_4, r3_2, r6_9, r5_3, x0, x1, x2, x3, x4, x5, x6, x7, d1_4, d2_5, d7_4, d3_2, Int.toNat_natCast, Int.natCast_nonneg, and_self, h5', d76, s_neq, e, ↓hg8, ↓sxp, sxq, ↓reduceIte, Nat.reduceBEq, Nat.reduceLT, evP, evX, evR, blkOf, evA, storeA, Nat.reduceEqDiff, resL, resV, oneOrTup, Int.reduceEq, Int.reduceLT, Int.reduceLE, Int.reduceNeg, Int.reduceAdd, Int.reduceSub, Int.reduceMul, Int.reduceToNat, Nat.reduceAdd, noUnk, AV.cells, reduceCtorEq, Nat.reduceLeDiff, Cells.get, Nat.reduceMul, ↓bnd_assoc]
            have h12 := h11.bump 9
            refine Fin.write [.int .i64 3, .str (nameF 117 (atF L 1 4)), .str (nameF 102 (atF L 2 5)), .str [], .str [], .int .i64 0, .int .i64 0, .sl none 0 (.exact 0)] (h12.ord [1]) rfl (by simp) rfl fun Hy hy => ?_
            have gy := hy.get
            simp only [↓gy, ↓hg8, ↓sxp, sxq, ↓reduceIte, Nat.reduceBEq, Nat.reduceLT, evP, evX, evR, blkOf, evA, storeA, Nat.reduceEqDiff, resL, resV, oneOrTup, Int.reduceEq, Int.reduceLT, Int.reduceLE, Int.reduceNeg, Int.reduceAdd, Int.reduceSub, Int.reduceMul, Int.reduceToNat, Nat.reduceAdd, noUnk, AV.cells, reduceCtorEq, Nat.reduceLeDiff, Cells.get, Nat.reduceMul, ↓bnd_assoc]
            exact Fin.ret ⟨_, by rw [hcho]; rfl, HP.emp, by rw [hcho]; exact fun _ => Rd.nil, (hy.tail.tail.tail).empty⟩
          · have e : (nameF 102 (atF L 7 6) == nameF 102 (atF L 2 5)) = false := by simpa using hb
            have ho : otherF (atF L 7 6) (nameF 102 (atF L 2 5)) = nameF 102 (atF L 7 6) := by unfold otherF; rw [if_pos ⟨h5, hb⟩]
            rw [ho] at hcho
            simp only [↓g11, nk, nc32, ↓g11b, ↓g11c, conv_i64, r0_17, r1_4, r2_5, r7_6, r7_4, r7_3, r4_4, r3_2, r6_9, r5_3, x0, x1, x2, x3, x4, x5, x6, x7, d1_4, d2_5, d7_4, d3_2, Int.toNat_natCast, Int.natCast_nonneg, and_self, h5', d76, s_neq, e, ↓sxp, sxq, ↓reduceIte, Nat.reduceBEq, Nat.reduceLT, evP, evX, evR, blkOf, evA, storeA, Nat.reduceEqDiff, resL, resV, oneOrTup, Int.reduceEq, Int.reduceLT, Int.reduceLE, Int.reduceNeg, Int.reduceAdd, Int.reduceSub, Int.reduceMul, Int.reduceToNat, Nat.reduceAdd, noUnk, AV.cells, reduceCtorEq, Nat.reduceLeDiff, Cells.get, Nat.reduceMul, ↓bnd_assoc]
            refine Fin.write [.int .i64 3, .str (nameF 117 (atF L 1 4)), .str (nameF 102 (atF L 2 5)), .str [], .str (nameF 102 (atF L 7 6)), .int .i64 0, .int .i64 0, .sl none 0 (.exact 0)] (h11.bump 9) rfl (by simp) rfl fun H12 h12 => ?_
            have gz := h12.get
            simp only [↓gz, ↓hg8, nk, ↓sxp, sxq, ↓reduceIte, Nat.reduceBEq, Nat.reduceLT, evP, evX, evR, blkOf, evA, storeA, Nat.reduceEqDiff, resL, resV, oneOrTup, Int.reduceEq, Int.reduceLT, Int.reduceLE, Int.reduceNeg, Int.reduceAdd, Int.reduceSub, Int.reduceMul, Int.reduceToNat, Nat.reduceAdd, noUnk, AV.cells, reduceCtorEq, Nat.reduceLeDiff, Cells.get, Nat.reduceMul, ↓bnd_assoc]
            refine Fin.write [.int .i64 3, .str (nameF 117 (atF L 1 4)), .str (nameF 102 (atF L 2 5)), .str [], .str (nameF 102 (atF L 7 6)), .int .i64 0, .int .i64 0, .sl none 0 (.exact 0)] (h12.ord [1]) rfl (by simp) rfl fun Hy hy => ?_
            have gy := hy.get
            simp only [↓gy, ↓hg8, ↓sxp, sxq, ↓reduceIte, Nat.reduceBEq, Nat.reduceLT, evP, evX, evR, blkOf, evA, storeA, Nat.reduceEqDiff, resL, resV, oneOrTup, Int.reduceEq, Int.reduceLT, Int.reduceLE, Int.reduceNeg, Int.reduceAdd, Int.reduceSub, Int.reduceMul, Int.reduceToNat, Nat.reduceAdd, noUnk, AV.cells, reduceCtorEq, Nat.reduceLeDiff, Cells.get, Nat.reduceMul, ↓bnd_assoc]
            exact Fin.ret ⟨_, by rw [hcho]; rfl, HP.emp, by rw [hcho]; exact fun _ => Rd.nil, (hy.tail.tail.tail).empty⟩
        · have h5' : ¬ ((atF L 7 6 : Nat) : Int) < 5 := by omega
          have ho : otherF (atF L 7 6) (nameF 102 (atF L 2 5)) = [] := by unfold otherF; rw [if_neg (fun h => h5 h.1)]
          rw [ho] at hcho
          simp only [↓g11, nk, nc32, ↓g11b, ↓g11c, conv_i64, r0_17, r1_4, r2_5, r7_6, r7_4, r7_3, r4_4, r3_2, r6_9, r5_3, x0, x1, x2, x3, x4, x5, x6, x7, d1_4, d2_5, d7_4, d3_2, Int.toNat_natCast, Int.natCast_nonneg, and_self, h5', ↓hg8, ↓sxp, sxq, ↓reduceIte, Nat.reduceBEq, Nat.reduceLT, evP, evX, evR, blkOf, evA, storeA, Nat.reduceEqDiff, resL, resV, oneOrTup, Int.reduceEq, Int.reduceLT, Int.reduceLE, Int.reduceNeg, Int.reduceAdd, Int.reduceSub, Int.reduceMul, Int.reduceToNat, Nat.reduceAdd, noUnk, AV.cells, reduceCtorEq, Nat.reduceLeDiff, Cells.get, Nat.reduceMul, ↓bnd_assoc]
          have h12 := h11.bump 9
          refine Fin.write [.int .i64 3, .str (nameF 117 (atF L 1 4)), .str (nameF 102 (atF L 2 5)), .str [], .str [], .int .i64 0, .int .i64 0, .sl none 0 (.exact 0)] (h12.ord [1]) rfl (by simp) rfl fun Hy hy => ?_
          have gy := hy.get
          simp only [↓gy, ↓hg8, ↓sxp, sxq, ↓reduceIte, Nat.reduceBEq, Nat.reduceLT, evP, evX, evR, blkOf, evA, storeA, Nat.reduceEqDiff, resL, resV, oneOrTup, Int.reduceEq, Int.reduceLT, Int.reduceLE, Int.reduceNeg, Int.reduceAdd, Int.reduceSub, Int.reduceMul, Int.reduceToNat, Nat.reduceAdd, noUnk, AV.cells, reduceCtorEq, Nat.reduceLeDiff, Cells.get, Nat.reduceMul, ↓bnd_assoc]
          exact Fin.ret ⟨_, by rw [hcho]; rfl, HP.emp, by rw [hcho]; exact fun _ => Rd.nil, (hy.tail.tail.tail).empty⟩
      · have nk : ((4 : Nat) : Int) = 4 := rfl
        have hcho : choF L = ⟨4, nameF 117 (atF L 1 4), nameF 102 (atF L 2 5), [], [], 0, 0, []⟩ := by unfold choF; rw [hk]; rfl
        simp only [↓g11, nk, nc32, ↓g11b, ↓hg8, ↓sxp, sxq, ↓reduceIte, Nat.reduceBEq, Nat.reduceLT, evP, evX, evR, blkOf, evA, storeA, Nat.reduceEqDiff, resL, resV, oneOrTup, Int.reduceEq, Int.reduceLT, Int.reduceLE, Int.reduceNeg, Int.reduceAdd, Int.reduceSub, Int.reduceMul, Int.reduceToNat, Nat.reduceAdd, noUnk, AV.cells, reduceCtorEq, Nat.reduceLeDiff, Cells.get, Nat.reduceMul, ↓bnd_assoc]
        refine Fin.write [.int .i64 4, .str (nameF 117 (atF L 1 4)), .str (nameF 102 (atF L 2 5)), .str [], .str [], .int .i64 0, .int .i64 0, .sl none 0 (.exact 0)] (h11.ord [1]) rfl (by simp) rfl fun Hy hy => ?_
        have gy := hy.get
        simp only [↓gy, ↓hg8, ↓sxp, sxq, ↓reduceIte, Nat.reduceBEq, Nat.reduceLT, evP, evX, evR, blkOf, evA, storeA, Nat.reduceEqDiff, resL, resV, oneOrTup, Int.reduceEq, Int.reduceLT, Int.reduceLE, Int.reduceNeg, Int.reduceAdd, Int.reduceSub, Int.reduceMul, Int.reduceToNat, Nat.reduceAdd, noUnk, AV.cells, reduceCtorEq, Nat.reduceLeDiff, Cells.get, Nat.reduceMul, ↓bnd_assoc]
        exact Fin.ret ⟨_, by rw [hcho]; rfl, HP.emp, by rw [hcho]; exact fun _ => Rd.nil, (hy.tail.tail.tail).empty⟩
      · have nk : ((5 : Nat) : Int) = 5 := rfl
        have hcho : choF L = ⟨5, nameF 117 (atF L 1 4), nameF 102 (atF L 2 5), [], nameF 117 (atF L 7 4), 1 + atF L 4 4, 0, []⟩ := by unfold choF; rw [hk]; rfl
        have w1 : IntKind.i64.wrap (1 + ((atF L 4 4 : Nat) : Int)) = ((1 + atF L 4 4 : Nat) : Int) := by rw [w64 (by omega)]; omega
        simp only [↓g11, nk, nc32, ↓g11b, conv_i64, r0_17, r1_4, r2_5, r7_6, r7_4, r7_3, r4_4, r3_2, r6_9, r5_3, x0, x1, x2, x3, x4, x5, x6, x7, d1_4, d2_5, d7_4, d3_2, Int.toNat_natCast, Int.natCast_nonneg, and_self, ↓sxp, sxq, ↓reduceIte, Nat.reduceBEq, Nat.reduceLT, evP, evX, evR, blkOf, evA, storeA, Nat.reduceEqDiff, resL, resV, oneOrTup, Int.reduceEq, Int.reduceLT, Int.reduceLE, Int.reduceNeg, Int.reduceAdd, Int.reduceSub, Int.reduceMul, Int.reduceToNat, Nat.reduceAdd, noUnk, AV.cells, reduceCtorEq, Nat.reduceLeDiff, Cells.get, Nat.reduceMul, ↓bnd_assoc]
        refine Fin.write [.int .i64 5, .str (nameF 117 (atF L 1 4)), .str (nameF 102 (atF L 2 5)), .str [], .str (nameF 117 (atF L 7 4)), .int .i64 0, .int .i64 0, .sl none 0 (.exact 0)] h11 rfl (by simp) rfl fun H12 h12 => ?_
        have g12 := h12.get
        have g12b := (h12.ord [2]).get
        simp only [↓g12, nk, nc32, ↓g12b, conv_i64, r0_17, r1_4, r2_5, r7_6, r7_4, r7_3, r4_4, r3_2, r6_9, r5_3, x0, x1, x2, x3, x4, x5, x6, x7, d1_4, d2_5, d7_4, d3_2, Int.toNat_natCast, Int.natCast_nonneg, and_self, w1, ↓sxp, sxq, ↓reduceIte, Nat.reduceBEq, Nat.reduceLT, evP, evX, evR, blkOf, evA, storeA, Nat.reduceEqDiff, resL, resV, oneOrTup, Int.reduceEq, Int.reduceLT, Int.reduceLE, Int.reduceNeg, Int.reduceAdd, Int.reduceSub, Int.reduceMul, Int.reduceToNat, Nat.reduceAdd, noUnk, AV.cells, reduceCtorEq, Nat.reduceLeDiff, Cells.get, Nat.reduceMul, ↓bnd_assoc]
        refine Fin.write [.int .i64 5, .str (nameF 117 (atF L 1 4)), .str (nameF 102 (atF L 2 5)), .str [], .str (nameF 117 (atF L 7 4)), .int .i64 ((1 + atF L 4 4 : Nat) : Int), .int .i64 0, .sl none 0 (.exact 0)] h12 rfl (by simp) rfl fun H13 h13 => ?_
        have gz := h13.get
        simp only [↓gz, ↓hg8, nk, ↓sxp, sxq, ↓reduceIte, Nat.reduceBEq, Nat.reduceLT, evP, evX, evR, blkOf, evA, storeA, Nat.reduceEqDiff, resL, resV, oneOrTup, Int.reduceEq, Int.reduceLT, Int.reduceLE, Int.reduceNeg, Int.reduceAdd, Int.reduceSub, Int.reduceMul, Int.reduceToNat, Nat.reduceAdd, noUnk, AV.cells, reduceCtorEq, Nat.reduceLeDiff, Cells.get, Nat.reduceMul, ↓bnd_assoc]
        refine Fin.write [.int .i64 5, .str (nameF 117 (atF L 1 4)), .str (nameF 102 (atF L 2 5)), .str [], .str (nameF 117 (atF L 7 4)), .int .i64 ((1 + atF L 4 4 : Nat) : Int), .int .i64 0, .sl none 0 (.exact 0)] (h13.ord [1]) rfl (by simp) rfl fun Hy hy => ?_
        have gy := hy.get
        simp only [↓gy, ↓hg8, ↓sxp, sxq, ↓reduceIte, Nat.reduceBEq, Nat.reduceLT, evP, evX, evR, blkOf, evA, storeA, Nat.reduceEqDiff, resL, resV, oneOrTup, Int.reduceEq, Int.reduceLT, Int.reduceLE, Int.reduceNeg, Int.reduceAdd, Int.reduceSub, Int.reduceMul, Int.reduceToNat, Nat.reduceAdd, noUnk, AV.cells, reduceCtorEq, Nat.reduceLeDiff, Cells.get, Nat.reduceMul, ↓bnd_assoc]
        exact Fin.ret ⟨_, by rw [hcho]; rfl, HP.emp, by rw [hcho]; exact fun _ => Rd.nil, (hy.tail.tail.tail).empty⟩
      · have nk : ((6 : Nat) : Int) = 6 := rfl
        have hcho : choF L = ⟨6, nameF 117 (atF L 1 4), nameF 102 (atF L 2 5), [], nameF 117 (atF L 7 4), 1 + atF L 4 4, 0, []⟩ := by unfold choF; rw [hk]; rfl
        have w1 : IntKind.i64.wrap (1 + ((atF L 4 4 : Nat) : Int)) = ((1 + atF L 4 4 : Nat) : Int) := by rw [w64 (by omega)]; omega
        simp only [↓g11, nk, nc32, ↓g11b, conv_i64, r0_17, r1_4, r2_5, r7_6, r7_4, r7_3, r4_4, r3_2, r6_9, r5_3, x0, x1, x2, x3, x4, x5, x6, x7, d1_4, d2_5, d7_4, d3_2, Int.toNat_natCast, Int.natCast_nonneg, and_self, ↓sxp, sxq, ↓reduceIte, Nat.reduceBEq, Nat.reduceLT, evP, evX, evR, blkOf, evA, storeA, Nat.reduceEqDiff, resL, resV, oneOrTup, Int.reduceEq, Int.reduceLT, Int.reduceLE, Int.reduceNeg, Int.reduceAdd, Int.reduceSub, Int.reduceMul, Int.reduceToNat, Nat.reduceAdd, noUnk, AV.cells, reduceCtorEq, Nat.reduceLeDiff, Cells.get, Nat.reduceMul, ↓bnd_assoc]
        refine Fin.write [.int .i64 6, .str (nameF 117 (atF L 1 4)), .str (nameF 102 (atF L 2 5)), .str [], .str (nameF 117 (atF L 7 4)), .int .i64 0, .int .i64 0, .sl none 0 (.exact 0)] h11 rfl (by simp) rfl fun H12 h12 => ?_
        have g12 := h12.get
        have g12b := (h12.ord [2]).get
        simp only [↓g12, nk, nc32, ↓g12b, conv_i64, r0_17, r1_4, r2_5, r7_6, r7_4, r7_3, r4_4, r3_2, r6_9, r5_3, x0, x1, x2, x3, x4, x5, x6, x7, d1_4, d2_5, d7_4, d3_2, Int.toNat_natCast, Int.natCast_nonneg, and_self, w1, ↓sxp, sxq, ↓reduceIte, Nat.reduceBEq, Nat.reduceLT, evP, evX, evR, blkOf, evA, storeA, Nat.reduceEqDiff, resL, resV, oneOrTup, Int.reduceEq, Int.reduceLT, Int.reduceLE, Int.reduceNeg, Int.reduceAdd, Int.reduceSub, Int.reduceMul, Int.reduceToNat, Nat.reduceAdd, noUnk, AV.cells, reduceCtorEq, Nat.reduceLeDiff, Cells.get, Nat.reduceMul, ↓bnd_assoc]
        refine Fin.write [.int .i64 6, .str (nameF 117 (atF L 1 4)), .str (nameF 102 (atF L 2 5)), .str [], .str (nameF 117 (atF L 7 4)), .int .i64 ((1 + atF L 4 4 : Nat) : Int), .int .i64 0, .sl none 0 (.exact 0)] h12 rfl (by simp) rfl fun H13 h13 => ?_
        have gz := h13.get
        simp only [↓gz, ↓hg8, nk, ↓sxp, sxq, ↓reduceIte, Nat.reduceBEq, Nat.reduceLT, evP, evX, evR, blkOf, evA, storeA, Nat.reduceEqDiff, resL, resV, oneOrTup, Int.reduceEq, Int.reduceLT, Int.reduceLE, Int.reduceNeg, Int.reduceAdd, Int.reduceSub, Int.reduceMul, Int.reduceToNat, Nat.reduceAdd, noUnk, AV.cells, reduceCtorEq, Nat.reduceLeDiff, Cells.get, Nat.reduceMul, ↓bnd_assoc]
        refine Fin.write [.int .i64 6, .str (nameF 117 (atF L 1 4)), .str (nameF 102 (atF L 2 5)), .str [], .str (nameF 117 (atF L 7 4)), .int .i64 ((1 + atF L 4 4 : Nat) : Int), .int .i64 0, .sl none 0 (.exact 0)] (h13.ord [1]) rfl (by simp) rfl fun Hy hy => ?_
        have gy := hy.get
        simp only [↓gy, ↓hg8, ↓sxp, sxq, ↓reduceIte, Nat.reduceBEq, Nat.reduceLT, evP, evX, evR, blkOf, evA, storeA, Nat.reduceEqDiff, resL, resV, oneOrTup, Int.reduceEq, Int.reduceLT, Int.reduceLE, Int.reduceNeg, Int.reduceAdd, Int.reduceSub, Int.reduceMul, Int.reduceToNat, Nat.reduceAdd, noUnk, AV.cells, reduceCtorEq, Nat.reduceLeDiff, Cells.get, Nat.reduceMul, ↓bnd_assoc]
        exact Fin.ret ⟨_, by rw [hcho]; rfl, HP.emp, by rw [hcho]; exact fun _ => Rd.nil, (hy.tail.tail.tail).empty⟩
      · have nk : ((7 : Nat) : Int) = 7 := rfl
        have hcho : choF L = ⟨7, nameF 117 (atF L 1 4), nameF 102 (atF L 2 5), [], nameF 117 (atF L 7 4), 0, 0, []⟩ := by unfold choF; rw [hk]; rfl
        simp only [↓g11, nk, nc32, ↓g11b, conv_i64, r0_17, r1_4, r2_5, r7_6, r7_4, r7_3, r4_4, r3_2, r6_9, r5_3, x0, x1, x2, x3, x4, x5, x6, x7, d1_4, d2_5, d7_4, d3_2, Int.toNat_natCast, Int.natCast_nonneg, and_self, ↓sxp, sxq, ↓reduceIte, Nat.reduceBEq, Nat.reduceLT, evP, evX, evR, blkOf, evA, storeA, Nat.reduceEqDiff, resL, resV, oneOrTup, Int.reduceEq, Int.reduceLT, Int.reduceLE, Int.reduceNeg, Int.reduceAdd, Int.reduceSub, Int.reduceMul, Int.reduceToNat, Nat.reduceAdd, noUnk, AV.cells, reduceCtorEq, Nat.reduceLeDiff, Cells.get, Nat.reduceMul, ↓bnd_assoc]
        refine Fin.write [.int .i64 7, .str (nameF 117 (atF L 1 4)), .str (nameF 102 (atF L 2 5)), .str [], .str (nameF 117 (atF L 7 4)), .int .i64 0, .int .i64 0, .sl none 0 (.exact 0)] h11 rfl (by simp) rfl fun H12 h12 => ?_
        have gz := h12.get
        simp only [↓gz, ↓hg8, nk, ↓sxp, sxq, ↓reduceIte, Nat.reduceBEq, Nat.reduceLT, evP, evX, evR, blkOf, evA, storeA, Nat.reduceEqDiff, resL, resV, oneOrTup, Int.reduceEq, Int.reduceLT, Int.reduceLE, Int.reduceNeg, Int.reduceAdd, Int.reduceSub, Int.reduceMul, Int.reduceToNat, Nat.reduceAdd, noUnk, AV.cells, reduceCtorEq, Nat.reduceLeDiff, Cells.get, Nat.reduceMul, ↓bnd_assoc]
        refine Fin.write [.int .i64 7, .str (nameF 117 (atF L 1 4)), .str (nameF 102 (atF L 2 5)), .str [], .str (nameF 117 (atF L 7 4)), .int .i64 0, .int .i64 0, .sl none 0 (.exact 0)] (h12.ord [1]) rfl (by simp) rfl fun Hy hy => ?_
        have gy := hy.get
        simp only [↓gy, ↓hg8, ↓sxp, sxq, ↓reduceIte, Nat.reduceBEq, Nat.reduceLT, evP, evX, evR, blkOf, evA, storeA, Nat.reduceEqDiff, resL, resV, oneOrTup, Int.reduceEq, Int.reduceLT, Int.reduceLE, Int.reduceNeg, Int.reduceAdd, Int.reduceSub, Int.reduceMul, Int.reduceToNat, Nat.reduceAdd, noUnk, AV.cells, reduceCtorEq, Nat.reduceLeDiff, Cells.get, Nat.reduceMul, ↓bnd_assoc]
        exact Fin.ret ⟨_, by rw [hcho]; rfl, HP.emp, by rw [hcho]; exact fun _ => Rd.nil, (hy.tail.tail.tail).empty⟩
      · have nk : ((8 : Nat) : Int) = 8 := rfl
        have hcho : choF L = ⟨8, nameF 117 (atF L 1 4), nameF 102 (atF L 2 5), nameF 120 (atF L 3 2), [], 0, 0, (L.drop 16).take (atF L 6 9)⟩ := by unfold choF; rw [hk]; rfl
        simp only [↓g11, nk, nc32, ↓g11b, conv_i64, r0_17, r1_4, r2_5, r7_6, r7_4, r7_3, r4_4, r3_2, r6_9, r5_3, x0, x1, x2, x3, x4, x5, x6, x7, d1_4, d2_5, d7_4, d3_2, Int.toNat_natCast, Int.natCast_nonneg, and_self, ↓sxp, sxq, ↓reduceIte, Nat.reduceBEq, Nat.reduceLT, evP, evX, evR, blkOf, evA, storeA, Nat.reduceEqDiff, resL, resV, oneOrTup, Int.reduceEq, Int.reduceLT, Int.reduceLE, Int.reduceNeg, Int.reduceAdd, Int.reduceSub, Int.reduceMul, Int.reduceToNat, Nat.reduceAdd, noUnk, AV.cells, reduceCtorEq, Nat.reduceLeDiff, Cells.get, Nat.reduceMul, ↓bnd_assoc]
        refine Fin.write [.int .i64 8, .str (nameF 117 (atF L 1 4)), .str (nameF 102 (atF L 2 5)), .str (nameF 120 (atF L 3 2)), .str [], .int .i64 0, .int .i64 0, .sl none 0 (.exact 0)] h11 rfl (by simp) rfl fun H12 h12 => ?_
        refine Fin.loop (cd_loop (Γ := blk j4 c0 29 :: Γ) (j9 := j9) (j5 := j5) hl (atF L 6 9) 0 _ _ (.sl none 0 (.exact 0)) (by omega) (by simp only [↓sxp, sxq, ↓reduceIte, Nat.reduceBEq, Nat.reduceLT, evP, evX, evR, blkOf, evA, storeA, Nat.reduceEqDiff, resL, resV, oneOrTup, Int.reduceEq, Int.reduceLT, Int.reduceLE, Int.reduceNeg, Int.reduceAdd, Int.reduceSub, Int.reduceMul, Int.reduceToNat, Nat.reduceAdd, noUnk, AV.cells, reduceCtorEq, Nat.reduceLeDiff, Cells.get, Nat.reduceMul, ↓bnd_assoc]) (by simp only [↓sxp, sxq, ↓reduceIte, Nat.reduceBEq, Nat.reduceLT, evP, evX, evR, blkOf, evA, storeA, Nat.reduceEqDiff, resL, resV, oneOrTup, Int.reduceEq, Int.reduceLT, Int.reduceLE, Int.reduceNeg, Int.reduceAdd, Int.reduceSub, Int.reduceMul, Int.reduceToNat, Nat.reduceAdd, noUnk, AV.cells, reduceCtorEq, Nat.reduceLeDiff, Cells.get, Nat.reduceMul, ↓bnd_assoc]) (by simp only [↓sxp, sxq, ↓reduceIte, Nat.reduceBEq, Nat.reduceLT, evP, evX, evR, blkOf, evA, storeA, Nat.reduceEqDiff, resL, resV, oneOrTup, Int.reduceEq, Int.reduceLT, Int.reduceLE, Int.reduceNeg, Int.reduceAdd, Int.reduceSub, Int.reduceMul, Int.reduceToNat, Nat.reduceAdd, noUnk, AV.cells, reduceCtorEq, Nat.reduceLeDiff, Cells.get, Nat.reduceMul, ↓bnd_assoc]; rfl) (.inl ((h12.ord [0, 1]).row_nil))) fun lv A H13 ⟨e1, b4, b9, dv, h13⟩ => ?_
        subst e1
        have b4' : getX A 4 = .ptr (some ⟨.own j4, 0⟩) := b4.trans (by simp only [↓sxp, sxq, ↓reduceIte, Nat.reduceBEq, Nat.reduceLT, evP, evX, evR, blkOf, evA, storeA, Nat.reduceEqDiff, resL, resV, oneOrTup, Int.reduceEq, Int.reduceLT, Int.reduceLE, Int.reduceNeg, Int.reduceAdd, Int.reduceSub, Int.reduceMul, Int.reduceToNat, Nat.reduceAdd, noUnk, AV.cells, reduceCtorEq, Nat.reduceLeDiff, Cells.get, Nat.reduceMul, ↓bnd_assoc])
        have b9' : getX A 9 = .ptr (some ⟨.own j9, 0⟩) := b9.trans (by simp only [↓sxp, sxq, ↓reduceIte, Nat.reduceBEq, Nat.reduceLT, evP, evX, evR, blkOf, evA, storeA, Nat.reduceEqDiff, resL, resV, oneOrTup, Int.reduceEq, Int.reduceLT, Int.reduceLE, Int.reduceNeg, Int.reduceAdd, Int.reduceSub, Int.reduceMul, Int.reduceToNat, Nat.reduceAdd, noUnk, AV.cells, reduceCtorEq, Nat.reduceLeDiff, Cells.get, Nat.reduceMul, ↓bnd_assoc])
        have h14 := h13.toH
        obtain ⟨u1, u2, u3⟩ := (RdLike.xh (W := W) _ dv h14).one
        have gz := (h14.ord [1]).get
        simp only [b4', b9', ↓gz, ↓hg8, ↓sxp, sxq, ↓reduceIte, Nat.reduceBEq, Nat.reduceLT, evP, evX, evR, blkOf, evA, storeA, Nat.reduceEqDiff, resL, resV, oneOrTup, Int.reduceEq, Int.reduceLT, Int.reduceLE, Int.reduceNeg, Int.reduceAdd, Int.reduceSub, Int.reduceMul, Int.reduceToNat, Nat.reduceAdd, noUnk, AV.cells, reduceCtorEq, Nat.reduceLeDiff, Cells.get, Nat.reduceMul, ↓bnd_assoc]
        refine Fin.write [.int .i64 8, .str (nameF 117 (atF L 1 4)), .str (nameF 102 (atF L 2 5)), .str (nameF 120 (atF L 3 2)), .str [], .int .i64 0, .int .i64 0, dv] (h14.ord [3]) rfl (by simp) (by simp only [List.all_cons, List.all_nil, u3]; rfl) fun Hy hy => ?_
        have gy := hy.get
        simp only [b4', ↓gy, ↓hg8, ↓sxp, sxq, ↓reduceIte, Nat.reduceBEq, Nat.reduceLT, evP, evX, evR, blkOf, evA, storeA, Nat.reduceEqDiff, resL, resV, oneOrTup, Int.reduceEq, Int.reduceLT, Int.reduceLE, Int.reduceNeg, Int.reduceAdd, Int.reduceSub, Int.reduceMul, Int.reduceToNat, Nat.reduceAdd, noUnk, AV.cells, reduceCtorEq, Nat.reduceLeDiff, Cells.get, Nat.reduceMul, ↓bnd_assoc]
        exact Fin.ret ⟨_, by rw [hcho]; rfl, HP.xh ((L.drop 16).take (atF L 6 9)) dv, by rw [hcho]; exact RdLike.xh _ dv, ((hy.tail).rm 1).rm 1⟩
      · have nk : ((9 : Nat) : Int) = 9 := rfl
        have hcho : choF L = ⟨9, nameF 117 (atF L 1 4), nameF 102 (atF L 2 5), nameF 120 (atF L 3 2), [], 0, atF L 5 3, []⟩ := by unfold choF; rw [hk]; rfl
        simp only [↓g11, nk, nc32, ↓g11b, conv_i64, r0_17, r1_4, r2_5, r7_6, r7_4, r7_3, r4_4, r3_2, r6_9, r5_3, x0, x1, x2, x3, x4, x5, x6, x7, d1_4, d2_5, d7_4, d3_2, Int.toNat_natCast, Int.natCast_nonneg, and_self, ↓sxp, sxq, ↓reduceIte, Nat.reduceBEq, Nat.reduceLT, evP, evX, evR, blkOf, evA, storeA, Nat.reduceEqDiff, resL, resV, oneOrTup, Int.reduceEq, Int.reduceLT, Int.reduceLE, Int.reduceNeg, Int.reduceAdd, Int.reduceSub, Int.reduceMul, Int.reduceToNat, Nat.reduceAdd, noUnk, AV.cells, reduceCtorEq, Nat.reduceLeDiff, Cells.get, Nat.reduceMul, ↓bnd_assoc]
        refine Fin.write [.int .i64 9, .str (nameF 117 (atF L 1 4)), .str (nameF 102 (atF L 2 5)), .str (nameF 120 (atF L 3 2)), .str [], .int .i64 0, .int .i64 0, .sl none 0 (.exact 0)] h11 rfl (by simp) rfl fun H12 h12 => ?_
        have g12 := h12.get
        have g12b := (h12.ord [2]).get
        simp only [↓g12, nk, nc32, ↓g12b, conv_i64, r0_17, r1_4, r2_5, r7_6, r7_4, r7_3, r4_4, r3_2, r6_9, r5_3, x0, x1, x2, x3, x4, x5, x6, x7, d1_4, d2_5, d7_4, d3_2, Int.toNat_natCast, Int.natCast_nonneg, and_self, ↓sxp, sxq, ↓reduceIte, Nat.reduceBEq, Nat.reduceLT, evP, evX, evR, blkOf, evA, storeA, Nat.reduceEqDiff, resL, resV, oneOrTup, Int.reduceEq, Int.reduceLT, Int.reduceLE, Int.reduceNeg, Int.reduceAdd, Int.reduceSub, Int.reduceMul, Int.reduceToNat, Nat.reduceAdd, noUnk, AV.cells, reduceCtorEq, Nat.reduceLeDiff, Cells.get, Nat.reduceMul, ↓bnd_assoc]
        refine Fin.write [.int .i64 9, .str (nameF 117 (atF L 1 4)), .str (nameF 102 (atF L 2 5)), .str (nameF 120 (atF L 3 2)), .str [], .int .i64 0, .int .i64 ((atF L 5 3 : Nat) : Int), .sl none 0 (.exact 0)] h12 rfl (by simp) rfl fun H13 h13 => ?_
        have gz := h13.get
        simp only [↓gz, ↓hg8, nk, ↓sxp, sxq, ↓reduceIte, Nat.reduceBEq, Nat.reduceLT, evP, evX, evR, blkOf, evA, storeA, Nat.reduceEqDiff, resL, resV, oneOrTup, Int.reduceEq, Int.reduceLT, Int.reduceLE, Int.reduceNeg, Int.reduceAdd, Int.reduceSub, Int.reduceMul, Int.reduceToNat, Nat.reduceAdd, noUnk, AV.cells, reduceCtorEq, Nat.reduceLeDiff, Cells.get, Nat.reduceMul, ↓bnd_assoc]
        refine Fin.write [.int .i64 9, .str (nameF 117 (atF L 1 4)), .str (nameF 102 (atF L 2 5)), .str (nameF 120 (atF L 3 2)), .str [], .int .i64 0, .int .i64 ((atF L 5 3 : Nat) : Int), .sl none 0 (.exact 0)] (h13.ord [1]) rfl (by simp) rfl fun Hy hy => ?_
        have gy := hy.get
        simp only [↓gy, ↓hg8, ↓sxp, sxq, ↓reduceIte, Nat.reduceBEq, Nat.reduceLT, evP, evX, evR, blkOf, evA, storeA, Nat.reduceEqDiff, resL, resV, oneOrTup, Int.reduceEq, Int.reduceLT, Int.reduceLE, Int.reduceNeg, Int.reduceAdd, Int.reduceSub, Int.reduceMul, Int.reduceToNat, Nat.reduceAdd, noUnk, AV.cells, reduceCtorEq, Nat.reduceLeDiff, Cells.get, Nat.reduceMul, ↓bnd_assoc]
        exact Fin.ret ⟨_, by rw [hcho]; rfl, HP.emp, by rw [hcho]; exact fun _ => Rd.nil, (hy.tail.tail.tail).empty⟩
      · have nk : ((10 : Nat) : Int) = 10 := rfl
        have hcho : choF L = ⟨10, nameF 117 (atF L 1 4), nameF 102 (atF L 2 5), [], [], 0, 0, []⟩ := by unfold choF; rw [hk]; rfl
        simp only [↓g11, nk, nc32, ↓g11b, ↓hg8, ↓sxp, sxq, ↓reduceIte, Nat.reduceBEq, Nat.reduceLT, evP, evX, evR, blkOf, evA, storeA, Nat.reduceEqDiff, resL, resV, oneOrTup, Int.reduceEq, Int.reduceLT, Int.reduceLE, Int.reduceNeg, Int.reduceAdd, Int.reduceSub, Int.reduceMul, Int.reduceToNat, Nat.reduceAdd, noUnk, AV.cells, reduceCtorEq, Nat.reduceLeDiff, Cells.get, Nat.reduceMul, ↓bnd_assoc]
        refine Fin.write [.int .i64 10, .str (nameF 117 (atF L 1 4)), .str (nameF 102 (atF L 2 5)), .str [], .str [], .int .i64 0, .int .i64 0, .sl none 0 (.exact 0)] (h11.ord [1]) rfl (by simp) rfl fun Hy hy => ?_
        have gy := hy.get
        simp only [↓gy, ↓hg8, ↓sxp, sxq, ↓reduceIte, Nat.reduceBEq, Nat.reduceLT, evP, evX, evR, blkOf, evA, storeA, Nat.reduceEqDiff, resL, resV, oneOrTup, Int.reduceEq, Int.reduceLT, Int.reduceLE, Int.reduceNeg, Int.reduceAdd, Int.reduceSub, Int.reduceMul, Int.reduceToNat, Nat.reduceAdd, noUnk, AV.cells, reduceCtorEq, Nat.reduceLeDiff, Cells.get, Nat.reduceMul, ↓bnd_assoc]
        exact Fin.ret ⟨_, by rw [hcho]; rfl, HP.emp, by rw [hcho]; exact fun _ => Rd.nil, (hy.tail.tail.tail).empty⟩
      · have nk : ((11 : Nat) : Int) = 11 := rfl
        have hcho : choF L = ⟨11, nameF 117 (atF L 1 4), nameF 102 (atF L 2 5), nameF 120 (atF L 3 2), [], 0, 0, []⟩ := by unfold choF; rw [hk]; rfl
        simp only [↓g11, nk, nc32, ↓g11b, conv_i64, r0_17, r1_4, r2_5, r7_6, r7_4, r7_3, r4_4, r3_2, r6_9, r5_3, x0, x1, x2, x3, x4, x5, x6, x7, d1_4, d2_5, d7_4, d3_2, Int.toNat_natCast, Int.natCast_nonneg, and_self, ↓sxp, sxq, ↓reduceIte, Nat.reduceBEq, Nat.reduceLT, evP, evX, evR, blkOf, evA, storeA, Nat.reduceEqDiff, resL, resV, oneOrTup, Int.reduceEq, Int.reduceLT, Int.reduceLE, Int.reduceNeg, Int.reduceAdd, Int.reduceSub, Int.reduceMul, Int.reduceToNat, Nat.reduceAdd, noUnk, AV.cells, reduceCtorEq, Nat.reduceLeDiff, Cells.get, Nat.reduceMul, ↓bnd_assoc]
        refine Fin.write [.int .i64 11, .str (nameF 117 (atF L 1 4)), .str (nameF 102 (atF L 2 5)), .str (nameF 120 (atF L 3 2)), .str [], .int .i64 0, .int .i64 0, .sl none 0 (.exact 0)] h11 rfl (by simp) rfl fun H12 h12 => ?_
        have gz := h12.get
        simp only [↓gz, ↓hg8, nk, ↓sxp, sxq, ↓reduceIte, Nat.reduceBEq, Nat.reduceLT, evP, evX, evR, blkOf, evA, storeA, Nat.reduceEqDiff, resL, resV, oneOrTup, Int.reduceEq, Int.reduceLT, Int.reduceLE, Int.reduceNeg, Int.reduceAdd, Int.reduceSub, Int.reduceMul, Int.reduceToNat, Nat.reduceAdd, noUnk, AV.cells, reduceCtorEq, Nat.reduceLeDiff, Cells.get, Nat.reduceMul, ↓bnd_assoc]
        refine Fin.write [.int .i64 11, .str (nameF 117 (atF L 1 4)), .str (nameF 102 (atF L 2 5)), .str (nameF 120 (atF L 3 2)), .str [], .int .i64 0, .int .i64 0, .sl none 0 (.exact 0)] (h12.ord [1]) rfl (by simp) rfl fun Hy hy => ?_
        have gy := hy.get
        simp only [↓gy, ↓hg8, ↓sxp, sxq, ↓reduceIte, Nat.reduceBEq, Nat.reduceLT, evP, evX, evR, blkOf, evA, storeA, Nat.reduceEqDiff, resL, resV, oneOrTup, Int.reduceEq, Int.reduceLT, Int.reduceLE, Int.reduceNeg, Int.reduceAdd, Int.reduceSub, Int.reduceMul, Int.reduceToNat, Nat.reduceAdd, noUnk, AV.cells, reduceCtorEq, Nat.reduceLeDiff, Cells.get, Nat.reduceMul, ↓bnd_assoc]
        exact Fin.ret ⟨_, by rw [hcho]; rfl, HP.emp, by rw [hcho]; exact fun _ => Rd.nil, (hy.tail.tail.tail).empty⟩
      · have nk : ((12 : Nat) : Int) = 12 := rfl
        have hcho : choF L = ⟨12, nameF 117 (atF L 1 4), nameF 102 (atF L 2 5), nameF 120 (atF L 3 2), [], 0, 0, []⟩ := by unfold choF; rw [hk]; rfl
        simp only [↓g11, nk, nc32, ↓g11b, conv_i64, r0_17, r1_4, r2_5, r7_6, r7_4, r7_3, r4_4, r3_2, r6_9, r5_3, x0, x1, x2, x3, x4, x5, x6, x7, d1_4, d2_5, d7_4, d3_2, Int.toNat_natCast, Int.natCast_nonneg, and_self, ↓sxp, sxq, ↓reduceIte, Nat.reduceBEq, Nat.reduceLT, evP, evX, evR, blkOf, evA, storeA, Nat.reduceEqDiff, resL, resV, oneOrTup, Int.reduceEq, Int.reduceLT, Int.reduceLE, Int.reduceNeg, Int.reduceAdd, Int.reduceSub, Int.reduceMul, Int.reduceToNat, Nat.reduceAdd, noUnk, AV.cells, reduceCtorEq, Nat.reduceLeDiff, Cells.get, Nat.reduceMul, ↓bnd_assoc]
        refine Fin.write [.int .i64 12, .str (nameF 117 (atF L 1 4)), .str (nameF 102 (atF L 2 5)), .str (nameF 120 (atF L 3 2)), .str [], .int .i64 0, .int .i64 0, .sl none 0 (.exact 0)] h11 rfl (by simp) rfl fun H12 h12 => ?_
        have gz := h12.get
        simp only [↓gz, ↓hg8, nk, ↓sxp, sxq, ↓reduceIte, Nat.reduceBEq, Nat.reduceLT, evP, evX, evR, blkOf, evA, storeA, Nat.reduceEqDiff, resL, resV, oneOrTup, Int.reduceEq, Int.reduceLT, Int.reduceLE, Int.reduceNeg, Int.reduceAdd, Int.reduceSub, Int.reduceMul, Int.reduceToNat, Nat.reduceAdd, noUnk, AV.cells, reduceCtorEq, Nat.reduceLeDiff, Cells.get, Nat.reduceMul, ↓bnd_assoc]
        refine Fin.write [.int .i64 12, .str (nameF 117 (atF L 1 4)), .str (nameF 102 (atF L 2 5)), .str (nameF 120 (atF L 3 2)), .str [], .int .i64 0, .int .i64 0, .sl none 0 (.exact 0)] (h12.ord [1]) rfl (by simp) rfl fun Hy hy => ?_
        have gy := hy.get
        simp only [↓gy, ↓hg8, ↓sxp, sxq, ↓reduceIte, Nat.reduceBEq, Nat.reduceLT, evP, evX, evR, blkOf, evA, storeA, Nat.reduceEqDiff, resL, resV, oneOrTup, Int.reduceEq, Int.reduceLT, Int.reduceLE, Int.reduceNeg, Int.reduceAdd, Int.reduceSub, Int.reduceMul, Int.reduceToNat, Nat.reduceAdd, noUnk, AV.cells, reduceCtorEq, Nat.reduceLeDiff, Cells.get, Nat.reduceMul, ↓bnd_assoc]
        exact Fin.ret ⟨_, by rw [hcho]; rfl, HP.emp, by rw [hcho]; exact fun _ => Rd.nil, (hy.tail.tail.tail).empty⟩
      · have nk : ((13 : Nat) : Int) = 13 := rfl
        have hcho : choF L = ⟨13, nameF 117 (atF L 1 4), nameF 102 (atF L 2 5), [], [], 0, 0, []⟩ := by unfold choF; rw [hk]; rfl
        simp only [↓g11, nk, nc32, ↓g11b, ↓hg8, ↓sxp, sxq, ↓reduceIte, Nat.reduceBEq, Nat.reduceLT, evP, evX, evR, blkOf, evA, storeA, Nat.reduceEqDiff, resL, resV, oneOrTup, Int.reduceEq, Int.reduceLT, Int.reduceLE, Int.reduceNeg, Int.reduceAdd, Int.reduceSub, Int.reduceMul, Int.reduceToNat, Nat.reduceAdd, noUnk, AV.cells, reduceCtorEq, Nat.reduceLeDiff, Cells.get, Nat.reduceMul, ↓bnd_assoc]
        refine Fin.write [.int .i64 13, .str (nameF 117 (atF L 1 4)), .str (nameF 102 (atF L 2 5)), .str [], .str [], .int .i64 0, .int .i64 0, .sl none 0 (.exact 0)] (h11.ord [1]) rfl (by simp) rfl fun Hy hy => ?_
        have gy := hy.get
        simp only [↓gy, ↓hg8, ↓sxp, sxq, ↓reduceIte, Nat.reduceBEq, Nat.reduceLT, evP, evX, evR, blkOf, evA, storeA, Nat.reduceEqDiff, resL, resV, oneOrTup, Int.reduceEq, Int.reduceLT, Int.reduceLE, Int.reduceNeg, Int.reduceAdd, Int.reduceSub, Int.reduceMul, Int.reduceToNat, Nat.reduceAdd, noUnk, AV.cells, reduceCtorEq, Nat.reduceLeDiff, Cells.get, Nat.reduceMul, ↓bnd_assoc]
        exact Fin.ret ⟨_, by rw [hcho]; rfl, HP.emp, by rw [hcho]; exact fun _ => Rd.nil, (hy.tail.tail.tail).empty⟩
      · exact absurd rfl k14
end
end Go.Proofs.YtjfnhdiimibmiaaDoor.Sx

/- Two calls are one. -/
namespace Go.Proofs.YtjfnhdiimibmiaaDoor.Sx
open HP
section
variable {W : World} {E : Env} {H : Heap} {Γ : List HP}
theorem same_loop {L : List UInt8} {a b : AV} {R1 R2 : HP} (h1 : RdLike W L a R1) (h2 : RdLike W L b R2) (hl : L.length < 65536) {df : List Nat} : ∀ (m i : Nat) (A : Tm) (H : Heap), i + m = L.length → getX A 0 = a → getX A 1 = b → getX A 5 = .int .i64 i → Holds H (R1 :: R2 :: Γ) →
    ∃ lv A' H', run W E (.loop lp21_0) ⟨A, df, none⟩ H = some (lv, ⟨A', df, none⟩, H') ∧ (lv = .exit 0 ∧ Holds H' (R1 :: R2 :: Γ)) := by
  have hlp : ∀ f H, run W E lp21_0 f H = run W E lp21_0 f H := fun _ _ => rfl
  conv at hlp => enter [f, H, 2]; unfold lp21_0
  intro m
  induction m with
  | zero =>
    intro i A H him a0 a1 a5 h
    have : i = L.length := by omega
    subst this
    have hlen := (h1 h).len
    have hlt : ¬ (L.length : Int) < L.length := by omega
    rw [run_loop]
    simp only [hlp, a0, a5, hlen, hlt, ↓sxp, sxq, seval, evP, evX, evR, blkOf, evA, storeA, resL, resV, oneOrTup, noUnk, AV.cells, Cells.get, ↓bnd_assoc]
    exact ⟨_, _, _, rfl, rfl, h⟩
  | succ m ih =>
    intro i A H him a0 a1 a5 h
    have hlen := (h1 h).len
    have hlt : (i : Int) < L.length := by omega
    have hwr : IntKind.i64.wrap ((i : Int) + 1) = ((i + 1 : Nat) : Int) := by rw [w64 (by omega)]; simp
    obtain ⟨p, e1, e2⟩ := (h1 (h.bump 9)).at (i := i) (by omega)
    obtain ⟨q, e3, e4⟩ := (h2 ((h.bump 9).ord [1])).at (i := i) (by omega)
    apply Fin.ex3
    rw [run_loop]
    simp only [hlp, a0, a1, a5, hlen, hlt, e1, e2, e3, e4, hwr, eq_self, ↓sxp, sxq, seval, evP, evX, evR, blkOf, evA, storeA, resL, resV, oneOrTup, noUnk, AV.cells, Cells.get, ↓bnd_assoc]
    exact Fin.of3 (ih (i + 1) _ _ (by omega) (by simp only [a0, ↓sxp, sxq, seval, evP, evX, evR, blkOf, evA, storeA, resL, resV, oneOrTup, noUnk, AV.cells, Cells.get, ↓bnd_assoc]) (by simp only [a1, ↓sxp, sxq, seval, evP, evX, evR, blkOf, evA, storeA, resL, resV, oneOrTup, noUnk, AV.cells, Cells.get, ↓bnd_assoc]) (by simp only [↓sxp, sxq, seval, evP, evX, evR, blkOf, evA, storeA, resL, resV, oneOrTup, noUnk, AV.cells, Cells.get, ↓bnd_assoc]) (h.bump 9)) fun lv A' H' q => q
theorem c_bsame (hE : EnvW E) {L : List UInt8} {a b : AV} {R1 R2 : HP} (h1 : RdLike W L a R1) (h2 : RdLike W L b R2) (hl : L.length < 65536) (h : Holds H (R1 :: R2 :: Γ)) :
    ∃ H', go W E 21 [a, b] H = some (.bool true, H') ∧ Holds H' (R1 :: R2 :: Γ) := by
  apply Ends.out
  refine (show Fin (fun r : AV × Heap => r.1 = .bool true ∧ Holds r.2 (R1 :: R2 :: Γ)) _ from ?_)
  have hlen := (h1 h).len
  have hlen2 := (h2 (h.ord [1])).len
  rw [go_code hE.f21 (by simp [sf21])]
  simp only [sf21, hlen, hlen2, eq_self, ↓sxp, sxq, seval, evP, evX, evR, blkOf, evA, storeA, resL, resV, oneOrTup, noUnk, AV.cells, Cells.get, ↓bnd_assoc]
  refine Fin.loop (same_loop (Γ := Γ) h1 h2 hl L.length 0 _ _ (by omega) (by simp only [↓sxp, sxq, seval, evP, evX, evR, blkOf, evA, storeA, resL, resV, oneOrTup, noUnk, AV.cells, Cells.get, ↓bnd_assoc]) (by simp only [↓sxp, sxq, seval, evP, evX, evR, blkOf, evA, storeA, resL, resV, oneOrTup, noUnk, AV.cells, Cells.get, ↓bnd_assoc]) (by simp only [↓sxp, sxq, seval, evP, evX, evR, blkOf, evA, storeA, resL, resV, oneOrTup, noUnk, AV.cells, Cells.get, ↓bnd_assoc] <;> rfl) h) fun lv A H1 ⟨e1, h3⟩ => ?_
  subst e1
  simp only [↓sxp, sxq, seval, evP, evX, evR, blkOf, evA, storeA, resL, resV, oneOrTup, noUnk, AV.cells, Cells.get, ↓bnd_assoc]
  exact Fin.ret ⟨rfl, h3⟩
theorem c_same (hE : EnvW E) {c : CF} {a b : AV} {R1 R2 : HP} (h1 : RdLike W c.data a R1) (h2 : RdLike W c.data b R2) (hl : c.data.length < 65536) (h : Holds H (R1 :: R2 :: Γ)) :
    ∃ H', go W E 8 [.agg (cfC c a), .agg (cfC c b)] H = some (.bool true, H') ∧ Holds H' (R1 :: R2 :: Γ) := by
  apply Ends.out
  refine (show Fin (fun r : AV × Heap => r.1 = .bool true ∧ Holds r.2 (R1 :: R2 :: Γ)) _ from ?_)
  have h3 := (h.push (c := cfC c a) (t := 29)).push (c := cfC c b) (t := 29)
  simp only [push_next] at h3
  have ga := (h3.ord [1]).get
  have gb := h3.get
  unfold cfC at h3 ga gb
  rw [go_code hE.f8 (by simp [sf8])]
  simp only [sf8, cfC, ↓ga, ↓gb, eq_self, s_eql, ↓sxp, sxq, seval, evP, evX, evR, blkOf, evA, storeA, resL, resV, oneOrTup, noUnk, AV.cells, Cells.get, ↓bnd_assoc]
  refine Fin.call (c_bsame hE h1 h2 hl (h3.ord [2, 2])) fun H4 h4 => ?_
  simp only [↓sxp, sxq, seval, evP, evX, evR, blkOf, evA, storeA, resL, resV, oneOrTup, noUnk, AV.cells, Cells.get, ↓bnd_assoc]
  exact Fin.ret ⟨rfl, (h4.rm 2).rm 2⟩
end
end Go.Proofs.YtjfnhdiimibmiaaDoor.Sx

/- Calls, the program's. -/
namespace Go.Proofs.YtjfnhdiimibmiaaDoor.Sx
open HP
theorem flatMap_get {α β : Type} {f : α → List β} {k : Nat} (hf : ∀ x, (f x).length = k) : ∀ (l : List α) (i : Nat) (hi : i < l.length), ((l.flatMap f).drop (i * k)).take k = f l[i] := by
  intro l
  induction l with
  | nil => intro i hi; simp at hi
  | cons a l ih =>
    intro i hi
    rw [List.flatMap_cons]
    cases i with
    | zero =>
      rw [Nat.zero_mul, List.drop_zero, List.take_append_of_le_length (by rw [hf]; exact Nat.le_refl _), List.take_of_length_le (by rw [hf]; exact Nat.le_refl _)]; rfl
    | succ i =>
      have e : (i + 1) * k = (f a).length + i * k := by rw [hf, Nat.succ_mul, Nat.add_comm]
      rw [e, List.drop_append, List.drop_of_length_le (Nat.le_add_right _ _), List.nil_append, Nat.add_sub_cancel_left, List.getElem_cons_succ]
      exact ih i (by simpa using hi)
theorem flatMap_len {α β : Type} {f : α → List β} {k : Nat} (hf : ∀ x, (f x).length = k) : ∀ (l : List α), (l.flatMap f).length = l.length * k := by
  intro l
  induction l with
  | nil => simp
  | cons a l ih => rw [List.flatMap_cons, List.length_append, hf, ih, List.length_cons, Nat.succ_mul, Nat.add_comm]
section
variable {W : World} {E : Env} {H : Heap} {Γ : List HP}
theorem cfC_len (c : CF) (d : AV) : (cfC c d).length = 8 := rfl
theorem cfC_one (c : CF) (d : AV) (h : oneC d = true) : (cfC c d).all oneC = true := by
  simp only [cfC, List.all_cons, List.all_nil, h, oneC_int, oneC_str, Bool.and_self]
theorem cfC_getN (c : CF) (d : AV) : Cells.getN (.lst (cfC c d)) 0 8 = some (cfC c d) := rfl
theorem RdLike.sepL {bs : List UInt8} {v : AV} {A B : HP} (h : RdLike W bs v A) : RdLike W bs v (HP.sep A B) := fun hh => h hh.sep
theorem RdLike.sepR {bs : List UInt8} {v : AV} {A B : HP} (h : RdLike W bs v B) : RdLike W bs v (HP.sep A B) := fun hh => h hh.sep.tail
theorem c_call (hE : EnvW E) (hG : GK W) {seed : List UInt8} {i : Nat} (hs : seed.length = 32) (hi : i ≤ 1024) (h : Holds H Γ) :
    ∃ dv H', go W E 7 [.agg (cb seed), .int .i64 (i : Int)] H = some (.tup [.agg (cfC (callF seed i) dv), .int .i64 0], H') ∧ ∃ R, RdLike W (callF seed i).data dv R ∧ Holds H' (R :: Γ) := by
  suffices hh : Fin (fun r : AV × Heap => ∃ dv, r.1 = .tup [.agg (cfC (callF seed i) dv), .int .i64 0] ∧ ∃ R, RdLike W (callF seed i).data dv R ∧ Holds r.2 (R :: Γ)) (go W E 7 [.agg (cb seed), .int .i64 (i : Int)] H) by
    obtain ⟨⟨r, H'⟩, e, dv, hr, q⟩ := hh
    simp only at hr
    subst hr
    exact ⟨dv, H', e, q⟩
  have hg8 : ∀ a b c d e f g h : AV, Cells.getN (.lst [a, b, c, d, e, f, g, h]) 0 8 = some [a, b, c, d, e, f, g, h] := fun _ _ _ _ _ _ _ _ => rfl
  have h2 := (h.push (c := cb seed) (t := 22)).push (c := c0) (t := 29)
  simp only [push_next] at h2
  have hgs := getN_cb hs
  rw [go_code hE.f7 (by simp [sf7])]
  generalize hcs : cb seed = cs at *
  have g2 := (h2.ord [1]).get
  simp only [sf7, z32_eq, ↓g2, ↓hgs, ↓sxp, sxq, seval, evP, evX, evR, blkOf, evA, storeA, resL, resV, oneOrTup, noUnk, AV.cells, Cells.get, ↓bnd_assoc]
  subst hcs
  refine Fin.call (c_lot hE hs hi h2) fun H3 h3 => ?_
  have hl := lotF_len seed i
  have hcf : callF seed i = if i < 4 then ⟨1, nameF 117 i, [], [], [], 0, 0, []⟩ else choF (lotF seed i) := rfl
  rw [hcf]
  generalize lotF seed i = L at *
  have hc32 : (cb L).length = 32 := by rw [cb_len, hl]
  have hgl := getN_cb hl
  have h5 := h3.push (c := z32) (t := 22)
  simp only [hc32, ↓sxp, sxq, seval, evP, evX, evR, blkOf, evA, storeA, resL, resV, oneOrTup, noUnk, AV.cells, Cells.get, ↓bnd_assoc]
  generalize H.next = j2 at *
  generalize H3.next = j6 at *
  refine Fin.write (cb L) h5 (setN_all (by rw [hc32]; rfl)) (by rw [hc32]; exact Nat.le_refl _) (cb_one L) fun H6 h6 => ?_
  have g6 := h6.get
  by_cases h4 : i < 4
  · have h4' : (i : Int) < 4 := by omega
    rw [if_pos h4]
    simp only [h4', ↓sxp, sxq, seval, evP, evX, evR, blkOf, evA, storeA, resL, resV, oneOrTup, noUnk, AV.cells, Cells.get, ↓bnd_assoc]
    refine Fin.call (c_name hE 117 i h6) fun H7 h7 => ?_
    simp only [↓sxp, sxq, seval, evP, evX, evR, blkOf, evA, storeA, resL, resV, oneOrTup, noUnk, AV.cells, Cells.get, ↓bnd_assoc]
    refine Fin.write [.int .i64 1, .str (nameF 117 i), .str [], .str [], .str [], .int .i64 0, .int .i64 0, .sl none 0 (.exact 0)] (h7.ord [1]) rfl (by simp) rfl fun Hy hy => ?_
    have gy := hy.get
    simp only [↓gy, ↓hg8, ↓sxp, sxq, seval, evP, evX, evR, blkOf, evA, storeA, resL, resV, oneOrTup, noUnk, AV.cells, Cells.get, ↓bnd_assoc]
    exact Fin.ret ⟨_, rfl, HP.emp, fun _ => Rd.nil, (hy.tail.tail.tail).empty⟩
  · have h4' : ¬ (i : Int) < 4 := by omega
    rw [if_neg h4]
    simp only [h4', ↓g6, ↓hgl, ↓sxp, sxq, seval, evP, evX, evR, blkOf, evA, storeA, resL, resV, oneOrTup, noUnk, AV.cells, Cells.get, ↓bnd_assoc]
    refine Fin.callX (fun r H' => ∃ dv, r = .agg (cfC (choF L) dv) ∧ ∃ R, RdLike W (choF L).data dv R ∧ Holds H' (R :: blk j6 (cb L) 22 :: blk (j2 + 1) c0 29 :: blk j2 (cb seed) 22 :: Γ)) (by obtain ⟨dv, H', e, q⟩ := c_chosen hE hG hl h6; exact ⟨_, H', e, dv, rfl, q⟩) fun r H7 ⟨dv, hr, R, hR, h7⟩ => ?_
    subst hr
    have hd1 := (hR h7).one.2.2
    have hc8 := cfC_len (choF L) dv
    have hco := cfC_one (choF L) dv hd1
    have hcg := cfC_getN (choF L) dv
    generalize hC : cfC (choF L) dv = C at *
    simp only [hc8, ↓sxp, sxq, seval, evP, evX, evR, blkOf, evA, storeA, resL, resV, oneOrTup, noUnk, AV.cells, Cells.get, ↓bnd_assoc]
    refine Fin.write C (h7.ord [2]) (setN_all (by rw [hc8]; rfl)) (by rw [hc8]; exact Nat.le_refl _) hco fun Hy hy => ?_
    have gy := hy.get
    simp only [↓gy, ↓hcg, ↓sxp, sxq, seval, evP, evX, evR, blkOf, evA, storeA, resL, resV, oneOrTup, noUnk, AV.cells, Cells.get, ↓bnd_assoc]
    exact Fin.ret ⟨dv, by rw [hC], R, hR, ((hy.tail).rm 1).rm 1⟩
theorem c_call_no (hE : EnvW E) {seed : List UInt8} {i : Int} (hs : seed.length = 32) (hi : i < 0 ∨ 1024 < i) (h : Holds H Γ) :
    ∃ H', go W E 7 [.agg (cb seed), .int .i64 i] H = some (.tup [.agg c0, .int .i64 2], H') ∧ Holds H' Γ := by
  apply Ends.out
  refine (show Fin (fun r : AV × Heap => r.1 = .tup [.agg c0, .int .i64 2] ∧ Holds r.2 Γ) _ from ?_)
  have hg8 : ∀ a b c d e f g h : AV, Cells.getN (.lst [a, b, c, d, e, f, g, h]) 0 8 = some [a, b, c, d, e, f, g, h] := fun _ _ _ _ _ _ _ _ => rfl
  have h2 := (h.push (c := cb seed) (t := 22)).push (c := c0) (t := 29)
  simp only [push_next] at h2
  have hgs := getN_cb hs
  have hl32 : z32.length = 32 := rfl
  have ho32 : z32.all oneC = true := cb_one _
  rw [go_code hE.f7 (by simp [sf7])]
  generalize hcs : cb seed = cs at *
  have g2 := (h2.ord [1]).get
  simp only [sf7, z32_eq, ↓g2, ↓hgs, ↓sxp, sxq, seval, evP, evX, evR, blkOf, evA, storeA, resL, resV, oneOrTup, noUnk, AV.cells, Cells.get, ↓bnd_assoc]
  subst hcs
  refine Fin.call (c_lot_no hE hi h2) fun H3 h3 => ?_
  have h5 := h3.push (c := z32) (t := 22)
  simp only [hl32, ↓sxp, sxq, seval, evP, evX, evR, blkOf, evA, storeA, resL, resV, oneOrTup, noUnk, AV.cells, Cells.get, ↓bnd_assoc]
  refine Fin.write z32 h5 (setN_all rfl) (by rw [hl32]; exact Nat.le_refl _) ho32 fun H6 h6 => ?_
  refine Fin.write c0 (h6.ord [1]) rfl (by simp) rfl fun Hy hy => ?_
  have gy := hy.get
  simp only [↓gy, ↓hg8, ↓sxp, sxq, seval, evP, evX, evR, blkOf, evA, storeA, resL, resV, oneOrTup, noUnk, AV.cells, Cells.get, ↓bnd_assoc]
  exact Fin.ret ⟨rfl, hy.tail.tail.tail⟩
end
end Go.Proofs.YtjfnhdiimibmiaaDoor.Sx

/- Lists of calls. -/
namespace Go.Proofs.YtjfnhdiimibmiaaDoor.Sx
open HP
def flatC (seed : List UInt8) (ds : List AV) : List AV := ds.zipIdx.flatMap fun x => cfC (callF seed x.2) x.1
theorem flatC_snoc (seed : List UInt8) (ds : List AV) (d : AV) : flatC seed (ds ++ [d]) = flatC seed ds ++ cfC (callF seed ds.length) d := by
  unfold flatC
  rw [List.zipIdx_append, List.flatMap_append]
  simp
theorem flatC_len (seed : List UInt8) (ds : List AV) : (flatC seed ds).length = ds.length * 8 := by
  unfold flatC
  rw [flatMap_len (k := 8) (fun x => rfl), List.length_zipIdx]
theorem flatC_get (seed : List UInt8) (ds : List AV) (i : Nat) (hi : i < ds.length) : ((flatC seed ds).drop (i * 8)).take 8 = cfC (callF seed i) ds[i] := by
  unfold flatC
  rw [flatMap_get (k := 8) (fun x => rfl) _ i (by rw [List.length_zipIdx]; exact hi), List.getElem_zipIdx, Nat.zero_add]
/-- A list of the first calls. -/
def CsH (W : World) (seed : List UInt8) (n : Nat) (H : Heap) (v : AV) (Γ : List HP) : Prop := ∃ (ds : List AV) (D : HP), ds.length = n ∧ (∀ i (hi : i < ds.length), RdLike W (callF seed i).data ds[i] D) ∧ Holds H (row 29 8 (flatC seed ds) v :: D :: Γ)
section
variable {W : World} {E : Env} {H : Heap} {Γ : List HP}
theorem CsH.get {seed : List UInt8} {n : Nat} {v : AV} (h : CsH W seed n H v Γ) (h0 : 0 < n) : ∃ (ds : List AV) (D : HP) (j l : Nat) (c : Cap), ds.length = n ∧ (∀ i (hi : i < ds.length), RdLike W (callF seed i).data ds[i] D) ∧ Holds H (row 29 8 (flatC seed ds) v :: D :: Γ) ∧ v = .sl (some ⟨.own j, 0⟩) n c ∧ H.get j = some (.cells (.lst (flatC seed ds)) 29 (some l)) ∧ ∀ i (hi : i < ds.length), Cells.getN (.lst (flatC seed ds)) (i * 8) 8 = some (cfC (callF seed i) ds[i]) := by
  obtain ⟨ds, D, hn, hR, hh⟩ := h
  obtain ⟨j, l, c, e, g⟩ := hh.row_get (by omega) (n := n) (by rw [flatC_len, hn]) h0
  refine ⟨ds, D, j, l, c, hn, hR, hh, e, g, fun i hi => ?_⟩
  have := getN_sub (i * 8) 8 (getN_all (flatC seed ds)) (by rw [flatC_len]; omega)
  rw [flatC_get seed ds i hi, Nat.zero_add] at this
  exact this
theorem calls_loop (hE : EnvW E) (hG : GK W) {seed : List UInt8} (hs : seed.length = 32) {j2 n : Nat} (hn : n ≤ 1024) {df : List Nat} : ∀ (m i : Nat) (A : Tm) (H : Heap) (v : AV), i + m = n → getX A 2 = .ptr (some ⟨.own j2, 0⟩) → getX A 6 = v → getX A 16 = .int .i64 n → getX A 17 = .int .i64 i → CsH W seed i H v (blk j2 (cb seed) 22 :: Γ) →
    ∃ lv A' H', run W E (.loop lp11_0) ⟨A, df, none⟩ H = some (lv, ⟨A', df, none⟩, H') ∧ (lv = .exit 0 ∧ ∃ v', getX A' 6 = v' ∧ CsH W seed n H' v' (blk j2 (cb seed) 22 :: Γ)) := by
  have hlp : ∀ f H, run W E lp11_0 f H = run W E lp11_0 f H := fun _ _ => rfl
  conv at hlp => enter [f, H, 2]; unfold lp11_0
  intro m
  induction m with
  | zero =>
    intro i A H v him a2 a6 a16 a17 h
    have : i = n := by omega
    subst this
    have hlt : ¬ (i : Int) < i := by omega
    rw [run_loop]
    simp only [hlp, a16, a17, hlt, ↓sxp, sxq, seval, evP, evX, evR, blkOf, evA, storeA, resL, resV, oneOrTup, noUnk, AV.cells, Cells.get, ↓bnd_assoc]
    exact ⟨_, _, _, rfl, rfl, v, by simp only [a6, ↓sxp, sxq, seval, evP, evX, evR, blkOf, evA, storeA, resL, resV, oneOrTup, noUnk, AV.cells, Cells.get, ↓bnd_assoc], h⟩
  | succ m ih =>
    intro i A H v him a2 a6 a16 a17 h
    have hlt : (i : Int) < n := by omega
    have hwr : IntKind.i64.wrap ((i : Int) + 1) = ((i + 1 : Nat) : Int) := by rw [w64 (by omega)]; simp
    obtain ⟨ds, D, hdn, hR, hh⟩ := h
    have g2 := (hh.ord [2]).get
    have hgs := getN_cb hs
    apply Fin.ex3
    rw [run_loop]
    generalize hcs : cb seed = cs at *
    simp only [hlp, a2, a16, a17, hlt, ↓g2, ↓hgs, ↓sxp, sxq, seval, evP, evX, evR, blkOf, evA, storeA, resL, resV, oneOrTup, noUnk, AV.cells, Cells.get, ↓bnd_assoc]
    subst hcs
    refine Fin.callX (fun r H' => ∃ dv, r = .tup [.agg (cfC (callF seed i) dv), .int .i64 0] ∧ ∃ R, RdLike W (callF seed i).data dv R ∧ Holds H' (R :: row 29 8 (flatC seed ds) v :: D :: blk j2 (cb seed) 22 :: Γ)) (by obtain ⟨dv, H', e, q⟩ := c_call hE hG hs (show i ≤ 1024 by omega) hh; exact ⟨_, H', e, dv, rfl, q⟩) fun r H3 ⟨dv, hr, R, hRr, h3⟩ => ?_
    subst hr
    have hd1 := (hRr h3).one.2.2
    have hc8 := cfC_len (callF seed i) dv
    have hco := cfC_one (callF seed i) dv hd1
    have hcg := cfC_getN (callF seed i) dv
    generalize hC : cfC (callF seed i) dv = C at *
    have h4 := h3.push (c := c0) (t := 29)
    simp only [hc8, a6, ↓sxp, sxq, seval, evP, evX, evR, blkOf, evA, storeA, resL, resV, oneOrTup, noUnk, AV.cells, Cells.get, ↓bnd_assoc]
    generalize H3.next = j8 at *
    refine Fin.write C h4 (setN_all (by rw [hc8]; rfl)) (by rw [hc8]; exact Nat.le_refl _) hco fun H5 h5 => ?_
    have g5 := h5.get
    have h6 := h5.push (c := C) (t := 29)
    have g6 := h6.get
    simp only [↓g5, ↓hcg, hc8, a6, ↓sxp, sxq, seval, evP, evX, evR, blkOf, evA, storeA, resL, resV, oneOrTup, noUnk, AV.cells, Cells.get, ↓bnd_assoc]
    refine Fin.app (h6.ord [3]) (by omega) (by simp only [srcA, blkOf, g6, Nat.one_mul, hcg]; rfl) (by omega) (new := C) (n := i) (by rw [hc8]) hco (by rw [flatC_len, hdn]) (by omega) fun v' H7 h7 => ?_
    rw [← hC, ← hdn, ← flatC_snoc] at h7
    have h8 : Holds H7 (row 29 8 (flatC seed (ds ++ [dv])) v' :: HP.sep R D :: blk j2 (cb seed) 22 :: Γ) := by
      have := ((h7.ord [3, 3]).sep').ord [1, 0]
      exact (this.rm 2).rm 2
    simp only [a17, hwr, ↓sxp, sxq, seval, evP, evX, evR, blkOf, evA, storeA, resL, resV, oneOrTup, noUnk, AV.cells, Cells.get, ↓bnd_assoc]
    refine Fin.of3 (ih (i + 1) _ _ v' (by omega) (by simp only [a2, ↓sxp, sxq, seval, evP, evX, evR, blkOf, evA, storeA, resL, resV, oneOrTup, noUnk, AV.cells, Cells.get, ↓bnd_assoc]) (by simp only [↓sxp, sxq, seval, evP, evX, evR, blkOf, evA, storeA, resL, resV, oneOrTup, noUnk, AV.cells, Cells.get, ↓bnd_assoc]) (by simp only [a16, ↓sxp, sxq, seval, evP, evX, evR, blkOf, evA, storeA, resL, resV, oneOrTup, noUnk, AV.cells, Cells.get, ↓bnd_assoc]) (by simp only [↓sxp, sxq, seval, evP, evX, evR, blkOf, evA, storeA, resL, resV, oneOrTup, noUnk, AV.cells, Cells.get, ↓bnd_assoc]) ⟨ds ++ [dv], HP.sep R D, by simp [hdn], fun k hk => ?_, h8⟩) fun lv A' H' q => q
    by_cases hkl : k < ds.length
    · rw [List.getElem_append_left hkl]; exact RdLike.sepR (hR k hkl)
    · have : k = ds.length := by simp at hk; omega
      subst this
      rw [List.getElem_append_right (Nat.le_refl _)]
      simp only [Nat.sub_self, List.getElem_cons_zero]
      rw [hdn]; exact RdLike.sepL hRr
theorem c_calls (hE : EnvW E) (hG : GK W) {seed : List UInt8} {n : Nat} (hs : seed.length = 32) (hn : n ≤ 1024) (h : Holds H Γ) :
    ∃ v H', go W E 11 [.agg (cb seed), .int .i64 (n : Int)] H = some (.tup [v, .int .i64 0], H') ∧ CsH W seed n H' v Γ := by
  suffices hh : Fin (fun r : AV × Heap => ∃ v, r.1 = .tup [v, .int .i64 0] ∧ CsH W seed n r.2 v Γ) (go W E 11 [.agg (cb seed), .int .i64 (n : Int)] H) by
    obtain ⟨⟨r, H'⟩, e, v, hr, q⟩ := hh
    simp only at hr
    subst hr
    exact ⟨v, H', e, q⟩
  have h2 := h.push (c := cb seed) (t := 22)
  have b1 : ¬ (n : Int) < 0 := by omega
  have b2 : ¬ (1024 : Int) < n := by omega
  rw [go_code hE.f11 (by simp [sf11])]
  generalize hcs : cb seed = cs at *
  simp only [sf11, b1, b2, ↓sxp, sxq, seval, evP, evX, evR, blkOf, evA, storeA, resL, resV, oneOrTup, noUnk, AV.cells, Cells.get, ↓bnd_assoc]
  subst hcs
  refine Fin.loop (calls_loop (Γ := Γ) (j2 := H.next) hE hG hs hn n 0 _ _ (.sl none 0 (.exact 0)) (by omega) (by simp only [↓sxp, sxq, seval, evP, evX, evR, blkOf, evA, storeA, resL, resV, oneOrTup, noUnk, AV.cells, Cells.get, ↓bnd_assoc]) (by simp only [↓sxp, sxq, seval, evP, evX, evR, blkOf, evA, storeA, resL, resV, oneOrTup, noUnk, AV.cells, Cells.get, ↓bnd_assoc]) (by simp only [↓sxp, sxq, seval, evP, evX, evR, blkOf, evA, storeA, resL, resV, oneOrTup, noUnk, AV.cells, Cells.get, ↓bnd_assoc]) (by simp only [↓sxp, sxq, seval, evP, evX, evR, blkOf, evA, storeA, resL, resV, oneOrTup, noUnk, AV.cells, Cells.get, ↓bnd_assoc] <;> rfl) ⟨[], HP.emp, rfl, fun i hi => by simp at hi, by exact (h2.empty).row_nil⟩) fun lv A H1 ⟨e1, v, a6, ds, D, h3, h4, h5⟩ => ?_
  subst e1
  simp only [a6, ↓sxp, sxq, seval, evP, evX, evR, blkOf, evA, storeA, resL, resV, oneOrTup, noUnk, AV.cells, Cells.get, ↓bnd_assoc]
  exact Fin.ret ⟨v, rfl, ds, D, h3, h4, h5.rm 2⟩
theorem c_calls_no (hE : EnvW E) {seed : List UInt8} {n : Int} (hn : n < 0 ∨ 1024 < n) (h : Holds H Γ) :
    ∃ H', go W E 11 [.agg (cb seed), .int .i64 n] H = some (.tup [.sl none 0 (.exact 0), .int .i64 2], H') ∧ Holds H' Γ := by
  apply Ends.out
  refine (show Fin (fun r : AV × Heap => r.1 = .tup [.sl none 0 (.exact 0), .int .i64 2] ∧ Holds r.2 Γ) _ from ?_)
  have h2 := h.push (c := cb seed) (t := 22)
  rw [go_code hE.f11 (by simp [sf11])]
  generalize hcs : cb seed = cs at *
  rcases hn with hn | hn
  · simp only [sf11, hn, ↓sxp, sxq, seval, evP, evX, evR, blkOf, evA, storeA, resL, resV, oneOrTup, noUnk, AV.cells, Cells.get, ↓bnd_assoc]
    exact Fin.ret ⟨rfl, h2.tail⟩
  · have b1 : ¬ n < 0 := by omega
    simp only [sf11, b1, hn, ↓sxp, sxq, seval, evP, evX, evR, blkOf, evA, storeA, resL, resV, oneOrTup, noUnk, AV.cells, Cells.get, ↓bnd_assoc]
    exact Fin.ret ⟨rfl, h2.tail⟩
end
end Go.Proofs.YtjfnhdiimibmiaaDoor.Sx

/- Lists of events. -/
namespace Go.Proofs.YtjfnhdiimibmiaaDoor.Sx
open HP
/-- An event: a call, or an outage. -/
inductive PEv where
  | call (c : CF)
  | pow (fuse : Nat) (ch : List UInt8) (again : Nat) (more : List UInt8)
abbrev nilS : AV := .sl none 0 (.exact 0)
def pevC : PEv → AV → AV → List AV
  | .call c, a, _ => .int .i64 1 :: (cfC c a ++ [.int .i64 0, .int .i64 0, nilS, .int .i64 0, nilS, .str [], .str [], nilS])
  | .pow fu _ ag _, a, b => .int .i64 4 :: (c0 ++ [.int .i64 0, .int .i64 (fu : Int), a, .int .i64 (ag : Int), b, .str [], .str [], nilS])
theorem pevC_len (e : PEv) (a b : AV) : (pevC e a b).length = 17 := by cases e <;> rfl
def powF (L : List UInt8) : PEv := .pow ((L.getD 9 0).toNat + (L.getD 10 0).toNat) ((L.drop 11).take 5) (L.getD 24 0).toNat ((L.drop 25).take 2)
def evsF (seed : List UInt8) (i : Nat) : List PEv := (if ((lotF seed i).getD 8 0).toNat < 64 then [powF (lotF seed i)] else []) ++ [.call (callF seed i)]
def pevs (seed : List UInt8) (n : Nat) : List PEv := (List.range n).flatMap (evsF seed)
theorem pevs_succ (seed : List UInt8) (n : Nat) : pevs seed (n + 1) = pevs seed n ++ evsF seed n := by
  unfold pevs
  rw [List.range_succ, List.flatMap_append]; simp
theorem pevs_len (seed : List UInt8) (n : Nat) : (pevs seed n).length ≤ 2 * n := by
  induction n with
  | zero => simp [pevs]
  | succ n ih =>
    rw [pevs_succ, List.length_append]
    have : (evsF seed n).length ≤ 2 := by unfold evsF; split <;> simp
    omega
def pevR (W : World) (x : PEv × AV × AV) (D : HP) : Prop := match x.1 with
  | .call c => RdLike W c.data x.2.1 D
  | .pow _ ch _ mo => RdLike W ch x.2.1 D ∧ RdLike W mo x.2.2 D
def flatE (xs : List (PEv × AV × AV)) : List AV := xs.flatMap fun x => pevC x.1 x.2.1 x.2.2
theorem flatE_len (xs : List (PEv × AV × AV)) : (flatE xs).length = xs.length * 17 := by
  unfold flatE
  exact flatMap_len (f := fun x : PEv × AV × AV => pevC x.1 x.2.1 x.2.2) (fun x => pevC_len x.1 x.2.1 x.2.2) xs
theorem flatE_snoc (xs : List (PEv × AV × AV)) (x : PEv × AV × AV) : flatE (xs ++ [x]) = flatE xs ++ pevC x.1 x.2.1 x.2.2 := by
  unfold flatE
  rw [List.flatMap_append]; simp
/-- A list of events that can be read. -/
def EsH (W : World) (es : List PEv) (H : Heap) (v : AV) (Γ : List HP) : Prop := ∃ (xs : List (PEv × AV × AV)) (D : HP), xs.map Prod.fst = es ∧ (∀ x ∈ xs, pevR W x D) ∧ Holds H (row 46 17 (flatE xs) v :: D :: Γ)
section
variable {W : World} {E : Env} {H : Heap} {Γ : List HP}
theorem pevR.sepR {x : PEv × AV × AV} {A B : HP} (h : pevR W x B) : pevR W x (HP.sep A B) := by
  obtain ⟨e, a, b⟩ := x
  cases e with
  | call c => exact RdLike.sepR h
  | pow fu ch ag mo => exact ⟨RdLike.sepR h.1, RdLike.sepR h.2⟩
theorem pevR.sepL {x : PEv × AV × AV} {A B : HP} (h : pevR W x A) : pevR W x (HP.sep A B) := by
  obtain ⟨e, a, b⟩ := x
  cases e with
  | call c => exact RdLike.sepL h
  | pow fu ch ag mo => exact ⟨RdLike.sepL h.1, RdLike.sepL h.2⟩
theorem Holds.bumps (h : Holds H Γ) (n : Nat) (ks : List Nat) (hd : ks.Nodup) (hl : ∀ k ∈ ks, k < n) : Holds { H with next := H.next + n } (ks.map (fun k => resv (H.next + k)) ++ Γ) := by
  have h' := h.bump n
  obtain ⟨fp, a⟩ := h.a
  have k := keep_bump (n := H.next + n) h.wf (Nat.le_add_right _ _)
  have hlt := fun i hi => (all Γ).lt h.wf a i hi
  have a' := (all Γ).keep h.wf a k (by simp)
  refine ⟨h'.wf, ks.map (H.next + ·) ++ fp, ?_⟩
  clear h'
  induction ks with
  | nil => exact a'
  | cons c ks ih =>
    rw [List.nodup_cons] at hd
    refine ⟨[H.next + c], ks.map (H.next + ·) ++ fp, ⟨rfl, by have := hl c (by simp); show _ < H.next + n; omega⟩, ih hd.2 (fun x hx => hl x (by simp [hx])), rfl, fun i hi hg => ?_⟩
    simp at hi
    rcases List.mem_append.1 hg with h1 | h1
    · obtain ⟨x, hx, e⟩ := List.mem_map.1 h1
      have : x = c := by omega
      exact hd.1 (this ▸ hx)
    · have := hlt i h1; omega
/-- The same, where what calls hold is read by another piece. -/
def pevQ (W : World) (x : PEv × AV × AV) (D Dc : HP) : Prop := match x.1 with
  | .call c => RdLike W c.data x.2.1 Dc
  | .pow _ ch _ mo => RdLike W ch x.2.1 D ∧ RdLike W mo x.2.2 D
def EsQ (W : World) (es : List PEv) (Dc : HP) (H : Heap) (v : AV) (Γ : List HP) : Prop := ∃ (xs : List (PEv × AV × AV)) (D : HP), xs.map Prod.fst = es ∧ (∀ x ∈ xs, pevQ W x D Dc) ∧ Holds H (row 46 17 (flatE xs) v :: D :: Dc :: Γ)
theorem EsQ.out {es : List PEv} {Dc : HP} {v : AV} (h : EsQ W es Dc H v Γ) : EsH W es H v Γ := by
  obtain ⟨xs, D, h1, h2, h3⟩ := h
  refine ⟨xs, HP.sep D Dc, h1, fun x hx => ?_, (((h3.ord [1, 1]).sep').ord [1])⟩
  have := h2 x hx
  obtain ⟨e, a, b⟩ := x
  cases e with
  | call c =>
    show RdLike W c.data a (HP.sep D Dc)
    exact RdLike.sepR this
  | pow fu ch ag mo => exact ⟨RdLike.sepL this.1, RdLike.sepL this.2⟩
theorem pevQ.sepR {x : PEv × AV × AV} {A B Dc : HP} (h : pevQ W x B Dc) : pevQ W x (HP.sep A B) Dc := by
  obtain ⟨e, a, b⟩ := x
  cases e with
  | call c => exact h
  | pow fu ch ag mo => exact ⟨RdLike.sepR h.1, RdLike.sepR h.2⟩
def cE : List AV := [.int .i64 0, .int .i64 0, .str [], .str [], .str [], .str [], .int .i64 0, .int .i64 0, nilS, .int .i64 0, .int .i64 0, nilS, .int .i64 0, nilS, .str [], .str [], nilS]
theorem events_loop (hE : EnvW E) {seed : List UInt8} (hs : seed.length = 32) {j2 n : Nat} (hn : n ≤ 1024) {vc : AV} {df : List Nat} : ∀ (m i : Nat) (A : Tm) (H : Heap) (v : AV) (ds : List AV) (Dc : HP), i + m = n → ds.length = n → (∀ i (hi : i < ds.length), RdLike W (callF seed i).data ds[i] Dc) → getX A 2 = .ptr (some ⟨.own j2, 0⟩) → getX A 8 = v → getX A 23 = vc → getX A 24 = .int .i64 n → getX A 25 = .int .i64 i → EsQ W (pevs seed i) Dc H v (row 29 8 (flatC seed ds) vc :: blk j2 (cb seed) 22 :: Γ) →
    ∃ lv A' H', run W E (.loop lp12_0) ⟨A, df, none⟩ H = some (lv, ⟨A', df, none⟩, H') ∧ (lv = .exit 0 ∧ ∃ v', getX A' 8 = v' ∧ EsQ W (pevs seed n) Dc H' v' (row 29 8 (flatC seed ds) vc :: blk j2 (cb seed) 22 :: Γ)) := by
  have hlp : ∀ f H, run W E lp12_0 f H = run W E lp12_0 f H := fun _ _ => rfl
  conv at hlp => enter [f, H, 2]; unfold lp12_0
  intro m
  induction m with
  | zero =>
    intro i A H v ds Dc him hdn hR a2 a8 a23 a24 a25 h
    have : i = n := by omega
    subst this
    have hlt : ¬ (i : Int) < i := by omega
    rw [run_loop]
    simp only [hlp, a24, a25, hlt, ↓sxp, sxq, seval, evP, evX, evR, blkOf, evA, storeA, resL, resV, oneOrTup, noUnk, AV.cells, Cells.get, ↓bnd_assoc]
    exact ⟨_, _, _, rfl, rfl, v, by simp only [a8, ↓sxp, sxq, seval, evP, evX, evR, blkOf, evA, storeA, resL, resV, oneOrTup, noUnk, AV.cells, Cells.get, ↓bnd_assoc], h⟩
  | succ m ih =>
    intro i A H v ds Dc him hdn hR a2 a8 a23 a24 a25 h
    have hlt : (i : Int) < n := by omega
    have hwr : IntKind.i64.wrap ((i : Int) + 1) = ((i + 1 : Nat) : Int) := by rw [w64 (by omega)]; simp
    obtain ⟨xs, D, hx1, hx2, hh⟩ := h
    obtain ⟨jc, lc, cc, rfl, gc⟩ := (hh.ord [3]).row_get (by omega) (n := n) (by rw [flatC_len, hdn]) (by omega)
    have hgc : Cells.getN (.lst (flatC seed ds)) (i * 8) 8 = some (cfC (callF seed i) (ds[i]'(by omega))) := by
      have := getN_sub (i * 8) 8 (getN_all (flatC seed ds)) (by rw [flatC_len]; omega)
      rw [flatC_get seed ds i (by omega), Nat.zero_add] at this
      exact this
    have hRi : RdLike W (callF seed i).data (ds[i]'(by omega)) Dc := fun hh => hR i (by omega) hh
    generalize hdv : (ds[i]'(by omega)) = dv at *
    have hd1 := (hRi (hh.ord [2])).one.2.2
    have hc8 := cfC_len (callF seed i) dv
    have hco := cfC_one (callF seed i) dv hd1
    have hcg := cfC_getN (callF seed i) dv
    have h1 := hh.push (c := c0) (t := 29)
    generalize hC : cfC (callF seed i) dv = C at *
    have g2 := (h1.ord [5]).get
    have hgs := getN_cb hs
    apply Fin.ex3
    rw [run_loop]
    generalize hcs : cb seed = cs at *
    simp only [hlp, a2, a23, a24, a25, hlt, Int.natCast_nonneg, and_self, Int.toNat_natCast, ↓gc, ↓hgc, hc8, ↓sxp, sxq, seval, evP, evX, evR, blkOf, evA, storeA, resL, resV, oneOrTup, noUnk, AV.cells, Cells.get, ↓bnd_assoc]
    generalize H.next = j10 at *
    refine Fin.write C h1 (setN_all (by rw [hc8]; rfl)) (by rw [hc8]; exact Nat.le_refl _) hco fun H2 h2 => ?_
    have g22 := (h2.ord [5]).get
    simp only [a2, ↓g22, ↓hgs, ↓sxp, sxq, seval, evP, evX, evR, blkOf, evA, storeA, resL, resV, oneOrTup, noUnk, AV.cells, Cells.get, ↓bnd_assoc]
    subst hcs
    refine Fin.call (c_lot hE hs (show i ≤ 1024 by omega) h2) fun H3 h3 => ?_
    have hl := lotF_len seed i
    have hevs : evsF seed i = (if ((lotF seed i).getD 8 0).toNat < 64 then [powF (lotF seed i)] else []) ++ [.call (callF seed i)] := rfl
    have hps := pevs_succ seed i
    rw [hevs] at hps
    generalize lotF seed i = L at *
    have hc32 : (cb L).length = 32 := by rw [cb_len, hl]
    have h4 := h3.push (c := z32) (t := 22)
    simp only [hc32, z32_eq, ↓sxp, sxq, seval, evP, evX, evR, blkOf, evA, storeA, resL, resV, oneOrTup, noUnk, AV.cells, Cells.get, ↓bnd_assoc]
    generalize H3.next = j11 at *
    refine Fin.write (cb L) h4 (setN_all (by rw [hc32]; rfl)) (by rw [hc32]; exact Nat.le_refl _) (cb_one L) fun H5 h5 => ?_
    have g5 := h5.get
    have x8 : (cb L)[8]? = some (.int .u8 (L.getD 8 0).toNat) := cb_get (show 8 < L.length by omega)
    have hxl := pevs_len seed i
    rw [← hx1, List.length_map] at hxl
    by_cases h64 : (L.getD 8 0).toNat < 64
    · have h64' : ((L.getD 8 0).toNat : Int) < 64 := by omega
      rw [if_pos h64] at hps
      have hA : Holds _ (resv (H5.next + 7) :: resv (H5.next + 13) :: resv (H5.next + 17) :: blk j11 (cb L) 22 :: blk j10 C 29 :: row 46 17 (flatE xs) v :: D :: Dc :: row 29 8 (flatC seed ds) (.sl (some ⟨.own jc, 0⟩) n cc) :: blk j2 (cb seed) 22 :: Γ) := h5.bumps 19 [7, 13, 17] (by simp) (by simp)
      have hB := hA.lay (c := []) (t := 5)
      have hgl := getN_all (cb L)
      rw [cb_len, hl] at hgl
      have l5 : ((L.drop 11).take 5).length = 5 := by rw [List.length_take, List.length_drop]; omega
      have l2 : ((L.drop 25).take 2).length = 2 := by rw [List.length_take, List.length_drop]; omega
      have hs5 : Cells.getN (.lst (cb L)) 11 5 = some (cb ((L.drop 11).take 5)) := by
        have := getN_sub 11 5 hgl (by omega)
        rw [cb_sub, Nat.zero_add] at this; exact this
      have hs2 : Cells.getN (.lst (cb L)) 25 2 = some (cb ((L.drop 25).take 2)) := by
        have := getN_sub 25 2 hgl (by omega)
        rw [cb_sub, Nat.zero_add] at this; exact this
      obtain ⟨va, Ha, ea, ha⟩ := hB.eadd (W := W) (ty := 5) (bytes := 1) (k := 5) (new := cb ((L.drop 11).take 5)) (by omega) (by rw [cb_len, l5]) (cb_one _) (by omega)
      have ea' : appA W (({ H5 with next := H5.next + 19 } : Heap).lay (H5.next + 7) (.cells (.lst []) 5 none)) 5 1 1 false (.sl (some ⟨.own (H5.next + 7), 0⟩) 0 (.exact 0)) (.sl (some ⟨.own j11, 11⟩) 5 (.exact 21)) = some (va, Ha) := by
        have gB := (hB.ord [3]).get
        simp only [appA, srcA, blkOf, gB, Nat.mul_one, hs5]; exact ea
      have hC2 := (ha.ord [2]).lay (c := []) (t := 5)
      obtain ⟨vb, Hb, eb, hb⟩ := hC2.eadd (W := W) (ty := 5) (bytes := 1) (k := 2) (new := cb ((L.drop 25).take 2)) (by omega) (by rw [cb_len, l2]) (cb_one _) (by omega)
      have eb' : appA W (Ha.lay (H5.next + 13) (.cells (.lst []) 5 none)) 5 1 1 false (.sl (some ⟨.own (H5.next + 13), 0⟩) 0 (.exact 0)) (.sl (some ⟨.own j11, 25⟩) 2 (.exact 7)) = some (vb, Hb) := by
        have gC := (hC2.ord [4]).get
        simp only [appA, srcA, blkOf, gC, Nat.mul_one, hs2]; exact eb
      have gH0 := (hA.ord [3]).get
      have gHa := (ha.ord [4]).get
      have gHb := (hb.ord [5]).get
      have x9 : (cb L)[9]? = some (.int .u8 (L.getD 9 0).toNat) := cb_get (show 9 < L.length by omega)
      have x10 : (cb L)[10]? = some (.int .u8 (L.getD 10 0).toNat) := cb_get (show 10 < L.length by omega)
      have x24 : (cb L)[24]? = some (.int .u8 (L.getD 24 0).toNat) := cb_get (show 24 < L.length by omega)
      have w1 : IntKind.i64.wrap (((L.getD 9 0).toNat : Int) + ((L.getD 10 0).toNat : Int)) = (((L.getD 9 0).toNat + (L.getD 10 0).toNat : Nat) : Int) := by
        have := (L.getD 9 0).toNat_lt
        have := (L.getD 10 0).toNat_lt
        rw [w64 (by omega)]; simp
      have bA : ∀ A : Tm, bounds A 32 32 (some (.c (.int .i64 11))) (some (.c (.int .i64 16))) none = some (11, 16, 32) := fun _ => rfl
      have bB : ∀ A : Tm, bounds A 32 32 (some (.c (.int .i64 25))) (some (.c (.int .i64 27))) none = some (25, 27, 32) := fun _ => rfl
      have hva := ((RdLike.row (W := W) _ va) ha).one.2.2
      have hvb := ((RdLike.row (W := W) _ vb) hb).one.2.2
      have hD := (hb.ord [4]).lay (c := [.int .i64 0, nilS, .int .i64 0, nilS]) (t := 44)
      simp only [a8, nc32, ↓g5, x8, h64', ↓bA, ↓bB, Nat.reduceSub, ↓ea', ↓eb', ↓gH0, ↓gHa, ↓gHb, x9, x10, x24, conv_i64, w1, hva, hvb, ↓sxp, sxq, seval, evP, evX, evR, blkOf, evA, storeA, resL, resV, oneOrTup, noUnk, AV.cells, Cells.get, ↓bnd_assoc]
      refine Fin.write [.int .i64 (((L.getD 9 0).toNat + (L.getD 10 0).toNat : Nat) : Int), va, .int .i64 ((L.getD 24 0).toNat : Int), vb] hD rfl (by simp) (by simp only [List.all_cons, List.all_nil, hva, hvb, oneC_int, Bool.and_self]) fun HE hE2 => ?_
      have gE := hE2.get
      have hg4 : ∀ a b c d : AV, Cells.getN (.lst [a, b, c, d]) 0 4 = some [a, b, c, d] := fun _ _ _ _ => rfl
      have hp1 : pevC (powF L) va vb = [.int .i64 4, .int .i64 0, .str [], .str [], .str [], .str [], .int .i64 0, .int .i64 0, nilS, .int .i64 0, .int .i64 (((L.getD 9 0).toNat + (L.getD 10 0).toNat : Nat) : Int), va, .int .i64 ((L.getD 24 0).toNat : Int), vb, .str [], .str [], nilS] := rfl
      have hp2 : (pevC (powF L) va vb).all oneC = true := by
        rw [hp1]
        simp only [List.all_cons, List.all_nil, hva, hvb, oneC_int, oneC_str, oneC_sl, Bool.and_self]
      have hp3 := pevC_len (powF L) va vb
      have hF := hE2.push (c := pevC (powF L) va vb) (t := 46)
      simp only [↓gE, ↓hg4, ↓sxp, sxq, seval, evP, evX, evR, blkOf, evA, storeA, resL, resV, oneOrTup, noUnk, AV.cells, Cells.get, ↓bnd_assoc]
      rw [← hp1]
      have gF := hF.get
      generalize hQ : pevC (powF L) va vb = Q at *
      have hgQ : Cells.getN (.lst Q) 0 17 = some Q := by
        have := getN_all Q
        rw [hp3] at this; exact this
      refine Fin.app (hF.ord [8]) (by omega) (by simp only [srcA, blkOf, gF, Nat.one_mul, hgQ]; rfl) (by omega) (new := Q) (n := xs.length) (by rw [hp3]) hp2 (flatE_len xs) (by omega) fun vp K5 hG => ?_
      rw [← hQ, ← flatE_snoc xs (powF L, va, vb)] at hG
      have k5 : Holds K5 (blk j11 (cb L) 22 :: blk j10 C 29 :: row 46 17 (flatE (xs ++ [(powF L, va, vb)])) vp :: HP.sep (row 5 1 (cb ((L.drop 11).take 5)) va) (HP.sep (row 5 1 (cb ((L.drop 25).take 2)) vb) D) :: Dc :: row 29 8 (flatC seed ds) (.sl (some ⟨.own jc, 0⟩) n cc) :: blk j2 (cb seed) 22 :: Γ) := by
        have q := ((((hG.rm 1).rm 1).rm 2).rm 3)
        have q2 := ((q.ord [1, 4]).sep').ord [2, 0]
        exact (q2.sep').ord [2, 2, 1, 0]
      have ky1 : (xs ++ [(powF L, va, vb)]).map Prod.fst = pevs seed i ++ [powF L] := by rw [List.map_append, hx1]; rfl
      have ky2 : ∀ x ∈ xs ++ [(powF L, va, vb)], pevQ W x (HP.sep (row 5 1 (cb ((L.drop 11).take 5)) va) (HP.sep (row 5 1 (cb ((L.drop 25).take 2)) vb) D)) Dc := fun x hx => by
        rcases List.mem_append.1 hx with hx | hx
        · exact ((hx2 x hx).sepR).sepR
        · simp at hx; subst hx
          exact ⟨RdLike.sepL (RdLike.row _ va), RdLike.sepR (RdLike.sepL (RdLike.row _ vb))⟩
      have hyl : (xs ++ [(powF L, va, vb)]).length ≤ 2 * i + 1 := by rw [List.length_append]; simp; omega
      generalize xs ++ [(powF L, va, vb)] = ys at *
      have gK := (k5.ord [1]).get
      simp only [↓gK, ↓hcg, hc8, List.length_append, ↓sxp, sxq, seval, evP, evX, evR, blkOf, evA, storeA, resL, resV, oneOrTup, noUnk, AV.cells, Cells.get, ↓bnd_assoc]
      have hpc : pevC (.call (callF seed i)) dv dv = .int .i64 1 :: (C ++ [.int .i64 0, .int .i64 0, nilS, .int .i64 0, nilS, .str [], .str [], nilS]) := by simp only [pevC]; rw [hC]
      have hpo : (pevC (.call (callF seed i)) dv dv).all oneC = true := by
        rw [hpc, List.all_cons, List.all_append, hco]; rfl
      have hpl := pevC_len (.call (callF seed i)) dv dv
      rw [← hpc]
      generalize hP : pevC (.call (callF seed i)) dv dv = P at *
      have h6 := k5.push (c := P) (t := 46)
      have g6 := h6.get
      have hgP : Cells.getN (.lst P) 0 17 = some P := by
        have := getN_all P
        rw [hpl] at this; exact this
      refine Fin.app (h6.ord [3]) (by omega) (by simp only [srcA, blkOf, g6, Nat.one_mul, hgP]; rfl) (by omega) (new := P) (n := ys.length) (by rw [hpl]) hpo (flatE_len ys) (by omega) fun v' H7 h7 => ?_
      rw [← hP, ← flatE_snoc ys (PEv.call (callF seed i), dv, dv)] at h7
      simp only [a25, hwr, ↓sxp, sxq, seval, evP, evX, evR, blkOf, evA, storeA, resL, resV, oneOrTup, noUnk, AV.cells, Cells.get, ↓bnd_assoc]
      refine Fin.of3 (ih (i + 1) _ _ v' ds Dc (by omega) hdn hR (by simp only [a2, ↓sxp, sxq, seval, evP, evX, evR, blkOf, evA, storeA, resL, resV, oneOrTup, noUnk, AV.cells, Cells.get, ↓bnd_assoc]) (by simp only [↓sxp, sxq, seval, evP, evX, evR, blkOf, evA, storeA, resL, resV, oneOrTup, noUnk, AV.cells, Cells.get, ↓bnd_assoc]) (by simp only [a23, ↓sxp, sxq, seval, evP, evX, evR, blkOf, evA, storeA, resL, resV, oneOrTup, noUnk, AV.cells, Cells.get, ↓bnd_assoc]) (by simp only [a24, ↓sxp, sxq, seval, evP, evX, evR, blkOf, evA, storeA, resL, resV, oneOrTup, noUnk, AV.cells, Cells.get, ↓bnd_assoc]) (by simp only [↓sxp, sxq, seval, evP, evX, evR, blkOf, evA, storeA, resL, resV, oneOrTup, noUnk, AV.cells, Cells.get, ↓bnd_assoc]) ⟨ys ++ [(PEv.call (callF seed i), dv, dv)], HP.sep (row 5 1 (cb ((L.drop 11).take 5)) va) (HP.sep (row 5 1 (cb ((L.drop 25).take 2)) vb) D), by rw [List.map_append, ky1, hps]; simp, fun x hx => ?_, ((h7.rm 1).rm 1).rm 1⟩) fun lv A' H' q => q
      rcases List.mem_append.1 hx with hx | hx
      · exact ky2 x hx
      · simp at hx; subst hx; exact hRi
    · have h64' : ¬ ((L.getD 8 0).toNat : Int) < 64 := by omega
      rw [if_neg h64, List.nil_append] at hps
      have g5b := (h5.ord [1]).get
      simp only [a8, nc32, ↓g5, ↓g5b, ↓hcg, hc8, x8, h64', List.length_append, ↓sxp, sxq, seval, evP, evX, evR, blkOf, evA, storeA, resL, resV, oneOrTup, noUnk, AV.cells, Cells.get, ↓bnd_assoc]
      have hpc : pevC (.call (callF seed i)) dv dv = .int .i64 1 :: (C ++ [.int .i64 0, .int .i64 0, nilS, .int .i64 0, nilS, .str [], .str [], nilS]) := by simp only [pevC]; rw [hC]
      have hpo : (pevC (.call (callF seed i)) dv dv).all oneC = true := by
        rw [hpc, List.all_cons, List.all_append, hco]; rfl
      have hpl := pevC_len (.call (callF seed i)) dv dv
      rw [← hpc]
      generalize hP : pevC (.call (callF seed i)) dv dv = P at *
      have h6 := h5.push (c := P) (t := 46)
      have g6 := h6.get
      have hgP : Cells.getN (.lst P) 0 17 = some P := by
        have := getN_all P
        rw [hpl] at this; exact this
      refine Fin.app (h6.ord [3]) (by omega) (by simp only [srcA, blkOf, g6, Nat.one_mul, hgP]; rfl) (by omega) (new := P) (n := xs.length) (by rw [hpl]) hpo (flatE_len xs) (by omega) fun v' H7 h7 => ?_
      rw [← hP, ← flatE_snoc xs (PEv.call (callF seed i), dv, dv)] at h7
      simp only [a25, hwr, ↓sxp, sxq, seval, evP, evX, evR, blkOf, evA, storeA, resL, resV, oneOrTup, noUnk, AV.cells, Cells.get, ↓bnd_assoc]
      refine Fin.of3 (ih (i + 1) _ _ v' ds Dc (by omega) hdn hR (by simp only [a2, ↓sxp, sxq, seval, evP, evX, evR, blkOf, evA, storeA, resL, resV, oneOrTup, noUnk, AV.cells, Cells.get, ↓bnd_assoc]) (by simp only [↓sxp, sxq, seval, evP, evX, evR, blkOf, evA, storeA, resL, resV, oneOrTup, noUnk, AV.cells, Cells.get, ↓bnd_assoc]) (by simp only [a23, ↓sxp, sxq, seval, evP, evX, evR, blkOf, evA, storeA, resL, resV, oneOrTup, noUnk, AV.cells, Cells.get, ↓bnd_assoc]) (by simp only [a24, ↓sxp, sxq, seval, evP, evX, evR, blkOf, evA, storeA, resL, resV, oneOrTup, noUnk, AV.cells, Cells.get, ↓bnd_assoc]) (by simp only [↓sxp, sxq, seval, evP, evX, evR, blkOf, evA, storeA, resL, resV, oneOrTup, noUnk, AV.cells, Cells.get, ↓bnd_assoc]) ⟨xs ++ [(PEv.call (callF seed i), dv, dv)], D, by rw [List.map_append, hx1, hps]; rfl, fun x hx => ?_, ((h7.rm 1).rm 1).rm 1⟩) fun lv A' H' q => q
      rcases List.mem_append.1 hx with hx | hx
      · exact hx2 x hx
      · simp at hx; subst hx; exact hRi
theorem c_events (hE : EnvW E) (hG : GK W) {seed : List UInt8} {n : Nat} (hs : seed.length = 32) (hn : n ≤ 1024) (h : Holds H Γ) :
    ∃ v H', go W E 12 [.agg (cb seed), .int .i64 (n : Int)] H = some (.tup [v, .int .i64 0], H') ∧ EsH W (pevs seed n) H' v Γ := by
  suffices hh : Fin (fun r : AV × Heap => ∃ v, r.1 = .tup [v, .int .i64 0] ∧ EsH W (pevs seed n) r.2 v Γ) (go W E 12 [.agg (cb seed), .int .i64 (n : Int)] H) by
    obtain ⟨⟨r, H'⟩, e, v, hr, q⟩ := hh
    simp only at hr
    subst hr
    exact ⟨v, H', e, q⟩
  have h2 := h.push (c := cb seed) (t := 22)
  have g2 := h2.get
  have hgs := getN_cb hs
  rw [go_code hE.f12 (by simp [sf12])]
  generalize hcs : cb seed = cs at *
  simp only [sf12, ↓g2, ↓hgs, ↓sxp, sxq, seval, evP, evX, evR, blkOf, evA, storeA, resL, resV, oneOrTup, noUnk, AV.cells, Cells.get, ↓bnd_assoc]
  subst hcs
  refine Fin.callX (fun r H' => ∃ v, r = .tup [v, .int .i64 0] ∧ CsH W seed n H' v (blk H.next (cb seed) 22 :: Γ)) (by obtain ⟨v, H', e, q⟩ := c_calls hE hG hs hn h2; exact ⟨_, H', e, v, rfl, q⟩) fun r H3 ⟨vc, hr, ds, D, hdn, hR, h3⟩ => ?_
  subst hr
  obtain ⟨ac, cc, ev⟩ := h3.row_len (by omega) (n := n) (by rw [flatC_len, hdn])
  have hlen : lenV vc = some (.int .i64 n) := by rw [ev]; rfl
  simp only [hlen, ↓sxp, sxq, seval, evP, evX, evR, blkOf, evA, storeA, resL, resV, oneOrTup, noUnk, AV.cells, Cells.get, ↓bnd_assoc]
  have h4 : EsQ W (pevs seed 0) D H3 nilS (row 29 8 (flatC seed ds) vc :: blk H.next (cb seed) 22 :: Γ) := ⟨[], HP.emp, rfl, fun x hx => by simp at hx, (((h3.ord [1]).empty).row_nil)⟩
  refine Fin.loop (events_loop (Γ := Γ) (j2 := H.next) hE hs hn (vc := vc) n 0 _ _ nilS ds D (by omega) hdn hR (by simp only [↓sxp, sxq, seval, evP, evX, evR, blkOf, evA, storeA, resL, resV, oneOrTup, noUnk, AV.cells, Cells.get, ↓bnd_assoc]) (by simp only [↓sxp, sxq, seval, evP, evX, evR, blkOf, evA, storeA, resL, resV, oneOrTup, noUnk, AV.cells, Cells.get, ↓bnd_assoc]) (by simp only [↓sxp, sxq, seval, evP, evX, evR, blkOf, evA, storeA, resL, resV, oneOrTup, noUnk, AV.cells, Cells.get, ↓bnd_assoc]) (by simp only [↓sxp, sxq, seval, evP, evX, evR, blkOf, evA, storeA, resL, resV, oneOrTup, noUnk, AV.cells, Cells.get, ↓bnd_assoc]) (by simp only [↓sxp, sxq, seval, evP, evX, evR, blkOf, evA, storeA, resL, resV, oneOrTup, noUnk, AV.cells, Cells.get, ↓bnd_assoc] <;> rfl) h4) fun lv A H5 ⟨e1, v, a8, h5⟩ => ?_
  subst e1
  simp only [a8, ↓sxp, sxq, seval, evP, evX, evR, blkOf, evA, storeA, resL, resV, oneOrTup, noUnk, AV.cells, Cells.get, ↓bnd_assoc]
  obtain ⟨xs, D2, q1, q2, q3⟩ := h5.out
  exact Fin.ret ⟨v, rfl, xs, D2, q1, q2, (q3.rm 2).rm 2⟩
theorem c_events_no (hE : EnvW E) {seed : List UInt8} {n : Int} (hs : seed.length = 32) (hn : n < 0 ∨ 1024 < n) (h : Holds H Γ) :
    ∃ H', go W E 12 [.agg (cb seed), .int .i64 n] H = some (.tup [.sl none 0 (.exact 0), .int .i64 2], H') ∧ Holds H' Γ := by
  apply Ends.out
  refine (show Fin (fun r : AV × Heap => r.1 = .tup [.sl none 0 (.exact 0), .int .i64 2] ∧ Holds r.2 Γ) _ from ?_)
  have h2 := h.push (c := cb seed) (t := 22)
  have g2 := h2.get
  have hgs := getN_cb hs
  rw [go_code hE.f12 (by simp [sf12])]
  generalize hcs : cb seed = cs at *
  simp only [sf12, ↓g2, ↓hgs, ↓sxp, sxq, seval, evP, evX, evR, blkOf, evA, storeA, resL, resV, oneOrTup, noUnk, AV.cells, Cells.get, ↓bnd_assoc]
  subst hcs
  refine Fin.call (c_calls_no hE hn h2) fun H3 h3 => ?_
  simp only [↓sxp, sxq, seval, evP, evX, evR, blkOf, evA, storeA, resL, resV, oneOrTup, noUnk, AV.cells, Cells.get, ↓bnd_assoc]
  exact Fin.ret ⟨rfl, h3.tail⟩
end
end Go.Proofs.YtjfnhdiimibmiaaDoor.Sx

/- The law of calls by lot. -/
namespace Go.Proofs.YtjfnhdiimibmiaaDoor.Sx
open HP
section
variable {W : World} {E : Env} {H : Heap} {Γ : List HP}
structure EnvL (E : Env) : Prop extends EnvW E where
  f3 : E 3 = some (.code sf3)
  f5 : E 5 = some (.code sf5)
theorem c_awake (hE : EnvL E) (hG : GK W) (h : Holds H Γ) : ∃ H', go W E 5 [] H = some (.bool true, H') ∧ Holds H' Γ := by
  apply Ends.out
  refine (show Fin (fun r : AV × Heap => r.1 = .bool true ∧ Holds r.2 Γ) _ from ?_)
  have hg8 : ∀ a b c d e f g h : AV, Cells.getN (.lst [a, b, c, d, e, f, g, h]) 0 8 = some [a, b, c, d, e, f, g, h] := fun _ _ _ _ _ _ _ _ => rfl
  have hb : ∀ A, evP A (.build [.int .u8 0, .int .u8 0, .int .u8 0, .int .u8 0, .int .u8 0, .int .u8 0, .int .u8 0, .int .u8 0, .int .u8 0, .int .u8 0, .int .u8 0, .int .u8 0, .int .u8 0, .int .u8 0, .int .u8 0, .int .u8 0, .int .u8 0, .int .u8 0, .int .u8 0, .int .u8 0, .int .u8 0, .int .u8 0, .int .u8 0, .int .u8 0, .int .u8 0, .int .u8 0, .int .u8 0, .int .u8 0, .int .u8 0, .int .u8 0, .int .u8 0, .int .u8 0] [(0, 1, .c (.int .u8 7))]) = some (.agg (cb (7 :: List.replicate 31 0))) := fun _ => rfl
  rw [go_code hE.f5 (by simp [sf5])]
  simp only [sf5, ↓hb, ↓sxp, sxq, seval, evP, evX, evR, blkOf, evA, storeA, resL, resV, oneOrTup, noUnk, AV.cells, Cells.get, ↓bnd_assoc]
  refine Fin.callX (fun r H' => ∃ dv, r = .tup [.agg (cfC (callF (7 :: List.replicate 31 0) 0) dv), .int .i64 0] ∧ ∃ R, RdLike W (callF (7 :: List.replicate 31 0) 0).data dv R ∧ Holds H' (R :: Γ)) (by obtain ⟨dv, H', e, q⟩ := c_call (W := W) hE.toEnvW hG (seed := 7 :: List.replicate 31 0) (i := 0) rfl (by omega) h; exact ⟨_, H', e, dv, rfl, q⟩) fun r H3 ⟨dv, hr, R, hR, h3⟩ => ?_
  subst hr
  have hcf : callF (7 :: List.replicate 31 0) 0 = ⟨1, [117, 48], [], [], [], 0, 0, []⟩ := by unfold callF; rw [if_pos (by omega)]; rfl
  rw [hcf] at hR
  rw [hcf]
  have hd1 := (hR h3).one.2.2
  have hco := cfC_one ⟨1, [117, 48], [], [], [], 0, 0, []⟩ dv hd1
  have h4 := h3.push (c := c0) (t := 29)
  have hC : cfC ⟨1, [117, 48], [], [], [], 0, 0, []⟩ dv = [.int .i64 1, .str [117, 48], .str [], .str [], .str [], .int .i64 0, .int .i64 0, dv] := rfl
  rw [hC] at hco
  rw [hC]
  simp only [↓sxp, sxq, seval, evP, evX, evR, blkOf, evA, storeA, resL, resV, oneOrTup, noUnk, AV.cells, Cells.get, ↓bnd_assoc]
  refine Fin.write [.int .i64 1, .str [117, 48], .str [], .str [], .str [], .int .i64 0, .int .i64 0, dv] h4 rfl (by simp) hco fun H5 h5 => ?_
  have g5 := h5.get
  simp only [↓g5, ↓hg8, ↓sxp, sxq, seval, evP, evX, evR, blkOf, evA, storeA, resL, resV, oneOrTup, noUnk, AV.cells, Cells.get, ↓bnd_assoc]
  refine Fin.call (c_same hE.toEnvW (c := ⟨1, [117, 48], [], [], [], 0, 0, []⟩) (a := dv) (b := nilS) hR (R2 := HP.emp) (fun _ => Rd.nil) (by simp) ((h5.ord [1]).empty.ord [1])) fun H6 h6 => ?_
  simp only [↓sxp, sxq, seval, evP, evX, evR, blkOf, evA, storeA, resL, resV, oneOrTup, noUnk, AV.cells, Cells.get, ↓bnd_assoc]
  exact Fin.ret ⟨rfl, h6.tail.tail.tail⟩
abbrev l32 : List LK := [.i, .i, .i, .i, .i, .i, .i, .i, .i, .i, .i, .i, .i, .i, .i, .i, .i, .i, .i, .i, .i, .i, .i, .i, .i, .i, .i, .i, .i, .i, .i, .i]
theorem eqL_cb : ∀ (ls : List LK) (L : List UInt8), ls.length = L.length → (∀ l ∈ ls, l = .i) → eqL ls (cb L) (cb L) = some true := by
  intro ls
  induction ls with
  | nil =>
    intro L h _
    have : L = [] := List.eq_nil_of_length_eq_zero h.symm
    subst this; rfl
  | cons k ls ih =>
    intro L h hk
    cases L with
    | nil => simp at h
    | cons a L =>
      have := hk k (by simp)
      subst this
      simp only [cb, List.map_cons, eqL, eqLeaf, if_true, beq_self_eq_true]
      exact ih L (by simpa using h) (fun l hl => hk l (by simp [hl]))
theorem eq_agg {A : Tm} {x y : SX} {L : List UInt8} (hl : L.length = 32) (hx : evX A x = .agg (cb L)) (hy : evX A y = .agg (cb L)) : evP A (.eq true (.agg l32) x y) = some (.bool false) := by
  simp only [evP, hx, hy, eqV, eqL_cb l32 L (by rw [hl]; rfl) (by simp)]; rfl
theorem loop3 (hE : EnvL E) {seed : List UInt8} (hs : seed.length = 32) {j3 n : Nat} (hn : n ≤ 1024) {vc : AV} {ds : List AV} {D : HP} (hdn : ds.length = n) (hR : ∀ i (hi : i < ds.length), RdLike W (callF seed i).data ds[i] D) {df : List Nat} : ∀ (m i : Nat) (A : Tm) (H : Heap), i + m = n → getX A 3 = .ptr (some ⟨.own j3, 0⟩) → getX A 110 = vc → getX A 111 = .int .i64 n → getX A 112 = .int .i64 i → Holds H (blk j3 (cb seed) 22 :: row 29 8 (flatC seed ds) vc :: D :: Γ) →
    ∃ lv A' H', run W E (.loop lp3_0) ⟨A, df, none⟩ H = some (lv, ⟨A', df, none⟩, H') ∧ (lv = .exit 0 ∧ getX A' 2 = getX A 2 ∧ getX A' 11 = getX A 11 ∧ getX A' 12 = getX A 12 ∧ getX A' 14 = getX A 14 ∧ Holds H' (blk j3 (cb seed) 22 :: row 29 8 (flatC seed ds) vc :: D :: Γ)) := by
  have hlp : ∀ f H, run W E lp3_0 f H = run W E lp3_0 f H := fun _ _ => rfl
  conv at hlp => enter [f, H, 2]; unfold lp3_0
  intro m
  induction m with
  | zero =>
    intro i A H him a3 a110 a111 a112 h
    have : i = n := by omega
    subst this
    have hlt : ¬ (i : Int) < i := by omega
    rw [run_loop]
    simp only [hlp, a111, a112, hlt, ↓sxp, sxq, seval, evP, evX, evR, blkOf, evA, storeA, resL, resV, oneOrTup, noUnk, AV.cells, Cells.get, ↓bnd_assoc]
    exact ⟨_, _, _, rfl, rfl, by simp only [↓sxp, sxq, seval, evP, evX, evR, blkOf, evA, storeA, resL, resV, oneOrTup, noUnk, AV.cells, Cells.get, ↓bnd_assoc], by simp only [↓sxp, sxq, seval, evP, evX, evR, blkOf, evA, storeA, resL, resV, oneOrTup, noUnk, AV.cells, Cells.get, ↓bnd_assoc], by simp only [↓sxp, sxq, seval, evP, evX, evR, blkOf, evA, storeA, resL, resV, oneOrTup, noUnk, AV.cells, Cells.get, ↓bnd_assoc], by simp only [↓sxp, sxq, seval, evP, evX, evR, blkOf, evA, storeA, resL, resV, oneOrTup, noUnk, AV.cells, Cells.get, ↓bnd_assoc], h⟩
  | succ m ih =>
    intro i A H him a3 a110 a111 a112 h
    have hlt : (i : Int) < n := by omega
    have hwr : IntKind.i64.wrap ((i : Int) + 1) = ((i + 1 : Nat) : Int) := by rw [w64 (by omega)]; simp
    obtain ⟨jc, lc, cc, rfl, gc⟩ := (h.ord [1]).row_get (by omega) (n := n) (by rw [flatC_len, hdn]) (by omega)
    have hgc : Cells.getN (.lst (flatC seed ds)) (i * 8) 8 = some (cfC (callF seed i) (ds[i]'(by omega))) := by
      have := getN_sub (i * 8) 8 (getN_all (flatC seed ds)) (by rw [flatC_len]; omega)
      rw [flatC_get seed ds i (by omega), Nat.zero_add] at this
      exact this
    have hRi : RdLike W (callF seed i).data (ds[i]'(by omega)) D := fun hh => hR i (by omega) hh
    generalize hdv : (ds[i]'(by omega)) = dv at *
    have hd1 := (hRi (h.ord [2])).one.2.2
    have hc8 := cfC_len (callF seed i) dv
    have hco := cfC_one (callF seed i) dv hd1
    have hcg := cfC_getN (callF seed i) dv
    have h1 := h.push (c := c0) (t := 29)
    have hgs := getN_cb hs
    apply Fin.ex3
    rw [run_loop]
    generalize hC : cfC (callF seed i) dv = C at *
    simp only [hlp, a3, a110, a111, a112, hlt, Int.natCast_nonneg, and_self, Int.toNat_natCast, ↓gc, ↓hgc, hc8, ↓sxp, sxq, seval, evP, evX, evR, blkOf, evA, storeA, resL, resV, oneOrTup, noUnk, AV.cells, Cells.get, ↓bnd_assoc]
    generalize H.next = j16 at *
    refine Fin.write C h1 (setN_all (by rw [hc8]; rfl)) (by rw [hc8]; exact Nat.le_refl _) hco fun H2 h2 => ?_
    have h3 := h2.bump 6
    have g3 := h2.get
    have g3b := (h2.ord [1]).get
    generalize hcs : cb seed = cs at *
    simp only [a3, ↓g3, ↓g3b, ↓hgs, ↓hcg, ↓sxp, sxq, seval, evP, evX, evR, blkOf, evA, storeA, resL, resV, oneOrTup, noUnk, AV.cells, Cells.get, ↓bnd_assoc]
    subst hcs
    refine Fin.callX (fun r H' => ∃ d2, r = .agg (cfC (callF seed i) d2) ∧ ∃ R, RdLike W (callF seed i).data d2 R ∧ Holds H' (R :: blk j16 C 29 :: blk j3 (cb seed) 22 :: row 29 8 (flatC seed ds) (.sl (some ⟨.own jc, 0⟩) n cc) :: D :: Γ)) (by obtain ⟨d2, H', e, q⟩ := c_dcall (W := W) hE.toEnvW hs (show i ≤ 1024 by omega) h3; exact ⟨_, H', e, d2, rfl, q⟩) fun r H4 ⟨d2, hr, R, hRr, h4⟩ => ?_
    subst hr
    have g4 := (h4.ord [1]).get
    have m9 : atF (lotF seed i) 6 9 < 9 := Nat.mod_lt _ (by omega)
    have hdl : (callF seed i).data.length < 65536 := by
      unfold callF
      split
      · simp
      · unfold choF; simp only []; split <;> (try split) <;> (try split) <;> (try split) <;> (try split) <;> (try split) <;> (try split) <;> simp [List.length_take] <;> omega
    simp only [↓g3, ↓g4, ↓hcg, ↓sxp, sxq, seval, evP, evX, evR, blkOf, evA, storeA, resL, resV, oneOrTup, noUnk, AV.cells, Cells.get, ↓bnd_assoc]
    rw [← hC]
    refine Fin.call (c_same hE.toEnvW hRi hRr hdl (h4.ord [4, 0])) fun H5 h5 => ?_
    simp only [a112, hwr, ↓sxp, sxq, seval, evP, evX, evR, blkOf, evA, storeA, resL, resV, oneOrTup, noUnk, AV.cells, Cells.get, ↓bnd_assoc]
    have h6 : Holds H5 (blk j3 (cb seed) 22 :: row 29 8 (flatC seed ds) (.sl (some ⟨.own jc, 0⟩) n cc) :: D :: Γ) := by
      have := ((h5.rm 1).rm 1).ord [1, 1]
      exact this
    exact Fin.of3 (ih (i + 1) _ _ (by omega) (by simp only [a3, ↓sxp, sxq, seval, evP, evX, evR, blkOf, evA, storeA, resL, resV, oneOrTup, noUnk, AV.cells, Cells.get, ↓bnd_assoc]) (by simp only [a110, ↓sxp, sxq, seval, evP, evX, evR, blkOf, evA, storeA, resL, resV, oneOrTup, noUnk, AV.cells, Cells.get, ↓bnd_assoc]) (by simp only [a111, ↓sxp, sxq, seval, evP, evX, evR, blkOf, evA, storeA, resL, resV, oneOrTup, noUnk, AV.cells, Cells.get, ↓bnd_assoc]) (by simp only [↓sxp, sxq, seval, evP, evX, evR, blkOf, evA, storeA, resL, resV, oneOrTup, noUnk, AV.cells, Cells.get, ↓bnd_assoc]) h6) fun lv A' H' ⟨q1, q2, q3, q4, q5, q6⟩ => ⟨q1, q2.trans (by simp only [↓sxp, sxq, seval, evP, evX, evR, blkOf, evA, storeA, resL, resV, oneOrTup, noUnk, AV.cells, Cells.get, ↓bnd_assoc]), q3.trans (by simp only [↓sxp, sxq, seval, evP, evX, evR, blkOf, evA, storeA, resL, resV, oneOrTup, noUnk, AV.cells, Cells.get, ↓bnd_assoc]), q4.trans (by simp only [↓sxp, sxq, seval, evP, evX, evR, blkOf, evA, storeA, resL, resV, oneOrTup, noUnk, AV.cells, Cells.get, ↓bnd_assoc]), q5.trans (by simp only [↓sxp, sxq, seval, evP, evX, evR, blkOf, evA, storeA, resL, resV, oneOrTup, noUnk, AV.cells, Cells.get, ↓bnd_assoc]), q6⟩
end
end Go.Proofs.YtjfnhdiimibmiaaDoor.Sx

