/- A second, deterministic reading of the program, part 5: proved sound for every order and every capacity; then what the functions do. -/
import Derived.Test.YtjfnhdiimibmiaaDoorCaD
/- The document's sum. -/
namespace Go.Proofs.YtjfnhdiimibmiaaDoor.Sx
open HP
section
variable {W : World} {E : Env} {H : Heap} {Γ : List HP}
theorem set_mid {α : Type} (a : List α) (x y : α) (b : List α) : (a ++ x :: b).set a.length y = a ++ y :: b := by
  rw [List.set_append_right _ _ (Nat.le_refl _), Nat.sub_self, List.set_cons_zero]
theorem do_loop1 {x : BitVec 64} {js j22 i : Nat} {ws : List (BitVec 64)} (hws : ws.length = 8) (hi : i < 8) (hx : ws.getD i 0 = x) {df : List Nat} : ∀ (m k sc r : Nat) (A : Tm) (H : Heap) (acc : List UInt8), k + m = 8 → acc.length = 8 * i + k → r = 56 - 8 * i → (0 < m → sc = 256 ^ (m - 1)) → getX A 5 = .sl (some ⟨.own js, 0⟩) 8 (.exact 8) → getX A 22 = .ptr (some ⟨.own j22, 0⟩) → getX A 23 = .int .i64 i → getX A 24 = .int .u64 sc → getX A 25 = .int .i64 k → Holds H (blk j22 (cb (acc ++ List.replicate (m + r) 0)) 71 :: blk js (wl ws) 91 :: Γ) →
    ∃ lv A' H', run W E (.loop lp53_4) ⟨A, df, none⟩ H = some (lv, ⟨A', df, none⟩, H') ∧ (lv = .exit 8 ∧ getX A' 2 = getX A 2 ∧ getX A' 5 = getX A 5 ∧ getX A' 22 = getX A 22 ∧ getX A' 23 = getX A 23 ∧ Holds H' (blk j22 (cb (acc ++ bytesN m x.toNat ++ List.replicate r 0)) 71 :: blk js (wl ws) 91 :: Γ)) := by
  have hlp : ∀ f H, run W E lp53_4 f H = run W E lp53_4 f H := fun _ _ => rfl
  conv at hlp => enter [f, H, 2]; unfold lp53_4
  intro m
  induction m with
  | zero =>
    intro k sc r A H acc hkm ha hr hsc a5 a22 a23 a24 a25 h
    have : k = 8 := by omega
    subst this
    have a25' : getX A 25 = .int .i64 8 := a25
    rw [run_loop]
    simp only [hlp, a25', ↓sxp, sxq, ↓reduceIte, Nat.reduceBEq, Nat.reduceLT, evP, evX, evR, blkOf, evA, storeA, Nat.reduceEqDiff, resL, resV, oneOrTup, Int.reduceEq, Int.reduceLT, Int.reduceLE, Int.reduceNeg, Int.reduceAdd, Int.reduceSub, Int.reduceMul, Int.reduceToNat, Nat.reduceAdd, noUnk, AV.cells, reduceCtorEq, Nat.reduceLeDiff, Cells.get, Nat.reduceMul, ↓bnd_assoc]
    exact ⟨_, _, _, rfl, rfl, by simp only [↓sxp, sxq, ↓reduceIte, Nat.reduceBEq, Nat.reduceLT, evP, evX, evR, blkOf, evA, storeA, Nat.reduceEqDiff, resL, resV, oneOrTup, Int.reduceEq, Int.reduceLT, Int.reduceLE, Int.reduceNeg, Int.reduceAdd, Int.reduceSub, Int.reduceMul, Int.reduceToNat, Nat.reduceAdd, noUnk, AV.cells, reduceCtorEq, Nat.reduceLeDiff, Cells.get, Nat.reduceMul, ↓bnd_assoc], by simp only [↓sxp, sxq, ↓reduceIte, Nat.reduceBEq, Nat.reduceLT, evP, evX, evR, blkOf, evA, storeA, Nat.reduceEqDiff, resL, resV, oneOrTup, Int.reduceEq, Int.reduceLT, Int.reduceLE, Int.reduceNeg, Int.reduceAdd, Int.reduceSub, Int.reduceMul, Int.reduceToNat, Nat.reduceAdd, noUnk, AV.cells, reduceCtorEq, Nat.reduceLeDiff, Cells.get, Nat.reduceMul, ↓bnd_assoc], by simp only [↓sxp, sxq, ↓reduceIte, Nat.reduceBEq, Nat.reduceLT, evP, evX, evR, blkOf, evA, storeA, Nat.reduceEqDiff, resL, resV, oneOrTup, Int.reduceEq, Int.reduceLT, Int.reduceLE, Int.reduceNeg, Int.reduceAdd, Int.reduceSub, Int.reduceMul, Int.reduceToNat, Nat.reduceAdd, noUnk, AV.cells, reduceCtorEq, Nat.reduceLeDiff, Cells.get, Nat.reduceMul, ↓bnd_assoc], by simp only [↓sxp, sxq, ↓reduceIte, Nat.reduceBEq, Nat.reduceLT, evP, evX, evR, blkOf, evA, storeA, Nat.reduceEqDiff, resL, resV, oneOrTup, Int.reduceEq, Int.reduceLT, Int.reduceLE, Int.reduceNeg, Int.reduceAdd, Int.reduceSub, Int.reduceMul, Int.reduceToNat, Nat.reduceAdd, noUnk, AV.cells, reduceCtorEq, Nat.reduceLeDiff, Cells.get, Nat.reduceMul, ↓bnd_assoc], by rw [bytesN, List.append_nil]; rw [Nat.zero_add] at h; exact h⟩
  | succ m ih =>
    intro k sc r A H acc hkm ha hr hsc a5 a22 a23 a24 a25 h
    have hlt : (k : Int) < 8 := by omega
    have hwr : IntKind.i64.wrap ((k : Int) + 1) = ((k + 1 : Nat) : Int) := by rw [w64 (by omega)]; simp
    have hsc' : sc = 256 ^ m := hsc (by omega)
    have hsc0 : sc ≠ 0 := by rw [hsc']; exact Nat.pos_iff_ne_zero.1 (Nat.pow_pos (by omega))
    have hscl : sc < 18446744073709551616 := by rw [hsc']; exact Nat.pow_lt_pow_right (a := 256) (by omega) (show m < 8 by omega)
    have e1 := n_quo x.toNat sc hsc0 x.isLt
    have e2 : bin .rem (.int .u64 ((x.toNat / sc : Nat) : Int)) (.int .u64 256) = some (.int .u64 ((x.toNat / sc % 256 : Nat) : Int)) := n_rem (x.toNat / sc) 256 (by omega)
    have e3 : IntKind.u8.wrap ((x.toNat / sc % 256 : Nat) : Int) = ((byteAt x.toNat m).toNat : Int) := by rw [wrap_u8', u8_mod, hsc']; rfl
    have e4 : bin .quo (.int .u64 (sc : Int)) (.int .u64 256) = some (.int .u64 ((sc / 256 : Nat) : Int)) := n_quo sc 256 (by omega) hscl
    have m1 : IntKind.i64.wrap (8 * (i : Int)) = ((8 * i : Nat) : Int) := by rw [w64 (by omega)]; omega
    have m2 : IntKind.i64.wrap (((8 * i : Nat) : Int) + (k : Int)) = ((8 * i + k : Nat) : Int) := by rw [w64 (by omega)]; omega
    have i1 : (i : Int) < 8 := by omega
    have i2 : ((8 * i + k : Nat) : Int) < 64 := by omega
    have gs := (h.ord [1]).get
    have gx := wl_get (show i < ws.length by omega)
    rw [hx] at gx
    have hset : (cb (acc ++ List.replicate (m + 1 + r) 0)).set (8 * i + k) (.int .u8 (byteAt x.toNat m).toNat) = cb (acc ++ [byteAt x.toNat m] ++ List.replicate (m + r) 0) := by
      rw [← ha, show m + 1 + r = (m + r) + 1 from by omega, List.replicate_succ]
      have := set_mid (cb acc) (.int .u8 ((0 : UInt8).toNat)) (.int .u8 (byteAt x.toNat m).toNat) (cb (List.replicate (m + r) 0))
      rw [cb_len] at this
      simp only [cb, List.map_append, List.map_cons, List.map_nil, List.append_assoc, List.cons_append, List.nil_append] at this ⊢
      exact this
    apply Fin.ex3
    rw [run_loop]
    simp only [hlp, a5, a22, a23, a24, a25, hlt, nc8, nc64, m1, m2, i1, i2, Int.natCast_nonneg, and_self, ↓gs, gx, e1, e2, e3, e4, Int.toNat_natCast, ↓sxp, sxq, ↓reduceIte, Nat.reduceBEq, Nat.reduceLT, evP, evX, evR, blkOf, evA, storeA, Nat.reduceEqDiff, resL, resV, oneOrTup, Int.reduceEq, Int.reduceLT, Int.reduceLE, Int.reduceNeg, Int.reduceAdd, Int.reduceSub, Int.reduceMul, Int.reduceToNat, Nat.reduceAdd, noUnk, AV.cells, reduceCtorEq, Nat.reduceLeDiff, Cells.get, Nat.reduceMul, ↓bnd_assoc]
    refine Fin.write (cb (acc ++ [byteAt x.toNat m] ++ List.replicate (m + r) 0)) h (by simp only [Cells.setN, Cells.set, hset]) (by rw [cb_len]; simp; omega) rfl fun H4 h4 => ?_
    simp only [a24, a25, e4, hwr, ↓sxp, sxq, ↓reduceIte, Nat.reduceBEq, Nat.reduceLT, evP, evX, evR, blkOf, evA, storeA, Nat.reduceEqDiff, resL, resV, oneOrTup, Int.reduceEq, Int.reduceLT, Int.reduceLE, Int.reduceNeg, Int.reduceAdd, Int.reduceSub, Int.reduceMul, Int.reduceToNat, Nat.reduceAdd, noUnk, AV.cells, reduceCtorEq, Nat.reduceLeDiff, Cells.get, Nat.reduceMul, ↓bnd_assoc]
    refine Fin.of3 (ih (k + 1) (sc / 256) r _ _ (acc ++ [byteAt x.toNat m]) (by omega) (by simp; omega) hr (fun hm => ?_) (by simp only [a5, ↓sxp, sxq, ↓reduceIte, Nat.reduceBEq, Nat.reduceLT, evP, evX, evR, blkOf, evA, storeA, Nat.reduceEqDiff, resL, resV, oneOrTup, Int.reduceEq, Int.reduceLT, Int.reduceLE, Int.reduceNeg, Int.reduceAdd, Int.reduceSub, Int.reduceMul, Int.reduceToNat, Nat.reduceAdd, noUnk, AV.cells, reduceCtorEq, Nat.reduceLeDiff, Cells.get, Nat.reduceMul, ↓bnd_assoc]) (by simp only [a22, ↓sxp, sxq, ↓reduceIte, Nat.reduceBEq, Nat.reduceLT, evP, evX, evR, blkOf, evA, storeA, Nat.reduceEqDiff, resL, resV, oneOrTup, Int.reduceEq, Int.reduceLT, Int.reduceLE, Int.reduceNeg, Int.reduceAdd, Int.reduceSub, Int.reduceMul, Int.reduceToNat, Nat.reduceAdd, noUnk, AV.cells, reduceCtorEq, Nat.reduceLeDiff, Cells.get, Nat.reduceMul, ↓bnd_assoc]) (by simp only [a23, ↓sxp, sxq, ↓reduceIte, Nat.reduceBEq, Nat.reduceLT, evP, evX, evR, blkOf, evA, storeA, Nat.reduceEqDiff, resL, resV, oneOrTup, Int.reduceEq, Int.reduceLT, Int.reduceLE, Int.reduceNeg, Int.reduceAdd, Int.reduceSub, Int.reduceMul, Int.reduceToNat, Nat.reduceAdd, noUnk, AV.cells, reduceCtorEq, Nat.reduceLeDiff, Cells.get, Nat.reduceMul, ↓bnd_assoc]) (by simp only [↓sxp, sxq, ↓reduceIte, Nat.reduceBEq, Nat.reduceLT, evP, evX, evR, blkOf, evA, storeA, Nat.reduceEqDiff, resL, resV, oneOrTup, Int.reduceEq, Int.reduceLT, Int.reduceLE, Int.reduceNeg, Int.reduceAdd, Int.reduceSub, Int.reduceMul, Int.reduceToNat, Nat.reduceAdd, noUnk, AV.cells, reduceCtorEq, Nat.reduceLeDiff, Cells.get, Nat.reduceMul, ↓bnd_assoc]) (by simp only [↓sxp, sxq, ↓reduceIte, Nat.reduceBEq, Nat.reduceLT, evP, evX, evR, blkOf, evA, storeA, Nat.reduceEqDiff, resL, resV, oneOrTup, Int.reduceEq, Int.reduceLT, Int.reduceLE, Int.reduceNeg, Int.reduceAdd, Int.reduceSub, Int.reduceMul, Int.reduceToNat, Nat.reduceAdd, noUnk, AV.cells, reduceCtorEq, Nat.reduceLeDiff, Cells.get, Nat.reduceMul, ↓bnd_assoc]) h4) fun lv A' H' ⟨q1, q2, q3, q4, q5, q6⟩ => ⟨q1, q2.trans (by simp only [↓sxp, sxq, ↓reduceIte, Nat.reduceBEq, Nat.reduceLT, evP, evX, evR, blkOf, evA, storeA, Nat.reduceEqDiff, resL, resV, oneOrTup, Int.reduceEq, Int.reduceLT, Int.reduceLE, Int.reduceNeg, Int.reduceAdd, Int.reduceSub, Int.reduceMul, Int.reduceToNat, Nat.reduceAdd, noUnk, AV.cells, reduceCtorEq, Nat.reduceLeDiff, Cells.get, Nat.reduceMul, ↓bnd_assoc]), q3.trans (by simp only [a5, ↓sxp, sxq, ↓reduceIte, Nat.reduceBEq, Nat.reduceLT, evP, evX, evR, blkOf, evA, storeA, Nat.reduceEqDiff, resL, resV, oneOrTup, Int.reduceEq, Int.reduceLT, Int.reduceLE, Int.reduceNeg, Int.reduceAdd, Int.reduceSub, Int.reduceMul, Int.reduceToNat, Nat.reduceAdd, noUnk, AV.cells, reduceCtorEq, Nat.reduceLeDiff, Cells.get, Nat.reduceMul, ↓bnd_assoc]), q4.trans (by simp only [a22, ↓sxp, sxq, ↓reduceIte, Nat.reduceBEq, Nat.reduceLT, evP, evX, evR, blkOf, evA, storeA, Nat.reduceEqDiff, resL, resV, oneOrTup, Int.reduceEq, Int.reduceLT, Int.reduceLE, Int.reduceNeg, Int.reduceAdd, Int.reduceSub, Int.reduceMul, Int.reduceToNat, Nat.reduceAdd, noUnk, AV.cells, reduceCtorEq, Nat.reduceLeDiff, Cells.get, Nat.reduceMul, ↓bnd_assoc]), q5.trans (by simp only [a23, ↓sxp, sxq, ↓reduceIte, Nat.reduceBEq, Nat.reduceLT, evP, evX, evR, blkOf, evA, storeA, Nat.reduceEqDiff, resL, resV, oneOrTup, Int.reduceEq, Int.reduceLT, Int.reduceLE, Int.reduceNeg, Int.reduceAdd, Int.reduceSub, Int.reduceMul, Int.reduceToNat, Nat.reduceAdd, noUnk, AV.cells, reduceCtorEq, Nat.reduceLeDiff, Cells.get, Nat.reduceMul, ↓bnd_assoc]), ?_⟩
    · rw [hsc']
      cases m with
      | zero => omega
      | succ m => rw [Nat.pow_succ, Nat.mul_div_cancel _ (by omega)]; rfl
    · rw [bytesN]
      simp only [List.append_assoc, List.cons_append, List.nil_append] at q6 ⊢; exact q6
theorem bytesL_take (ws : List (BitVec 64)) (i : Nat) (hi : i < ws.length) : bytesL (ws.take (i + 1)) = bytesL (ws.take i) ++ bytesN 8 (ws.getD i 0).toNat := by
  rw [take_succ_getD _ _ hi]
  simp [bytesL]
theorem do_loop0 {js j22 : Nat} {ws : List (BitVec 64)} (hws : ws.length = 8) {df : List Nat} : ∀ (m i : Nat) (A : Tm) (H : Heap), i + m = 8 → getX A 5 = .sl (some ⟨.own js, 0⟩) 8 (.exact 8) → getX A 22 = .ptr (some ⟨.own j22, 0⟩) → getX A 23 = .int .i64 i → Holds H (blk j22 (cb (bytesL (ws.take i) ++ List.replicate (64 - 8 * i) 0)) 71 :: blk js (wl ws) 91 :: Γ) →
    ∃ lv A' H', run W E (.loop lp53_3) ⟨A, df, none⟩ H = some (lv, ⟨A', df, none⟩, H') ∧ (lv = .exit 6 ∧ getX A' 2 = getX A 2 ∧ getX A' 22 = getX A 22 ∧ Holds H' (blk j22 (cb (bytesL ws)) 71 :: blk js (wl ws) 91 :: Γ)) := by
  have hlp : ∀ f H, run W E lp53_3 f H = run W E lp53_3 f H := fun _ _ => rfl
  conv at hlp => enter [f, H, 2]; unfold lp53_3
  intro m
  induction m with
  | zero =>
    intro i A H him a5 a22 a23 h
    have : i = 8 := by omega
    subst this
    have a23' : getX A 23 = .int .i64 8 := a23
    rw [run_loop]
    simp only [hlp, a23', ↓sxp, sxq, ↓reduceIte, Nat.reduceBEq, Nat.reduceLT, evP, evX, evR, blkOf, evA, storeA, Nat.reduceEqDiff, resL, resV, oneOrTup, Int.reduceEq, Int.reduceLT, Int.reduceLE, Int.reduceNeg, Int.reduceAdd, Int.reduceSub, Int.reduceMul, Int.reduceToNat, Nat.reduceAdd, noUnk, AV.cells, reduceCtorEq, Nat.reduceLeDiff, Cells.get, Nat.reduceMul, ↓bnd_assoc]
    rw [List.take_of_length_le (by omega)] at h
    have e : bytesL ws ++ List.replicate (64 - 8 * 8) 0 = bytesL ws := by simp
    rw [e] at h
    exact ⟨_, _, _, rfl, rfl, by simp only [↓sxp, sxq, ↓reduceIte, Nat.reduceBEq, Nat.reduceLT, evP, evX, evR, blkOf, evA, storeA, Nat.reduceEqDiff, resL, resV, oneOrTup, Int.reduceEq, Int.reduceLT, Int.reduceLE, Int.reduceNeg, Int.reduceAdd, Int.reduceSub, Int.reduceMul, Int.reduceToNat, Nat.reduceAdd, noUnk, AV.cells, reduceCtorEq, Nat.reduceLeDiff, Cells.get, Nat.reduceMul, ↓bnd_assoc], by simp only [↓sxp, sxq, ↓reduceIte, Nat.reduceBEq, Nat.reduceLT, evP, evX, evR, blkOf, evA, storeA, Nat.reduceEqDiff, resL, resV, oneOrTup, Int.reduceEq, Int.reduceLT, Int.reduceLE, Int.reduceNeg, Int.reduceAdd, Int.reduceSub, Int.reduceMul, Int.reduceToNat, Nat.reduceAdd, noUnk, AV.cells, reduceCtorEq, Nat.reduceLeDiff, Cells.get, Nat.reduceMul, ↓bnd_assoc], h⟩
  | succ m ih =>
    intro i A H him a5 a22 a23 h
    have hlt : (i : Int) < 8 := by omega
    have hwr : IntKind.i64.wrap ((i : Int) + 1) = ((i + 1 : Nat) : Int) := by rw [w64 (by omega)]; simp
    apply Fin.ex3
    rw [run_loop]
    simp only [hlp, a5, a22, a23, hlt, ↓sxp, sxq, ↓reduceIte, Nat.reduceBEq, Nat.reduceLT, evP, evX, evR, blkOf, evA, storeA, Nat.reduceEqDiff, resL, resV, oneOrTup, Int.reduceEq, Int.reduceLT, Int.reduceLE, Int.reduceNeg, Int.reduceAdd, Int.reduceSub, Int.reduceMul, Int.reduceToNat, Nat.reduceAdd, noUnk, AV.cells, reduceCtorEq, Nat.reduceLeDiff, Cells.get, Nat.reduceMul, ↓bnd_assoc]
    refine Fin.loop (do_loop1 (Γ := Γ) (js := js) (j22 := j22) (x := ws.getD i 0) (i := i) hws (by omega) rfl 8 0 72057594037927936 (56 - 8 * i) _ _ (bytesL (ws.take i)) (by omega) (by rw [bytesL_len, List.length_take]; omega) rfl (fun _ => rfl) (by simp only [a5, ↓sxp, sxq, ↓reduceIte, Nat.reduceBEq, Nat.reduceLT, evP, evX, evR, blkOf, evA, storeA, Nat.reduceEqDiff, resL, resV, oneOrTup, Int.reduceEq, Int.reduceLT, Int.reduceLE, Int.reduceNeg, Int.reduceAdd, Int.reduceSub, Int.reduceMul, Int.reduceToNat, Nat.reduceAdd, noUnk, AV.cells, reduceCtorEq, Nat.reduceLeDiff, Cells.get, Nat.reduceMul, ↓bnd_assoc]) (by simp only [a22, ↓sxp, sxq, ↓reduceIte, Nat.reduceBEq, Nat.reduceLT, evP, evX, evR, blkOf, evA, storeA, Nat.reduceEqDiff, resL, resV, oneOrTup, Int.reduceEq, Int.reduceLT, Int.reduceLE, Int.reduceNeg, Int.reduceAdd, Int.reduceSub, Int.reduceMul, Int.reduceToNat, Nat.reduceAdd, noUnk, AV.cells, reduceCtorEq, Nat.reduceLeDiff, Cells.get, Nat.reduceMul, ↓bnd_assoc]) (by simp only [a23, ↓sxp, sxq, ↓reduceIte, Nat.reduceBEq, Nat.reduceLT, evP, evX, evR, blkOf, evA, storeA, Nat.reduceEqDiff, resL, resV, oneOrTup, Int.reduceEq, Int.reduceLT, Int.reduceLE, Int.reduceNeg, Int.reduceAdd, Int.reduceSub, Int.reduceMul, Int.reduceToNat, Nat.reduceAdd, noUnk, AV.cells, reduceCtorEq, Nat.reduceLeDiff, Cells.get, Nat.reduceMul, ↓bnd_assoc]) (by simp only [↓sxp, sxq, ↓reduceIte, Nat.reduceBEq, Nat.reduceLT, evP, evX, evR, blkOf, evA, storeA, Nat.reduceEqDiff, resL, resV, oneOrTup, Int.reduceEq, Int.reduceLT, Int.reduceLE, Int.reduceNeg, Int.reduceAdd, Int.reduceSub, Int.reduceMul, Int.reduceToNat, Nat.reduceAdd, noUnk, AV.cells, reduceCtorEq, Nat.reduceLeDiff, Cells.get, Nat.reduceMul, ↓bnd_assoc]; rfl) (by simp only [↓sxp, sxq, ↓reduceIte, Nat.reduceBEq, Nat.reduceLT, evP, evX, evR, blkOf, evA, storeA, Nat.reduceEqDiff, resL, resV, oneOrTup, Int.reduceEq, Int.reduceLT, Int.reduceLE, Int.reduceNeg, Int.reduceAdd, Int.reduceSub, Int.reduceMul, Int.reduceToNat, Nat.reduceAdd, noUnk, AV.cells, reduceCtorEq, Nat.reduceLeDiff, Cells.get, Nat.reduceMul, ↓bnd_assoc]; rfl) (by rw [show 8 + (56 - 8 * i) = 64 - 8 * i from by omega]; exact h)) fun lv A1 H1 ⟨q1, q2, q3, q4, q5, h1⟩ => ?_
    subst q1
    simp only [a5, a22, a23, ↓sxp, sxq, ↓reduceIte, Nat.reduceBEq, Nat.reduceLT, evP, evX, evR, blkOf, evA, storeA, Nat.reduceEqDiff, resL, resV, oneOrTup, Int.reduceEq, Int.reduceLT, Int.reduceLE, Int.reduceNeg, Int.reduceAdd, Int.reduceSub, Int.reduceMul, Int.reduceToNat, Nat.reduceAdd, noUnk, AV.cells, reduceCtorEq, Nat.reduceLeDiff, Cells.get, Nat.reduceMul, ↓bnd_assoc] at q2 q3 q4 q5
    rw [← bytesL_take ws i (by omega), show 56 - 8 * i = 64 - 8 * (i + 1) from by omega] at h1
    simp only [q5, hwr, ↓sxp, sxq, ↓reduceIte, Nat.reduceBEq, Nat.reduceLT, evP, evX, evR, blkOf, evA, storeA, Nat.reduceEqDiff, resL, resV, oneOrTup, Int.reduceEq, Int.reduceLT, Int.reduceLE, Int.reduceNeg, Int.reduceAdd, Int.reduceSub, Int.reduceMul, Int.reduceToNat, Nat.reduceAdd, noUnk, AV.cells, reduceCtorEq, Nat.reduceLeDiff, Cells.get, Nat.reduceMul, ↓bnd_assoc]
    refine Fin.of3 (ih (i + 1) _ _ (by omega) (by simp only [q3, ↓sxp, sxq, ↓reduceIte, Nat.reduceBEq, Nat.reduceLT, evP, evX, evR, blkOf, evA, storeA, Nat.reduceEqDiff, resL, resV, oneOrTup, Int.reduceEq, Int.reduceLT, Int.reduceLE, Int.reduceNeg, Int.reduceAdd, Int.reduceSub, Int.reduceMul, Int.reduceToNat, Nat.reduceAdd, noUnk, AV.cells, reduceCtorEq, Nat.reduceLeDiff, Cells.get, Nat.reduceMul, ↓bnd_assoc]) (by simp only [q4, ↓sxp, sxq, ↓reduceIte, Nat.reduceBEq, Nat.reduceLT, evP, evX, evR, blkOf, evA, storeA, Nat.reduceEqDiff, resL, resV, oneOrTup, Int.reduceEq, Int.reduceLT, Int.reduceLE, Int.reduceNeg, Int.reduceAdd, Int.reduceSub, Int.reduceMul, Int.reduceToNat, Nat.reduceAdd, noUnk, AV.cells, reduceCtorEq, Nat.reduceLeDiff, Cells.get, Nat.reduceMul, ↓bnd_assoc]) (by simp only [↓sxp, sxq, ↓reduceIte, Nat.reduceBEq, Nat.reduceLT, evP, evX, evR, blkOf, evA, storeA, Nat.reduceEqDiff, resL, resV, oneOrTup, Int.reduceEq, Int.reduceLT, Int.reduceLE, Int.reduceNeg, Int.reduceAdd, Int.reduceSub, Int.reduceMul, Int.reduceToNat, Nat.reduceAdd, noUnk, AV.cells, reduceCtorEq, Nat.reduceLeDiff, Cells.get, Nat.reduceMul, ↓bnd_assoc]) h1) fun lv A' H' ⟨r1, r2, r3, r4⟩ => ⟨r1, r2.trans (by simp only [q2, ↓sxp, sxq, ↓reduceIte, Nat.reduceBEq, Nat.reduceLT, evP, evX, evR, blkOf, evA, storeA, Nat.reduceEqDiff, resL, resV, oneOrTup, Int.reduceEq, Int.reduceLT, Int.reduceLE, Int.reduceNeg, Int.reduceAdd, Int.reduceSub, Int.reduceMul, Int.reduceToNat, Nat.reduceAdd, noUnk, AV.cells, reduceCtorEq, Nat.reduceLeDiff, Cells.get, Nat.reduceMul, ↓bnd_assoc]), r3.trans (by simp only [q4, a22, ↓sxp, sxq, ↓reduceIte, Nat.reduceBEq, Nat.reduceLT, evP, evX, evR, blkOf, evA, storeA, Nat.reduceEqDiff, resL, resV, oneOrTup, Int.reduceEq, Int.reduceLT, Int.reduceLE, Int.reduceNeg, Int.reduceAdd, Int.reduceSub, Int.reduceMul, Int.reduceToNat, Nat.reduceAdd, noUnk, AV.cells, reduceCtorEq, Nat.reduceLeDiff, Cells.get, Nat.reduceMul, ↓bnd_assoc]), r4⟩
end
end Go.Proofs.YtjfnhdiimibmiaaDoor.Sx

/- The document's sum, whole. -/
namespace Go.Proofs.YtjfnhdiimibmiaaDoor.Sx
open HP
section
variable {W : World} {E : Env} {H : Heap} {Γ : List HP}
theorem db_loop (hE : EnvS E) {jk : Nat} {ks : List (BitVec 64)} (hks : ks.length = 80) {M : List UInt8} {vm : AV} (hM : M.length < 65536) {df : List Nat} : ∀ (m q js : Nat) (A : Tm) (H : Heap) (s : S8), M.length = 128 * (q + m) → getX A 3 = .sl (some ⟨.own jk, 0⟩) 80 (.exact 80) → getX A 4 = vm → getX A 5 = .sl (some ⟨.own js, 0⟩) 8 (.exact 8) → getX A 6 = .int .i64 ((128 * q : Nat) : Int) → Holds H (blk js (wl s.l) 91 :: blk jk (wl ks) 91 :: row 5 1 (cb M) vm :: Γ) →
    ∃ lv A' H', run W E (.loop lp53_0) ⟨A, df, none⟩ H = some (lv, ⟨A', df, none⟩, H') ∧ (lv = .exit 0 ∧ getX A' 2 = getX A 2 ∧ ∃ js', getX A' 5 = .sl (some ⟨.own js', 0⟩) 8 (.exact 8) ∧ Holds H' (blk js' (wl (foldB ks m s (M.drop (128 * q))).l) 91 :: Γ)) := by
  have hlp : ∀ f H, run W E lp53_0 f H = run W E lp53_0 f H := fun _ _ => rfl
  conv at hlp => enter [f, H, 2]; unfold lp53_0
  intro m
  induction m with
  | zero =>
    intro q js A H s hq a3 a4 a5 a6 h
    have hlen := (RdLike.row (W := W) M vm (h.ord [2])).len
    have hlt : ¬ ((128 * q : Nat) : Int) < M.length := by omega
    generalize (128 * q : Nat) = z at *
    rw [run_loop]
    simp only [hlp, a4, a6, hlen, hlt, ↓sxp, sxq, ↓reduceIte, Nat.reduceBEq, Nat.reduceLT, evP, evX, evR, blkOf, evA, storeA, Nat.reduceEqDiff, resL, resV, oneOrTup, Int.reduceEq, Int.reduceLT, Int.reduceLE, Int.reduceNeg, Int.reduceAdd, Int.reduceSub, Int.reduceMul, Int.reduceToNat, Nat.reduceAdd, noUnk, AV.cells, reduceCtorEq, Nat.reduceLeDiff, Cells.get, Nat.reduceMul, ↓bnd_assoc]
    exact ⟨_, _, _, rfl, rfl, by simp only [↓sxp, sxq, ↓reduceIte, Nat.reduceBEq, Nat.reduceLT, evP, evX, evR, blkOf, evA, storeA, Nat.reduceEqDiff, resL, resV, oneOrTup, Int.reduceEq, Int.reduceLT, Int.reduceLE, Int.reduceNeg, Int.reduceAdd, Int.reduceSub, Int.reduceMul, Int.reduceToNat, Nat.reduceAdd, noUnk, AV.cells, reduceCtorEq, Nat.reduceLeDiff, Cells.get, Nat.reduceMul, ↓bnd_assoc], js, by simp only [a5, ↓sxp, sxq, ↓reduceIte, Nat.reduceBEq, Nat.reduceLT, evP, evX, evR, blkOf, evA, storeA, Nat.reduceEqDiff, resL, resV, oneOrTup, Int.reduceEq, Int.reduceLT, Int.reduceLE, Int.reduceNeg, Int.reduceAdd, Int.reduceSub, Int.reduceMul, Int.reduceToNat, Nat.reduceAdd, noUnk, AV.cells, reduceCtorEq, Nat.reduceLeDiff, Cells.get, Nat.reduceMul, ↓bnd_assoc], (h.rm 1).rm 1⟩
  | succ m ih =>
    intro q js A H s hq a3 a4 a5 a6 h
    have hlen := (RdLike.row (W := W) M vm (h.ord [2])).len
    have hlt : ((128 * q : Nat) : Int) < M.length := by omega
    have hwr : IntKind.i64.wrap (((128 * q : Nat) : Int) + 128) = ((128 * (q + 1) : Nat) : Int) := by rw [w64 (by omega)]; omega
    apply Fin.ex3
    rw [run_loop]
    simp only [hlp, a4, a6, hlen, hlt, ↓sxp, sxq, ↓reduceIte, Nat.reduceBEq, Nat.reduceLT, evP, evX, evR, blkOf, evA, storeA, Nat.reduceEqDiff, resL, resV, oneOrTup, Int.reduceEq, Int.reduceLT, Int.reduceLE, Int.reduceNeg, Int.reduceAdd, Int.reduceSub, Int.reduceMul, Int.reduceToNat, Nat.reduceAdd, noUnk, AV.cells, reduceCtorEq, Nat.reduceLeDiff, Cells.get, Nat.reduceMul, ↓bnd_assoc]
    refine Fin.loop (dw_loop hE (R := row 5 1 (cb M) vm) (RdLike.row M vm) (at_ := 128 * q) (by omega) hM (S := schedF ((M.drop (128 * q)).take 128)) (schedF_len _) (fun t ht => by rw [schedF_lo _ _ ht, List.drop_take, List.drop_drop, List.take_take]; congr 2; omega) (fun t a b => schedF_hi _ t a b) 80 0 _ _ (.sl none 0 (.exact 0)) (by omega) (by simp only [a4, ↓sxp, sxq, ↓reduceIte, Nat.reduceBEq, Nat.reduceLT, evP, evX, evR, blkOf, evA, storeA, Nat.reduceEqDiff, resL, resV, oneOrTup, Int.reduceEq, Int.reduceLT, Int.reduceLE, Int.reduceNeg, Int.reduceAdd, Int.reduceSub, Int.reduceMul, Int.reduceToNat, Nat.reduceAdd, noUnk, AV.cells, reduceCtorEq, Nat.reduceLeDiff, Cells.get, Nat.reduceMul, ↓bnd_assoc]) (by simp only [a6, ↓sxp, sxq, ↓reduceIte, Nat.reduceBEq, Nat.reduceLT, evP, evX, evR, blkOf, evA, storeA, Nat.reduceEqDiff, resL, resV, oneOrTup, Int.reduceEq, Int.reduceLT, Int.reduceLE, Int.reduceNeg, Int.reduceAdd, Int.reduceSub, Int.reduceMul, Int.reduceToNat, Nat.reduceAdd, noUnk, AV.cells, reduceCtorEq, Nat.reduceLeDiff, Cells.get, Nat.reduceMul, ↓bnd_assoc]) (by simp only [↓sxp, sxq, ↓reduceIte, Nat.reduceBEq, Nat.reduceLT, evP, evX, evR, blkOf, evA, storeA, Nat.reduceEqDiff, resL, resV, oneOrTup, Int.reduceEq, Int.reduceLT, Int.reduceLE, Int.reduceNeg, Int.reduceAdd, Int.reduceSub, Int.reduceMul, Int.reduceToNat, Nat.reduceAdd, noUnk, AV.cells, reduceCtorEq, Nat.reduceLeDiff, Cells.get, Nat.reduceMul, ↓bnd_assoc]) (by simp only [↓sxp, sxq, ↓reduceIte, Nat.reduceBEq, Nat.reduceLT, evP, evX, evR, blkOf, evA, storeA, Nat.reduceEqDiff, resL, resV, oneOrTup, Int.reduceEq, Int.reduceLT, Int.reduceLE, Int.reduceNeg, Int.reduceAdd, Int.reduceSub, Int.reduceMul, Int.reduceToNat, Nat.reduceAdd, noUnk, AV.cells, reduceCtorEq, Nat.reduceLeDiff, Cells.get, Nat.reduceMul, ↓bnd_assoc]; rfl) (h.ord [2]).row_nil) fun lv A1 H1 ⟨e1, b2, b3, b4, b5, b6, vw, b7, h1⟩ => ?_
    subst e1
    simp only [a3, a4, a5, a6, ↓sxp, sxq, ↓reduceIte, Nat.reduceBEq, Nat.reduceLT, evP, evX, evR, blkOf, evA, storeA, Nat.reduceEqDiff, resL, resV, oneOrTup, Int.reduceEq, Int.reduceLT, Int.reduceLE, Int.reduceNeg, Int.reduceAdd, Int.reduceSub, Int.reduceMul, Int.reduceToNat, Nat.reduceAdd, noUnk, AV.cells, reduceCtorEq, Nat.reduceLeDiff, Cells.get, Nat.reduceMul, ↓bnd_assoc] at b2 b3 b4 b5 b6
    have gs := (h1.ord [2]).get
    have x0 : (wl s.l)[0]? = some (u64 s.a) := rfl
    have x1 : (wl s.l)[1]? = some (u64 s.b) := rfl
    have x2 : (wl s.l)[2]? = some (u64 s.c) := rfl
    have x3 : (wl s.l)[3]? = some (u64 s.d) := rfl
    have x4 : (wl s.l)[4]? = some (u64 s.e) := rfl
    have x5 : (wl s.l)[5]? = some (u64 s.f) := rfl
    have x6 : (wl s.l)[6]? = some (u64 s.g) := rfl
    have x7 : (wl s.l)[7]? = some (u64 s.h) := rfl
    simp only [b5, ↓gs, nc8, x0, x1, x2, x3, x4, x5, x6, x7, ↓sxp, sxq, ↓reduceIte, Nat.reduceBEq, Nat.reduceLT, evP, evX, evR, blkOf, evA, storeA, Nat.reduceEqDiff, resL, resV, oneOrTup, Int.reduceEq, Int.reduceLT, Int.reduceLE, Int.reduceNeg, Int.reduceAdd, Int.reduceSub, Int.reduceMul, Int.reduceToNat, Nat.reduceAdd, noUnk, AV.cells, reduceCtorEq, Nat.reduceLeDiff, Cells.get, Nat.reduceMul, ↓bnd_assoc]
    have hpf : pieceF ks s ((M.drop (128 * q)).take 128) = s.add (rnds ks (schedF ((M.drop (128 * q)).take 128)) 80 0 s) := rfl
    refine Fin.loop (dr_loop hE (jk := jk) (ks := ks) (ws := schedF ((M.drop (128 * q)).take 128)) (vw := vw) hks (schedF_len _) 80 0 _ _ s (by omega) (by simp only [b3, ↓sxp, sxq, ↓reduceIte, Nat.reduceBEq, Nat.reduceLT, evP, evX, evR, blkOf, evA, storeA, Nat.reduceEqDiff, resL, resV, oneOrTup, Int.reduceEq, Int.reduceLT, Int.reduceLE, Int.reduceNeg, Int.reduceAdd, Int.reduceSub, Int.reduceMul, Int.reduceToNat, Nat.reduceAdd, noUnk, AV.cells, reduceCtorEq, Nat.reduceLeDiff, Cells.get, Nat.reduceMul, ↓bnd_assoc]) (by simp only [b7, ↓sxp, sxq, ↓reduceIte, Nat.reduceBEq, Nat.reduceLT, evP, evX, evR, blkOf, evA, storeA, Nat.reduceEqDiff, resL, resV, oneOrTup, Int.reduceEq, Int.reduceLT, Int.reduceLE, Int.reduceNeg, Int.reduceAdd, Int.reduceSub, Int.reduceMul, Int.reduceToNat, Nat.reduceAdd, noUnk, AV.cells, reduceCtorEq, Nat.reduceLeDiff, Cells.get, Nat.reduceMul, ↓bnd_assoc]) (by simp only [↓sxp, sxq, ↓reduceIte, Nat.reduceBEq, Nat.reduceLT, evP, evX, evR, blkOf, evA, storeA, Nat.reduceEqDiff, resL, resV, oneOrTup, Int.reduceEq, Int.reduceLT, Int.reduceLE, Int.reduceNeg, Int.reduceAdd, Int.reduceSub, Int.reduceMul, Int.reduceToNat, Nat.reduceAdd, noUnk, AV.cells, reduceCtorEq, Nat.reduceLeDiff, Cells.get, Nat.reduceMul, ↓bnd_assoc]) (by simp only [↓sxp, sxq, ↓reduceIte, Nat.reduceBEq, Nat.reduceLT, evP, evX, evR, blkOf, evA, storeA, Nat.reduceEqDiff, resL, resV, oneOrTup, Int.reduceEq, Int.reduceLT, Int.reduceLE, Int.reduceNeg, Int.reduceAdd, Int.reduceSub, Int.reduceMul, Int.reduceToNat, Nat.reduceAdd, noUnk, AV.cells, reduceCtorEq, Nat.reduceLeDiff, Cells.get, Nat.reduceMul, ↓bnd_assoc]) (by simp only [↓sxp, sxq, ↓reduceIte, Nat.reduceBEq, Nat.reduceLT, evP, evX, evR, blkOf, evA, storeA, Nat.reduceEqDiff, resL, resV, oneOrTup, Int.reduceEq, Int.reduceLT, Int.reduceLE, Int.reduceNeg, Int.reduceAdd, Int.reduceSub, Int.reduceMul, Int.reduceToNat, Nat.reduceAdd, noUnk, AV.cells, reduceCtorEq, Nat.reduceLeDiff, Cells.get, Nat.reduceMul, ↓bnd_assoc]) (by simp only [↓sxp, sxq, ↓reduceIte, Nat.reduceBEq, Nat.reduceLT, evP, evX, evR, blkOf, evA, storeA, Nat.reduceEqDiff, resL, resV, oneOrTup, Int.reduceEq, Int.reduceLT, Int.reduceLE, Int.reduceNeg, Int.reduceAdd, Int.reduceSub, Int.reduceMul, Int.reduceToNat, Nat.reduceAdd, noUnk, AV.cells, reduceCtorEq, Nat.reduceLeDiff, Cells.get, Nat.reduceMul, ↓bnd_assoc]) (by simp only [↓sxp, sxq, ↓reduceIte, Nat.reduceBEq, Nat.reduceLT, evP, evX, evR, blkOf, evA, storeA, Nat.reduceEqDiff, resL, resV, oneOrTup, Int.reduceEq, Int.reduceLT, Int.reduceLE, Int.reduceNeg, Int.reduceAdd, Int.reduceSub, Int.reduceMul, Int.reduceToNat, Nat.reduceAdd, noUnk, AV.cells, reduceCtorEq, Nat.reduceLeDiff, Cells.get, Nat.reduceMul, ↓bnd_assoc]) (by simp only [↓sxp, sxq, ↓reduceIte, Nat.reduceBEq, Nat.reduceLT, evP, evX, evR, blkOf, evA, storeA, Nat.reduceEqDiff, resL, resV, oneOrTup, Int.reduceEq, Int.reduceLT, Int.reduceLE, Int.reduceNeg, Int.reduceAdd, Int.reduceSub, Int.reduceMul, Int.reduceToNat, Nat.reduceAdd, noUnk, AV.cells, reduceCtorEq, Nat.reduceLeDiff, Cells.get, Nat.reduceMul, ↓bnd_assoc]) (by simp only [↓sxp, sxq, ↓reduceIte, Nat.reduceBEq, Nat.reduceLT, evP, evX, evR, blkOf, evA, storeA, Nat.reduceEqDiff, resL, resV, oneOrTup, Int.reduceEq, Int.reduceLT, Int.reduceLE, Int.reduceNeg, Int.reduceAdd, Int.reduceSub, Int.reduceMul, Int.reduceToNat, Nat.reduceAdd, noUnk, AV.cells, reduceCtorEq, Nat.reduceLeDiff, Cells.get, Nat.reduceMul, ↓bnd_assoc]) (by simp only [↓sxp, sxq, ↓reduceIte, Nat.reduceBEq, Nat.reduceLT, evP, evX, evR, blkOf, evA, storeA, Nat.reduceEqDiff, resL, resV, oneOrTup, Int.reduceEq, Int.reduceLT, Int.reduceLE, Int.reduceNeg, Int.reduceAdd, Int.reduceSub, Int.reduceMul, Int.reduceToNat, Nat.reduceAdd, noUnk, AV.cells, reduceCtorEq, Nat.reduceLeDiff, Cells.get, Nat.reduceMul, ↓bnd_assoc]) (by simp only [↓sxp, sxq, ↓reduceIte, Nat.reduceBEq, Nat.reduceLT, evP, evX, evR, blkOf, evA, storeA, Nat.reduceEqDiff, resL, resV, oneOrTup, Int.reduceEq, Int.reduceLT, Int.reduceLE, Int.reduceNeg, Int.reduceAdd, Int.reduceSub, Int.reduceMul, Int.reduceToNat, Nat.reduceAdd, noUnk, AV.cells, reduceCtorEq, Nat.reduceLeDiff, Cells.get, Nat.reduceMul, ↓bnd_assoc]; rfl) (h1.ord [0, 2])) fun lv A2 H2 ⟨e1, c2, c3, c4, c5, c6, s', hs', c11, c12, c13, c14, c15, c16, c17, c18, h2⟩ => ?_
    subst e1
    rw [← hs'] at hpf
    simp only [b2, b3, b4, b5, b6, ↓sxp, sxq, ↓reduceIte, Nat.reduceBEq, Nat.reduceLT, evP, evX, evR, blkOf, evA, storeA, Nat.reduceEqDiff, resL, resV, oneOrTup, Int.reduceEq, Int.reduceLT, Int.reduceLE, Int.reduceNeg, Int.reduceAdd, Int.reduceSub, Int.reduceMul, Int.reduceToNat, Nat.reduceAdd, noUnk, AV.cells, reduceCtorEq, Nat.reduceLeDiff, Cells.get, Nat.reduceMul, ↓bnd_assoc] at c2 c3 c4 c5 c6
    have h3 := (h2.bump1 42 40).lay (c := wl (s.add s').l) (t := 91)
    have gs2 := ((h2.ord [3]).bump 42).get
    have hz8 : zerosL [AV.int IntKind.u64 0] 8 = [AV.int .u64 0, .int .u64 0, .int .u64 0, .int .u64 0, .int .u64 0, .int .u64 0, .int .u64 0, .int .u64 0] := rfl
    simp only [c5, c6, hwr, hz8, c11, c12, c13, c14, c15, c16, c17, c18, ↓gs2, nc8, x0, x1, x2, x3, x4, x5, x6, x7, u64_addw, ↓sxp, sxq, ↓reduceIte, Nat.reduceBEq, Nat.reduceLT, evP, evX, evR, blkOf, evA, storeA, Nat.reduceEqDiff, resL, resV, oneOrTup, Int.reduceEq, Int.reduceLT, Int.reduceLE, Int.reduceNeg, Int.reduceAdd, Int.reduceSub, Int.reduceMul, Int.reduceToNat, Nat.reduceAdd, noUnk, AV.cells, reduceCtorEq, Nat.reduceLeDiff, Cells.get, Nat.reduceMul, ↓bnd_assoc]
    have h4 := (h3.rm 1).rm 3
    refine Fin.of3 (ih (q + 1) (H2.next + 40) _ _ (s.add s') (by omega) (by simp only [c3, ↓sxp, sxq, ↓reduceIte, Nat.reduceBEq, Nat.reduceLT, evP, evX, evR, blkOf, evA, storeA, Nat.reduceEqDiff, resL, resV, oneOrTup, Int.reduceEq, Int.reduceLT, Int.reduceLE, Int.reduceNeg, Int.reduceAdd, Int.reduceSub, Int.reduceMul, Int.reduceToNat, Nat.reduceAdd, noUnk, AV.cells, reduceCtorEq, Nat.reduceLeDiff, Cells.get, Nat.reduceMul, ↓bnd_assoc]) (by simp only [c4, ↓sxp, sxq, ↓reduceIte, Nat.reduceBEq, Nat.reduceLT, evP, evX, evR, blkOf, evA, storeA, Nat.reduceEqDiff, resL, resV, oneOrTup, Int.reduceEq, Int.reduceLT, Int.reduceLE, Int.reduceNeg, Int.reduceAdd, Int.reduceSub, Int.reduceMul, Int.reduceToNat, Nat.reduceAdd, noUnk, AV.cells, reduceCtorEq, Nat.reduceLeDiff, Cells.get, Nat.reduceMul, ↓bnd_assoc]) (by simp only [↓sxp, sxq, ↓reduceIte, Nat.reduceBEq, Nat.reduceLT, evP, evX, evR, blkOf, evA, storeA, Nat.reduceEqDiff, resL, resV, oneOrTup, Int.reduceEq, Int.reduceLT, Int.reduceLE, Int.reduceNeg, Int.reduceAdd, Int.reduceSub, Int.reduceMul, Int.reduceToNat, Nat.reduceAdd, noUnk, AV.cells, reduceCtorEq, Nat.reduceLeDiff, Cells.get, Nat.reduceMul, ↓bnd_assoc]) (by simp only [↓sxp, sxq, ↓reduceIte, Nat.reduceBEq, Nat.reduceLT, evP, evX, evR, blkOf, evA, storeA, Nat.reduceEqDiff, resL, resV, oneOrTup, Int.reduceEq, Int.reduceLT, Int.reduceLE, Int.reduceNeg, Int.reduceAdd, Int.reduceSub, Int.reduceMul, Int.reduceToNat, Nat.reduceAdd, noUnk, AV.cells, reduceCtorEq, Nat.reduceLeDiff, Cells.get, Nat.reduceMul, ↓bnd_assoc]) h4) fun lv A' H' ⟨q1, q2, js', q3, q4⟩ => ⟨q1, q2.trans (by simp only [c2, ↓sxp, sxq, ↓reduceIte, Nat.reduceBEq, Nat.reduceLT, evP, evX, evR, blkOf, evA, storeA, Nat.reduceEqDiff, resL, resV, oneOrTup, Int.reduceEq, Int.reduceLT, Int.reduceLE, Int.reduceNeg, Int.reduceAdd, Int.reduceSub, Int.reduceMul, Int.reduceToNat, Nat.reduceAdd, noUnk, AV.cells, reduceCtorEq, Nat.reduceLeDiff, Cells.get, Nat.reduceMul, ↓bnd_assoc]), js', q3, ?_⟩
    have e : foldB ks (m + 1) s (M.drop (128 * q)) = foldB ks m (s.add s') (M.drop (128 * (q + 1))) := by
      rw [foldB, hpf, List.drop_drop, show 128 * q + 128 = 128 * (q + 1) from by omega]
    rw [e]; exact q4
theorem Fin.callX {α : Type} {P : α → Prop} {m : Option (AV × Heap)} {k : AV × Heap → Option α} (Q : AV → Heap → Prop) (h : ∃ v H', m = some (v, H') ∧ Q v H') (hk : ∀ v H', Q v H' → Fin P (k (v, H'))) : Fin P (bnd m k) := by
  obtain ⟨v, r, rfl, hr⟩ := h
  exact hk v r hr
theorem XH.any {bs : List UInt8} {v : AV} (h : XH H bs v Γ) : ∃ A, Holds H (A :: Γ) := by
  rcases h with h | ⟨j, _, _, h⟩
  · exact ⟨_, h⟩
  · exact ⟨_, h⟩
theorem c_told (hE : EnvS E) (h : Holds H Γ) : ∃ j H', go W E 66 [] H = some (.sl (some ⟨.own j, 0⟩) 80 (.exact 80), H') ∧ Holds H' (blk j (wl K80) 91 :: Γ) := by
  have h1 := h.push (c := wl K80) (t := 91)
  suffices hh : Fin (fun r : AV × Heap => r.1 = .sl (some ⟨.own H.next, 0⟩) 80 (.exact 80) ∧ Holds r.2 (blk H.next (wl K80) 91 :: Γ)) (go W E 66 [] H) by
    obtain ⟨⟨r, H'⟩, e, hr, q⟩ := hh
    simp only at hr
    subst hr
    exact ⟨_, H', e, q⟩
  rw [go_code hE.f66 (by simp [sf66])]
  simp only [sf66, ↓sxp, sxq, ↓reduceIte, Nat.reduceBEq, Nat.reduceLT, evP, evX, evR, blkOf, storeA, Nat.reduceEqDiff, resL, resV, oneOrTup, Int.reduceEq, Int.reduceLT, Int.reduceLE, Int.reduceNeg, Int.reduceAdd, Int.reduceSub, Int.reduceMul, Int.reduceToNat, Nat.reduceAdd, noUnk, AV.cells, reduceCtorEq, Nat.reduceLeDiff, Cells.get, Nat.reduceMul, ↓bnd_assoc]
  refine Fin.ev (v := (.cells (.lst (wl K80)) 91 none, .sl (some ⟨.own H.next, 0⟩) 80 (.exact 80))) (by kernel_rfl) ?_
  simp only [↓sxp, sxq, ↓reduceIte, Nat.reduceBEq, Nat.reduceLT, evP, evX, evR, blkOf, storeA, Nat.reduceEqDiff, resL, resV, oneOrTup, Int.reduceEq, Int.reduceLT, Int.reduceLE, Int.reduceNeg, Int.reduceAdd, Int.reduceSub, Int.reduceMul, Int.reduceToNat, Nat.reduceAdd, noUnk, AV.cells, reduceCtorEq, Nat.reduceLeDiff, Cells.get, Nat.reduceMul, ↓bnd_assoc]
  exact Fin.ret ⟨rfl, h1⟩
theorem c_dbegin (hE : EnvS E) (h : Holds H Γ) : ∃ j H', go W E 68 [] H = some (.sl (some ⟨.own j, 0⟩) 8 (.exact 8), H') ∧ Holds H' (blk j (wl S0.l) 91 :: Γ) := by
  have h1 := h.push (c := wl S0.l) (t := 91)
  suffices hh : Fin (fun r : AV × Heap => r.1 = .sl (some ⟨.own H.next, 0⟩) 8 (.exact 8) ∧ Holds r.2 (blk H.next (wl S0.l) 91 :: Γ)) (go W E 68 [] H) by
    obtain ⟨⟨r, H'⟩, e, hr, q⟩ := hh
    simp only at hr
    subst hr
    exact ⟨_, H', e, q⟩
  rw [go_code hE.f68 (by simp [sf68])]
  simp only [sf68, ↓sxp, sxq, ↓reduceIte, Nat.reduceBEq, Nat.reduceLT, evP, evX, evR, blkOf, storeA, Nat.reduceEqDiff, resL, resV, oneOrTup, Int.reduceEq, Int.reduceLT, Int.reduceLE, Int.reduceNeg, Int.reduceAdd, Int.reduceSub, Int.reduceMul, Int.reduceToNat, Nat.reduceAdd, noUnk, AV.cells, reduceCtorEq, Nat.reduceLeDiff, Cells.get, Nat.reduceMul, ↓bnd_assoc]
  refine Fin.ev (v := (.cells (.lst (wl S0.l)) 91 none, .sl (some ⟨.own H.next, 0⟩) 8 (.exact 8))) (by kernel_rfl) ?_
  simp only [↓sxp, sxq, ↓reduceIte, Nat.reduceBEq, Nat.reduceLT, evP, evX, evR, blkOf, storeA, Nat.reduceEqDiff, resL, resV, oneOrTup, Int.reduceEq, Int.reduceLT, Int.reduceLE, Int.reduceNeg, Int.reduceAdd, Int.reduceSub, Int.reduceMul, Int.reduceToNat, Nat.reduceAdd, noUnk, AV.cells, reduceCtorEq, Nat.reduceLeDiff, Cells.get, Nat.reduceMul, ↓bnd_assoc]
  exact Fin.ret ⟨rfl, h1⟩
theorem c_dsum (hE : EnvS E) {R : HP} {bs : List UInt8} {v : AV} (hR : RdLike W bs v R) (h0 : 0 < bs.length) (hl : bs.length < 60000) (h : Holds H (R :: Γ)) :
    ∃ H', go W E 53 [v] H = some (.agg (cb (sumF bs)), H') ∧ Holds H' (R :: Γ) := by
  apply Ends.out
  refine (show Fin (fun r : AV × Heap => r.1 = .agg (cb (sumF bs)) ∧ Holds r.2 (R :: Γ)) _ from ?_)
  have hlen := (hR h).len
  have h1 := h.push (c := z64) (t := 71)
  have hzz : [AV.int .u8 0, AV.int .u8 0, AV.int .u8 0, AV.int .u8 0, AV.int .u8 0, AV.int .u8 0, AV.int .u8 0, AV.int .u8 0, AV.int .u8 0, AV.int .u8 0, AV.int .u8 0, AV.int .u8 0, AV.int .u8 0, AV.int .u8 0, AV.int .u8 0, AV.int .u8 0, AV.int .u8 0, AV.int .u8 0, AV.int .u8 0, AV.int .u8 0, AV.int .u8 0, AV.int .u8 0, AV.int .u8 0, AV.int .u8 0, AV.int .u8 0, AV.int .u8 0, AV.int .u8 0, AV.int .u8 0, AV.int .u8 0, AV.int .u8 0, AV.int .u8 0, AV.int .u8 0, AV.int .u8 0, AV.int .u8 0, AV.int .u8 0, AV.int .u8 0, AV.int .u8 0, AV.int .u8 0, AV.int .u8 0, AV.int .u8 0, AV.int .u8 0, AV.int .u8 0, AV.int .u8 0, AV.int .u8 0, AV.int .u8 0, AV.int .u8 0, AV.int .u8 0, AV.int .u8 0, AV.int .u8 0, AV.int .u8 0, AV.int .u8 0, AV.int .u8 0, AV.int .u8 0, AV.int .u8 0, AV.int .u8 0, AV.int .u8 0, AV.int .u8 0, AV.int .u8 0, AV.int .u8 0, AV.int .u8 0, AV.int .u8 0, AV.int .u8 0, AV.int .u8 0, AV.int .u8 0] = z64 := rfl
  rw [go_code hE.f53 (by simp [sf53])]
  simp only [sf53, hzz, ↓sxp, sxq, ↓reduceIte, Nat.reduceBEq, Nat.reduceLT, evP, evX, evR, blkOf, evA, storeA, Nat.reduceEqDiff, resL, resV, oneOrTup, Int.reduceEq, Int.reduceLT, Int.reduceLE, Int.reduceNeg, Int.reduceAdd, Int.reduceSub, Int.reduceMul, Int.reduceToNat, Nat.reduceAdd, noUnk, AV.cells, reduceCtorEq, Nat.reduceLeDiff, Cells.get, Nat.reduceMul, ↓bnd_assoc]
  generalize H.next = b2 at *
  refine Fin.callE (fun j : Nat => .sl (some ⟨.own j, 0⟩) 80 (.exact 80)) (fun j => blk j (wl K80) 91 :: blk b2 z64 71 :: R :: Γ) (c_told hE h1) fun jk H2 h2 => ?_
  have hks : K80.length = 80 := rfl
  have hsum : sumF bs = bytesL (foldB K80 ((bs ++ padF bs.length).length / 128) S0 (bs ++ padF bs.length)).l := rfl
  rw [hsum]
  generalize K80 = ks at *
  simp only [↓sxp, sxq, ↓reduceIte, Nat.reduceBEq, Nat.reduceLT, evP, evX, evR, blkOf, evA, storeA, Nat.reduceEqDiff, resL, resV, oneOrTup, Int.reduceEq, Int.reduceLT, Int.reduceLE, Int.reduceNeg, Int.reduceAdd, Int.reduceSub, Int.reduceMul, Int.reduceToNat, Nat.reduceAdd, noUnk, AV.cells, reduceCtorEq, Nat.reduceLeDiff, Cells.get, Nat.reduceMul, ↓bnd_assoc]
  refine Fin.app (h2.row_nil) (by omega) ((hR (h2.ord [2])).src) h0 (by rw [cb_len, Nat.mul_one]) (cb_one bs) (n := 0) rfl (by omega) fun v1 H3 h3 => ?_
  rw [List.nil_append] at h3
  simp only [hlen, ↓sxp, sxq, ↓reduceIte, Nat.reduceBEq, Nat.reduceLT, evP, evX, evR, blkOf, evA, storeA, Nat.reduceEqDiff, resL, resV, oneOrTup, Int.reduceEq, Int.reduceLT, Int.reduceLE, Int.reduceNeg, Int.reduceAdd, Int.reduceSub, Int.reduceMul, Int.reduceToNat, Nat.reduceAdd, noUnk, AV.cells, reduceCtorEq, Nat.reduceLeDiff, Cells.get, Nat.reduceMul, ↓bnd_assoc]
  refine Fin.callX (fun o H4 => XH H4 (padF bs.length) o (row 5 1 (cb bs) v1 :: blk jk (wl ks) 91 :: blk b2 z64 71 :: R :: Γ)) (c_dpad hE (by omega) h3) fun o H4 h4 => ?_
  have hpl : (padF bs.length).length ≤ 400 ∧ 0 < (padF bs.length).length := by
    unfold padF
    rw [List.length_cons, List.length_append, List.length_replicate, bytesN_len]; omega
  have hpm := padF_len bs.length
  obtain ⟨C, h5⟩ := h4.any
  refine Fin.app (h5.ord [1]) (by omega) h4.src hpl.2 (by rw [cb_len, Nat.mul_one]) (cb_one _) (n := bs.length) (by rw [cb_len, Nat.mul_one]) (by omega) fun v2 H6 h6 => ?_
  rw [← cb_app] at h6
  have hMl : (bs ++ padF bs.length).length = 128 * (0 + (bs ++ padF bs.length).length / 128) := by
    rw [List.length_append] at *; omega
  have hMl2 : (bs ++ padF bs.length).length < 65536 := by rw [List.length_append]; omega
  generalize bs ++ padF bs.length = M at *
  simp only [↓sxp, sxq, ↓reduceIte, Nat.reduceBEq, Nat.reduceLT, evP, evX, evR, blkOf, evA, storeA, Nat.reduceEqDiff, resL, resV, oneOrTup, Int.reduceEq, Int.reduceLT, Int.reduceLE, Int.reduceNeg, Int.reduceAdd, Int.reduceSub, Int.reduceMul, Int.reduceToNat, Nat.reduceAdd, noUnk, AV.cells, reduceCtorEq, Nat.reduceLeDiff, Cells.get, Nat.reduceMul, ↓bnd_assoc]
  refine Fin.callE (fun j : Nat => .sl (some ⟨.own j, 0⟩) 8 (.exact 8)) (fun j => blk j (wl S0.l) 91 :: blk jk (wl ks) 91 :: row 5 1 (cb M) v2 :: blk b2 z64 71 :: R :: Γ) (c_dbegin hE ((h6.rm 1).ord [1])) fun js H7 h7 => ?_
  simp only [↓sxp, sxq, ↓reduceIte, Nat.reduceBEq, Nat.reduceLT, evP, evX, evR, blkOf, evA, storeA, Nat.reduceEqDiff, resL, resV, oneOrTup, Int.reduceEq, Int.reduceLT, Int.reduceLE, Int.reduceNeg, Int.reduceAdd, Int.reduceSub, Int.reduceMul, Int.reduceToNat, Nat.reduceAdd, noUnk, AV.cells, reduceCtorEq, Nat.reduceLeDiff, Cells.get, Nat.reduceMul, ↓bnd_assoc]
  refine Fin.loop (db_loop hE hks (jk := jk) (M := M) (vm := v2) hMl2 (M.length / 128) 0 js _ _ S0 hMl (by simp only [↓sxp, sxq, ↓reduceIte, Nat.reduceBEq, Nat.reduceLT, evP, evX, evR, blkOf, evA, storeA, Nat.reduceEqDiff, resL, resV, oneOrTup, Int.reduceEq, Int.reduceLT, Int.reduceLE, Int.reduceNeg, Int.reduceAdd, Int.reduceSub, Int.reduceMul, Int.reduceToNat, Nat.reduceAdd, noUnk, AV.cells, reduceCtorEq, Nat.reduceLeDiff, Cells.get, Nat.reduceMul, ↓bnd_assoc]) (by simp only [↓sxp, sxq, ↓reduceIte, Nat.reduceBEq, Nat.reduceLT, evP, evX, evR, blkOf, evA, storeA, Nat.reduceEqDiff, resL, resV, oneOrTup, Int.reduceEq, Int.reduceLT, Int.reduceLE, Int.reduceNeg, Int.reduceAdd, Int.reduceSub, Int.reduceMul, Int.reduceToNat, Nat.reduceAdd, noUnk, AV.cells, reduceCtorEq, Nat.reduceLeDiff, Cells.get, Nat.reduceMul, ↓bnd_assoc]) (by simp only [↓sxp, sxq, ↓reduceIte, Nat.reduceBEq, Nat.reduceLT, evP, evX, evR, blkOf, evA, storeA, Nat.reduceEqDiff, resL, resV, oneOrTup, Int.reduceEq, Int.reduceLT, Int.reduceLE, Int.reduceNeg, Int.reduceAdd, Int.reduceSub, Int.reduceMul, Int.reduceToNat, Nat.reduceAdd, noUnk, AV.cells, reduceCtorEq, Nat.reduceLeDiff, Cells.get, Nat.reduceMul, ↓bnd_assoc]) (by simp only [↓sxp, sxq, ↓reduceIte, Nat.reduceBEq, Nat.reduceLT, evP, evX, evR, blkOf, evA, storeA, Nat.reduceEqDiff, resL, resV, oneOrTup, Int.reduceEq, Int.reduceLT, Int.reduceLE, Int.reduceNeg, Int.reduceAdd, Int.reduceSub, Int.reduceMul, Int.reduceToNat, Nat.reduceAdd, noUnk, AV.cells, reduceCtorEq, Nat.reduceLeDiff, Cells.get, Nat.reduceMul, ↓bnd_assoc]; rfl) h7) fun lv A H8 ⟨e1, a2, js', a5, h8⟩ => ?_
  subst e1
  have a2' : getX A 2 = .ptr (some ⟨.own b2, 0⟩) := a2.trans (by simp only [↓sxp, sxq, ↓reduceIte, Nat.reduceBEq, Nat.reduceLT, evP, evX, evR, blkOf, evA, storeA, Nat.reduceEqDiff, resL, resV, oneOrTup, Int.reduceEq, Int.reduceLT, Int.reduceLE, Int.reduceNeg, Int.reduceAdd, Int.reduceSub, Int.reduceMul, Int.reduceToNat, Nat.reduceAdd, noUnk, AV.cells, reduceCtorEq, Nat.reduceLeDiff, Cells.get, Nat.reduceMul, ↓bnd_assoc])
  rw [Nat.mul_zero, List.drop_zero] at h8
  generalize foldB ks (M.length / 128) S0 M = sf at *
  have h9 := h8.push (c := z64) (t := 71)
  simp only [↓sxp, sxq, ↓reduceIte, Nat.reduceBEq, Nat.reduceLT, evP, evX, evR, blkOf, evA, storeA, Nat.reduceEqDiff, resL, resV, oneOrTup, Int.reduceEq, Int.reduceLT, Int.reduceLE, Int.reduceNeg, Int.reduceAdd, Int.reduceSub, Int.reduceMul, Int.reduceToNat, Nat.reduceAdd, noUnk, AV.cells, reduceCtorEq, Nat.reduceLeDiff, Cells.get, Nat.reduceMul, ↓bnd_assoc]
  generalize H8.next = b22 at *
  refine Fin.loop (do_loop0 (js := js') (j22 := b22) (ws := sf.l) rfl 8 0 _ _ (by omega) (by simp only [a5, ↓sxp, sxq, ↓reduceIte, Nat.reduceBEq, Nat.reduceLT, evP, evX, evR, blkOf, evA, storeA, Nat.reduceEqDiff, resL, resV, oneOrTup, Int.reduceEq, Int.reduceLT, Int.reduceLE, Int.reduceNeg, Int.reduceAdd, Int.reduceSub, Int.reduceMul, Int.reduceToNat, Nat.reduceAdd, noUnk, AV.cells, reduceCtorEq, Nat.reduceLeDiff, Cells.get, Nat.reduceMul, ↓bnd_assoc]) (by simp only [↓sxp, sxq, ↓reduceIte, Nat.reduceBEq, Nat.reduceLT, evP, evX, evR, blkOf, evA, storeA, Nat.reduceEqDiff, resL, resV, oneOrTup, Int.reduceEq, Int.reduceLT, Int.reduceLE, Int.reduceNeg, Int.reduceAdd, Int.reduceSub, Int.reduceMul, Int.reduceToNat, Nat.reduceAdd, noUnk, AV.cells, reduceCtorEq, Nat.reduceLeDiff, Cells.get, Nat.reduceMul, ↓bnd_assoc]) (by simp only [↓sxp, sxq, ↓reduceIte, Nat.reduceBEq, Nat.reduceLT, evP, evX, evR, blkOf, evA, storeA, Nat.reduceEqDiff, resL, resV, oneOrTup, Int.reduceEq, Int.reduceLT, Int.reduceLE, Int.reduceNeg, Int.reduceAdd, Int.reduceSub, Int.reduceMul, Int.reduceToNat, Nat.reduceAdd, noUnk, AV.cells, reduceCtorEq, Nat.reduceLeDiff, Cells.get, Nat.reduceMul, ↓bnd_assoc]; rfl) h9) fun lv A2 H10 ⟨e1, c2, c22, h10⟩ => ?_
  subst e1
  have c2' : getX A2 2 = .ptr (some ⟨.own b2, 0⟩) := c2.trans (by simp only [a2', ↓sxp, sxq, ↓reduceIte, Nat.reduceBEq, Nat.reduceLT, evP, evX, evR, blkOf, evA, storeA, Nat.reduceEqDiff, resL, resV, oneOrTup, Int.reduceEq, Int.reduceLT, Int.reduceLE, Int.reduceNeg, Int.reduceAdd, Int.reduceSub, Int.reduceMul, Int.reduceToNat, Nat.reduceAdd, noUnk, AV.cells, reduceCtorEq, Nat.reduceLeDiff, Cells.get, Nat.reduceMul, ↓bnd_assoc])
  have c22' : getX A2 22 = .ptr (some ⟨.own b22, 0⟩) := c22.trans (by simp only [↓sxp, sxq, ↓reduceIte, Nat.reduceBEq, Nat.reduceLT, evP, evX, evR, blkOf, evA, storeA, Nat.reduceEqDiff, resL, resV, oneOrTup, Int.reduceEq, Int.reduceLT, Int.reduceLE, Int.reduceNeg, Int.reduceAdd, Int.reduceSub, Int.reduceMul, Int.reduceToNat, Nat.reduceAdd, noUnk, AV.cells, reduceCtorEq, Nat.reduceLeDiff, Cells.get, Nat.reduceMul, ↓bnd_assoc])
  have hbl : (bytesL sf.l).length = 64 := bytesL_len sf.l
  generalize bytesL sf.l = ob at *
  have g10 := h10.get
  have hg64 : Cells.getN (.lst (cb ob)) 0 64 = some (cb ob) := by
    have := getN_all (cb ob)
    rw [cb_len, hbl] at this; exact this
  have hl64 : (cb ob).length = 64 := by rw [cb_len, hbl]
  simp only [c2', c22', ↓g10, ↓hg64, hl64, ↓sxp, sxq, ↓reduceIte, Nat.reduceBEq, Nat.reduceLT, evP, evX, evR, blkOf, evA, storeA, Nat.reduceEqDiff, resL, resV, oneOrTup, Int.reduceEq, Int.reduceLT, Int.reduceLE, Int.reduceNeg, Int.reduceAdd, Int.reduceSub, Int.reduceMul, Int.reduceToNat, Nat.reduceAdd, noUnk, AV.cells, reduceCtorEq, Nat.reduceLeDiff, Cells.get, Nat.reduceMul, ↓bnd_assoc]
  trace_state
  refine Fin.write (cb ob) (h10.ord [2]) (setN_all (by rw [hl64]; rfl)) (by rw [hl64]; exact Nat.le_refl _) (cb_one ob) fun H15 h15 => ?_
  have g15 := h15.get
  simp only [c2', ↓g15, ↓hg64, ↓sxp, sxq, ↓reduceIte, Nat.reduceBEq, Nat.reduceLT, evP, evX, evR, blkOf, evA, storeA, Nat.reduceEqDiff, resL, resV, oneOrTup, Int.reduceEq, Int.reduceLT, Int.reduceLE, Int.reduceNeg, Int.reduceAdd, Int.reduceSub, Int.reduceMul, Int.reduceToNat, Nat.reduceAdd, noUnk, AV.cells, reduceCtorEq, Nat.reduceLeDiff, Cells.get, Nat.reduceMul, ↓bnd_assoc]
  exact Fin.ret ⟨rfl, h15.tail.tail.tail⟩
end
end Go.Proofs.YtjfnhdiimibmiaaDoor.Sx

/- Numbers as bytes. -/
namespace Go.Proofs.YtjfnhdiimibmiaaDoor.Sx
open HP
/-- The lowest m bytes, the lowest first. -/
def lowN (m n : Nat) : List UInt8 := (List.range m).map fun i => byteAt n i
theorem lowN_len (m n : Nat) : (lowN m n).length = m := by simp [lowN]
theorem lowN_succ (m n : Nat) : lowN (m + 1) n = lowN m n ++ [byteAt n m] := by simp [lowN, List.range_succ]
theorem lowN_rev : ∀ m n : Nat, (lowN m n).reverse = bytesN m n := by
  intro m n
  induction m with
  | zero => rfl
  | succ m ih => rw [lowN_succ, List.reverse_append, bytesN, ← ih]; rfl
section
variable {W : World} {E : Env} {H : Heap} {Γ : List HP}
theorem mksl_bytes {A : Tm} {id n : Nat} {x y : SX} (hx : evX A x = .int .i64 (n : Int)) (hy : evX A y = .int .i64 (n : Int)) (hn : n < 256) :
    evA A id (.mksl 5 1 1 [.int .u8 0] x y) = some (.cells (.lst (cb (List.replicate n 0))) 5 none, .sl (some ⟨.own id, 0⟩) n (.exact n)) := by
  have hz : zerosL [AV.int .u8 0] n = cb (List.replicate n 0) := by
    have : ∀ k, (List.replicate k [AV.int .u8 0]).flatten = cb (List.replicate k 0) := by
      intro k
      induction k with
      | zero => rfl
      | succ k ih => rw [List.replicate_succ, List.flatten_cons, ih, List.replicate_succ]; rfl
    exact this n
  simp only [evA, hx, hy]
  rw [if_pos (by refine ⟨by omega, by omega, by omega, by omega, rfl, by omega⟩)]
  simp only [mkCells, Int.toNat_natCast]
  rw [if_pos (by simp; omega), hz]
theorem i_shr (n k : Nat) (hk : k < 64) : bin .shr (.int .i64 (n : Int)) (.int .u64 (k : Int)) = some (.int .i64 ((n / 2 ^ k : Nat) : Int)) := by
  simp only [bin, shiftI, Int.toNat_natCast]
  rw [if_neg (by omega)]
  have hb : IntKind.i64.bits = 64 := rfl
  rw [hb, Nat.min_eq_left (by omega), pow2_cast, Int.fdiv_eq_ediv_of_nonneg _ (Int.natCast_nonneg _), ← Int.natCast_ediv]
theorem low_loop {n jb sz : Nat} (hsz : sz ≤ 8) {df : List Nat} : ∀ (m i : Nat) (A : Tm) (H : Heap), i + m = sz → getX A 0 = .int .i64 n → getX A 6 = .sl (some ⟨.own jb, 0⟩) sz (.exact sz) → getX A 37 = .int .i64 sz → getX A 38 = .int .i64 i → Holds H (blk jb (cb (lowN i n ++ List.replicate m 0)) 5 :: Γ) →
    ∃ lv A' H', run W E (.loop lp29_0) ⟨A, df, none⟩ H = some (lv, ⟨A', df, none⟩, H') ∧ (lv = .exit 0 ∧ getX A' 6 = getX A 6 ∧ Holds H' (blk jb (cb (lowN sz n)) 5 :: Γ)) := by
  have hlp : ∀ f H, run W E lp29_0 f H = run W E lp29_0 f H := fun _ _ => rfl
  conv at hlp => enter [f, H, 2]; unfold lp29_0
  intro m
  induction m with
  | zero =>
    intro i A H him a0 a6 a37 a38 h
    have : i = sz := by omega
    subst this
    have hlt : ¬ (i : Int) < i := by omega
    rw [run_loop]
    simp only [hlp, a37, a38, hlt, ↓sxp, sxq, ↓reduceIte, Nat.reduceBEq, Nat.reduceLT, evP, evX, evR, blkOf, evA, storeA, Nat.reduceEqDiff, resL, resV, oneOrTup, Int.reduceEq, Int.reduceLT, Int.reduceLE, Int.reduceNeg, Int.reduceAdd, Int.reduceSub, Int.reduceMul, Int.reduceToNat, Nat.reduceAdd, noUnk, AV.cells, reduceCtorEq, Nat.reduceLeDiff, Cells.get, Nat.reduceMul, ↓bnd_assoc]
    exact ⟨_, _, _, rfl, rfl, by simp only [↓sxp, sxq, ↓reduceIte, Nat.reduceBEq, Nat.reduceLT, evP, evX, evR, blkOf, evA, storeA, Nat.reduceEqDiff, resL, resV, oneOrTup, Int.reduceEq, Int.reduceLT, Int.reduceLE, Int.reduceNeg, Int.reduceAdd, Int.reduceSub, Int.reduceMul, Int.reduceToNat, Nat.reduceAdd, noUnk, AV.cells, reduceCtorEq, Nat.reduceLeDiff, Cells.get, Nat.reduceMul, ↓bnd_assoc], by rw [List.replicate_zero, List.append_nil] at h; exact h⟩
  | succ m ih =>
    intro i A H him a0 a6 a37 a38 h
    have hlt : (i : Int) < sz := by omega
    have hwr : IntKind.i64.wrap ((i : Int) + 1) = ((i + 1 : Nat) : Int) := by rw [w64 (by omega)]; simp
    have m1 : IntKind.i64.wrap (8 * (i : Int)) = ((8 * i : Nat) : Int) := by rw [w64 (by omega)]; omega
    have m2 : IntKind.u64.wrap ((8 * i : Nat) : Int) = ((8 * i : Nat) : Int) := by rw [wrap_u64']; omega
    have m3 := i_shr n (8 * i) (by omega)
    have m4 : IntKind.u8.wrap ((n / 2 ^ (8 * i) : Nat) : Int) = ((byteAt n i).toNat : Int) := by rw [wrap_u8', Nat.pow_mul]; rfl
    have hset : (cb (lowN i n ++ List.replicate (m + 1) 0)).set i (.int .u8 (byteAt n i).toNat) = cb (lowN (i + 1) n ++ List.replicate m 0) := by
      rw [lowN_succ, List.replicate_succ]
      have := set_mid (cb (lowN i n)) (.int .u8 ((0 : UInt8).toNat)) (.int .u8 (byteAt n i).toNat) (cb (List.replicate m 0))
      rw [cb_len, lowN_len] at this
      simp only [cb, List.map_append, List.map_cons, List.map_nil, List.append_assoc, List.cons_append, List.nil_append] at this ⊢
      exact this
    apply Fin.ex3
    rw [run_loop]
    generalize hg8 : (8 * i : Nat) = i8 at *
    simp only [hlp, a0, a6, a37, a38, hlt, m1, m2, m3, m4, Int.natCast_nonneg, and_self, Int.toNat_natCast, ↓sxp, sxq, ↓reduceIte, Nat.reduceBEq, Nat.reduceLT, evP, evX, evR, blkOf, evA, storeA, Nat.reduceEqDiff, resL, resV, oneOrTup, Int.reduceEq, Int.reduceLT, Int.reduceLE, Int.reduceNeg, Int.reduceAdd, Int.reduceSub, Int.reduceMul, Int.reduceToNat, Nat.reduceAdd, noUnk, AV.cells, reduceCtorEq, Nat.reduceLeDiff, Cells.get, Nat.reduceMul, ↓bnd_assoc]
    refine Fin.write (cb (lowN (i + 1) n ++ List.replicate m 0)) h (by simp only [Cells.setN, Cells.set, hset]) (by rw [cb_len, List.length_append, lowN_len, List.length_replicate]; simp) rfl fun H4 h4 => ?_
    simp only [a38, hwr, ↓sxp, sxq, ↓reduceIte, Nat.reduceBEq, Nat.reduceLT, evP, evX, evR, blkOf, evA, storeA, Nat.reduceEqDiff, resL, resV, oneOrTup, Int.reduceEq, Int.reduceLT, Int.reduceLE, Int.reduceNeg, Int.reduceAdd, Int.reduceSub, Int.reduceMul, Int.reduceToNat, Nat.reduceAdd, noUnk, AV.cells, reduceCtorEq, Nat.reduceLeDiff, Cells.get, Nat.reduceMul, ↓bnd_assoc]
    exact Fin.of3 (ih (i + 1) _ _ (by omega) (by simp only [a0, ↓sxp, sxq, ↓reduceIte, Nat.reduceBEq, Nat.reduceLT, evP, evX, evR, blkOf, evA, storeA, Nat.reduceEqDiff, resL, resV, oneOrTup, Int.reduceEq, Int.reduceLT, Int.reduceLE, Int.reduceNeg, Int.reduceAdd, Int.reduceSub, Int.reduceMul, Int.reduceToNat, Nat.reduceAdd, noUnk, AV.cells, reduceCtorEq, Nat.reduceLeDiff, Cells.get, Nat.reduceMul, ↓bnd_assoc]) (by simp only [a6, ↓sxp, sxq, ↓reduceIte, Nat.reduceBEq, Nat.reduceLT, evP, evX, evR, blkOf, evA, storeA, Nat.reduceEqDiff, resL, resV, oneOrTup, Int.reduceEq, Int.reduceLT, Int.reduceLE, Int.reduceNeg, Int.reduceAdd, Int.reduceSub, Int.reduceMul, Int.reduceToNat, Nat.reduceAdd, noUnk, AV.cells, reduceCtorEq, Nat.reduceLeDiff, Cells.get, Nat.reduceMul, ↓bnd_assoc]) (by simp only [a37, ↓sxp, sxq, ↓reduceIte, Nat.reduceBEq, Nat.reduceLT, evP, evX, evR, blkOf, evA, storeA, Nat.reduceEqDiff, resL, resV, oneOrTup, Int.reduceEq, Int.reduceLT, Int.reduceLE, Int.reduceNeg, Int.reduceAdd, Int.reduceSub, Int.reduceMul, Int.reduceToNat, Nat.reduceAdd, noUnk, AV.cells, reduceCtorEq, Nat.reduceLeDiff, Cells.get, Nat.reduceMul, ↓bnd_assoc]) (by simp only [↓sxp, sxq, ↓reduceIte, Nat.reduceBEq, Nat.reduceLT, evP, evX, evR, blkOf, evA, storeA, Nat.reduceEqDiff, resL, resV, oneOrTup, Int.reduceEq, Int.reduceLT, Int.reduceLE, Int.reduceNeg, Int.reduceAdd, Int.reduceSub, Int.reduceMul, Int.reduceToNat, Nat.reduceAdd, noUnk, AV.cells, reduceCtorEq, Nat.reduceLeDiff, Cells.get, Nat.reduceMul, ↓bnd_assoc]) h4) fun lv A' H' ⟨q1, q2, q3⟩ => ⟨q1, q2.trans (by simp only [a6, ↓sxp, sxq, ↓reduceIte, Nat.reduceBEq, Nat.reduceLT, evP, evX, evR, blkOf, evA, storeA, Nat.reduceEqDiff, resL, resV, oneOrTup, Int.reduceEq, Int.reduceLT, Int.reduceLE, Int.reduceNeg, Int.reduceAdd, Int.reduceSub, Int.reduceMul, Int.reduceToNat, Nat.reduceAdd, noUnk, AV.cells, reduceCtorEq, Nat.reduceLeDiff, Cells.get, Nat.reduceMul, ↓bnd_assoc]), q3⟩
structure EnvW (E : Env) : Prop extends EnvS E where
  f6 : E 6 = some (.code sf6)
  f7 : E 7 = some (.code sf7)
  f8 : E 8 = some (.code sf8)
  f9 : E 9 = some (.code sf9)
  f10 : E 10 = some (.code sf10)
  f11 : E 11 = some (.code sf11)
  f12 : E 12 = some (.code sf12)
  f17 : E 17 = some (.code sf17)
  f18 : E 18 = some (.code sf18)
  f19 : E 19 = some (.code sf19)
  f20 : E 20 = some (.code sf20)
  f21 : E 21 = some (.code sf21)
  f22 : E 22 = some (.code sf22)
  f23 : E 23 = some (.code sf23)
  f24 : E 24 = some (.code sf24)
  f29 : E 29 = some (.code sf29)
  f30 : E 30 = some (.code sf30)
  f31 : E 31 = some (.code sf31)
  f32 : E 32 = some (.code sf32)
  f33 : E 33 = some (.code sf33)
  f34 : E 34 = some (.code sf34)
  f35 : E 35 = some (.code sf35)
  f36 : E 36 = some (.code sf36)
  f37 : E 37 = some (.code sf37)
  f38 : E 38 = some (.code sf38)
  f46 : E 46 = some (.code sf46)
  f47 : E 47 = some (.code sf47)
  f48 : E 48 = some (.code sf48)
  f50 : E 50 = some (.code sf50)
  f51 : E 51 = some (.code sf51)
theorem c_low (hE : EnvW E) {n sz : Nat} (h1 : 1 ≤ sz) (h8 : sz ≤ 8) (hn : n < 256 ^ sz) (hn2 : n < 4611686018427387904) (h : Holds H Γ) :
    ∃ j H', go W E 29 [.int .i64 (n : Int), .int .i64 (sz : Int)] H = some (.tup [.sl (some ⟨.own j, 0⟩) sz (.exact sz), .int .i64 0], H') ∧ Holds H' (blk j (cb (lowN sz n)) 5 :: Γ) := by
  suffices hh : Fin (fun r : AV × Heap => ∃ j, r.1 = .tup [.sl (some ⟨.own j, 0⟩) sz (.exact sz), .int .i64 0] ∧ Holds r.2 (blk j (cb (lowN sz n)) 5 :: Γ)) (go W E 29 [.int .i64 (n : Int), .int .i64 (sz : Int)] H) by
    obtain ⟨⟨r, H'⟩, e, j, hr, q⟩ := hh
    simp only at hr
    subst hr
    exact ⟨j, H', e, q⟩
  have b1 : ¬ (sz : Int) < 1 := by omega
  have b2 : ¬ (8 : Int) < sz := by omega
  have b3 : ¬ (n : Int) < 0 := by omega
  have b4 : ¬ (4611686018427387904 : Int) < n := by omega
  have m1 : IntKind.i64.wrap (8 * (sz : Int)) = ((8 * sz : Nat) : Int) := by rw [w64 (by omega)]; omega
  have m2 : IntKind.u64.wrap ((8 * sz : Nat) : Int) = ((8 * sz : Nat) : Int) := by rw [wrap_u64']; omega
  have h2 := h.push (c := cb (List.replicate sz 0)) (t := 5)
  rw [go_code hE.f29 (by simp [sf29])]
  have h256 : sz < 256 := by omega
  have fin : ∀ (A : Tm) (j : Nat) (H : Heap) (k : Lv × Fr × Heap → Option (AV × Heap)), getX A 0 = .int .i64 n → getX A 6 = .sl (some ⟨.own j, 0⟩) sz (.exact sz) → getX A 37 = .int .i64 sz → getX A 38 = .int .i64 0 → Holds H (blk j (cb (List.replicate sz 0)) 5 :: Γ) →
      (∀ A' H', getX A' 6 = .sl (some ⟨.own j, 0⟩) sz (.exact sz) → Holds H' (blk j (cb (lowN sz n)) 5 :: Γ) → Fin (fun r : AV × Heap => ∃ j, r.1 = .tup [.sl (some ⟨.own j, 0⟩) sz (.exact sz), .int .i64 0] ∧ Holds r.2 (blk j (cb (lowN sz n)) 5 :: Γ)) (k (.exit 0, ⟨A', [], none⟩, H'))) →
      Fin (fun r : AV × Heap => ∃ j, r.1 = .tup [.sl (some ⟨.own j, 0⟩) sz (.exact sz), .int .i64 0] ∧ Holds r.2 (blk j (cb (lowN sz n)) 5 :: Γ)) (bnd (run W E (.loop lp29_0) ⟨A, [], none⟩ H) k) := fun A j H k a0 a6 a37 a38 hh hk => by
    refine Fin.loop (low_loop (n := n) (jb := j) (sz := sz) h8 sz 0 A H (by omega) a0 a6 a37 a38 hh) fun lv A' H' ⟨e1, b6, h3⟩ => ?_
    subst e1
    exact hk A' H' (b6.trans a6) h3
  by_cases hs : (sz : Int) < 8
  · have m3 : bin .shr (.int .i64 (n : Int)) (.int .u64 ((8 * sz : Nat) : Int)) = some (.int .i64 0) := by
      have := i_shr n (8 * sz) (by omega)
      rw [this, Nat.pow_mul, Nat.div_eq_of_lt hn]; rfl
    generalize hg8 : (8 * sz : Nat) = i8 at *
    simp only [sf29, b1, b2, b3, b4, hs, m1, m2, m3, h256, ↓mksl_bytes (n := sz), ↓sxp, sxq, ↓reduceIte, Nat.reduceBEq, Nat.reduceLT, evP, evX, evR, blkOf, evA, storeA, Nat.reduceEqDiff, resL, resV, oneOrTup, Int.reduceEq, Int.reduceLT, Int.reduceLE, Int.reduceNeg, Int.reduceAdd, Int.reduceSub, Int.reduceMul, Int.reduceToNat, Nat.reduceAdd, noUnk, AV.cells, reduceCtorEq, Nat.reduceLeDiff, Cells.get, Nat.reduceMul, ↓bnd_assoc]
    refine fin _ _ _ _ (by simp only [↓sxp, sxq, ↓reduceIte, Nat.reduceBEq, Nat.reduceLT, evP, evX, evR, blkOf, evA, storeA, Nat.reduceEqDiff, resL, resV, oneOrTup, Int.reduceEq, Int.reduceLT, Int.reduceLE, Int.reduceNeg, Int.reduceAdd, Int.reduceSub, Int.reduceMul, Int.reduceToNat, Nat.reduceAdd, noUnk, AV.cells, reduceCtorEq, Nat.reduceLeDiff, Cells.get, Nat.reduceMul, ↓bnd_assoc]) (by simp only [↓sxp, sxq, ↓reduceIte, Nat.reduceBEq, Nat.reduceLT, evP, evX, evR, blkOf, evA, storeA, Nat.reduceEqDiff, resL, resV, oneOrTup, Int.reduceEq, Int.reduceLT, Int.reduceLE, Int.reduceNeg, Int.reduceAdd, Int.reduceSub, Int.reduceMul, Int.reduceToNat, Nat.reduceAdd, noUnk, AV.cells, reduceCtorEq, Nat.reduceLeDiff, Cells.get, Nat.reduceMul, ↓bnd_assoc]) (by simp only [↓sxp, sxq, ↓reduceIte, Nat.reduceBEq, Nat.reduceLT, evP, evX, evR, blkOf, evA, storeA, Nat.reduceEqDiff, resL, resV, oneOrTup, Int.reduceEq, Int.reduceLT, Int.reduceLE, Int.reduceNeg, Int.reduceAdd, Int.reduceSub, Int.reduceMul, Int.reduceToNat, Nat.reduceAdd, noUnk, AV.cells, reduceCtorEq, Nat.reduceLeDiff, Cells.get, Nat.reduceMul, ↓bnd_assoc]) (by simp only [↓sxp, sxq, ↓reduceIte, Nat.reduceBEq, Nat.reduceLT, evP, evX, evR, blkOf, evA, storeA, Nat.reduceEqDiff, resL, resV, oneOrTup, Int.reduceEq, Int.reduceLT, Int.reduceLE, Int.reduceNeg, Int.reduceAdd, Int.reduceSub, Int.reduceMul, Int.reduceToNat, Nat.reduceAdd, noUnk, AV.cells, reduceCtorEq, Nat.reduceLeDiff, Cells.get, Nat.reduceMul, ↓bnd_assoc]) h2 fun A' H' a6 h3 => ?_
    simp only [a6, ↓sxp, sxq, ↓reduceIte, Nat.reduceBEq, Nat.reduceLT, evP, evX, evR, blkOf, evA, storeA, Nat.reduceEqDiff, resL, resV, oneOrTup, Int.reduceEq, Int.reduceLT, Int.reduceLE, Int.reduceNeg, Int.reduceAdd, Int.reduceSub, Int.reduceMul, Int.reduceToNat, Nat.reduceAdd, noUnk, AV.cells, reduceCtorEq, Nat.reduceLeDiff, Cells.get, Nat.reduceMul, ↓bnd_assoc]
    exact Fin.ret ⟨_, rfl, h3⟩
  · simp only [sf29, b1, b2, b3, b4, hs, h256, ↓mksl_bytes (n := sz), ↓sxp, sxq, ↓reduceIte, Nat.reduceBEq, Nat.reduceLT, evP, evX, evR, blkOf, evA, storeA, Nat.reduceEqDiff, resL, resV, oneOrTup, Int.reduceEq, Int.reduceLT, Int.reduceLE, Int.reduceNeg, Int.reduceAdd, Int.reduceSub, Int.reduceMul, Int.reduceToNat, Nat.reduceAdd, noUnk, AV.cells, reduceCtorEq, Nat.reduceLeDiff, Cells.get, Nat.reduceMul, ↓bnd_assoc]
    refine fin _ _ _ _ (by simp only [↓sxp, sxq, ↓reduceIte, Nat.reduceBEq, Nat.reduceLT, evP, evX, evR, blkOf, evA, storeA, Nat.reduceEqDiff, resL, resV, oneOrTup, Int.reduceEq, Int.reduceLT, Int.reduceLE, Int.reduceNeg, Int.reduceAdd, Int.reduceSub, Int.reduceMul, Int.reduceToNat, Nat.reduceAdd, noUnk, AV.cells, reduceCtorEq, Nat.reduceLeDiff, Cells.get, Nat.reduceMul, ↓bnd_assoc]) (by simp only [↓sxp, sxq, ↓reduceIte, Nat.reduceBEq, Nat.reduceLT, evP, evX, evR, blkOf, evA, storeA, Nat.reduceEqDiff, resL, resV, oneOrTup, Int.reduceEq, Int.reduceLT, Int.reduceLE, Int.reduceNeg, Int.reduceAdd, Int.reduceSub, Int.reduceMul, Int.reduceToNat, Nat.reduceAdd, noUnk, AV.cells, reduceCtorEq, Nat.reduceLeDiff, Cells.get, Nat.reduceMul, ↓bnd_assoc]) (by simp only [↓sxp, sxq, ↓reduceIte, Nat.reduceBEq, Nat.reduceLT, evP, evX, evR, blkOf, evA, storeA, Nat.reduceEqDiff, resL, resV, oneOrTup, Int.reduceEq, Int.reduceLT, Int.reduceLE, Int.reduceNeg, Int.reduceAdd, Int.reduceSub, Int.reduceMul, Int.reduceToNat, Nat.reduceAdd, noUnk, AV.cells, reduceCtorEq, Nat.reduceLeDiff, Cells.get, Nat.reduceMul, ↓bnd_assoc]) (by simp only [↓sxp, sxq, ↓reduceIte, Nat.reduceBEq, Nat.reduceLT, evP, evX, evR, blkOf, evA, storeA, Nat.reduceEqDiff, resL, resV, oneOrTup, Int.reduceEq, Int.reduceLT, Int.reduceLE, Int.reduceNeg, Int.reduceAdd, Int.reduceSub, Int.reduceMul, Int.reduceToNat, Nat.reduceAdd, noUnk, AV.cells, reduceCtorEq, Nat.reduceLeDiff, Cells.get, Nat.reduceMul, ↓bnd_assoc]) h2 fun A' H' a6 h3 => ?_
    simp only [a6, ↓sxp, sxq, ↓reduceIte, Nat.reduceBEq, Nat.reduceLT, evP, evX, evR, blkOf, evA, storeA, Nat.reduceEqDiff, resL, resV, oneOrTup, Int.reduceEq, Int.reduceLT, Int.reduceLE, Int.reduceNeg, Int.reduceAdd, Int.reduceSub, Int.reduceMul, Int.reduceToNat, Nat.reduceAdd, noUnk, AV.cells, reduceCtorEq, Nat.reduceLeDiff, Cells.get, Nat.reduceMul, ↓bnd_assoc]
    exact Fin.ret ⟨_, rfl, h3⟩
end
end Go.Proofs.YtjfnhdiimibmiaaDoor.Sx

/- Numbers as bytes, turned round. -/
namespace Go.Proofs.YtjfnhdiimibmiaaDoor.Sx
open HP
section
variable {W : World} {E : Env} {H : Heap} {Γ : List HP}
/-- Writing into a row. -/
theorem Row.wr (hw : HWf H) {ty es j off n : Nat} {flat : List AV} {x : AV} {c : Cap} {ids : List Nat} (r : Row H ty es flat (.sl (some ⟨.own j, 0⟩) n c) ids) (ho : off < flat.length) (hx : oneC x = true) :
    ∃ H', H.write j off [x] = some H' ∧ Row H' ty es (flat.set off x) (.sl (some ⟨.own j, 0⟩) n c) ids ∧ Keep ids H H' := by
  cases r with
  | mk h0 hl hg hln =>
    rename_i l fl
    have hj := hw.lt hg
    have hl2 := hw.line_lt hg
    refine ⟨{ H with objs := H.objs.set j (.cells (.lst (flat.set off x)) ty (some l)), lines := H.lines.set l (j, j) }, ?_, ?_, ?_⟩
    · simp only [Heap.write, hg, hln, if_true, Cells.size, List.all_cons, List.all_nil, hx, Bool.and_self, List.length_cons, List.length_nil]
      rw [if_pos ⟨by omega, trivial⟩]
      rfl
    · refine .mk (fl := j) h0 (by rw [List.length_set]; exact hl) ?_ (by simp [Tr.get_set])
      simp [Heap.get, Tr.get_set]
    · refine ⟨Nat.le_refl _, fun i hi hn => ?_, fun i hi hn => ?_, hw.set (Nat.le_refl _) hj (fun l' e => by cases e; exact .inr (hw.root j _ _ l (Heap.get_of_objs hg)))⟩
      · simp only [Tr.get_set]; rw [if_neg (fun e => hn (by simp [e]))]
      · simp only [Tr.get_set]; rw [if_neg (fun e => hn (by simp [e]))]
theorem Holds.rwr {ty es j off n : Nat} {flat : List AV} {x : AV} {c : Cap} (h : Holds H (row ty es flat (.sl (some ⟨.own j, 0⟩) n c) :: Γ)) (ho : off < flat.length) (hx : oneC x = true) :
    ∃ H', H.write j off [x] = some H' ∧ Holds H' (row ty es (flat.set off x) (.sl (some ⟨.own j, 0⟩) n c) :: Γ) := by
  obtain ⟨fp, f, g, a, b, e, d⟩ := h.a
  obtain ⟨H', e1, r, k⟩ := Row.wr h.wf a ho hx
  refine ⟨H', e1, h.step fun fp2 hp => ?_⟩
  obtain ⟨H2, e2, r2, k2⟩ := Row.wr h.wf hp ho hx
  rw [e1] at e2
  cases e2
  exact ⟨fp2, r2, k2, fun i hi => .inl hi⟩
theorem Fin.rwr {α : Type} {R : α → Prop} {k : Heap → Option α} {ty es j off n : Nat} {flat : List AV} {x : AV} {c : Cap} (h : Holds H (row ty es flat (.sl (some ⟨.own j, 0⟩) n c) :: Γ)) (ho : off < flat.length) (hx : oneC x = true)
    (hk : ∀ H', Holds H' (row ty es (flat.set off x) (.sl (some ⟨.own j, 0⟩) n c) :: Γ) → Fin R (k H')) : Fin R (bnd (H.write j off [x]) k) := by
  obtain ⟨H', e, h'⟩ := h.rwr ho hx
  rw [e, bnd_some]
  exact hk _ h'
/-- Appending to an empty list that is not nil. -/
theorem Holds.eadd {j ty bytes k : Nat} {t : TypeId} {new : List AV} (h : Holds H (blk j [] t :: Γ)) (hk : 0 < k) (hl : new.length = k) (h1 : new.all oneC = true) (hb : k * bytes ≤ 140737488355328) :
    ∃ v' H', appN W H ty 1 bytes (.sl (some ⟨.own j, 0⟩) 0 (.exact 0)) k new = some (v', H') ∧ Holds H' (row ty 1 new v' :: blk j [] t :: Γ) := by
  have e0 : appN W H ty 1 bytes (.sl (some ⟨.own j, 0⟩) 0 (.exact 0)) k new = appN W H ty 1 bytes (.sl none 0 (.exact 0)) k new := by
    simp only [appN, blkOf, h.get, Nat.zero_mul, Cells.getN]
    rw [if_neg (by omega), if_neg (by omega), if_pos ⟨trivial, trivial⟩, if_neg (by omega), Nat.zero_add]
  rw [e0]
  have := (h.row_nil (ty := ty) (es := 1)).addN (W := W) (bytes := bytes) (k := k) (new := new) (n := 0) (by omega) hk (by rw [hl, Nat.mul_one]) h1 rfl (by rw [Nat.zero_add]; exact hb)
  rw [List.nil_append] at this
  exact this
theorem cb_get {L : List UInt8} {i : Nat} (h : i < L.length) : (cb L)[i]? = some (.int .u8 (L.getD i 0).toNat) := by
  simp [List.getElem?_eq_getElem h, List.getD_eq_getElem?_getD]
theorem cb_set (L : List UInt8) (i : Nat) (b : UInt8) : (cb L).set i (.int .u8 b.toNat) = cb (L.set i b) := List.map_set.symm
/-- So many swaps are done. -/
def Swp (L : List UInt8) (i : Nat) (L' : List UInt8) : Prop := L'.length = L.length ∧ ∀ k, k < L.length → L'.getD k 0 = if k < i ∨ L.length - 1 - i < k then L.getD (L.length - 1 - k) 0 else L.getD k 0
theorem bD_set (L : List UInt8) (i k : Nat) (b : UInt8) (hi : i < L.length) : (L.set i b).getD k 0 = if k = i then b else L.getD k 0 := by
  simp only [List.getD_eq_getElem?_getD, List.getElem?_set]
  by_cases e : i = k
  · subst e; rw [if_pos rfl, if_pos hi, if_pos rfl]; rfl
  · rw [if_neg e, if_neg (fun h => e h.symm)]
theorem Swp.step {L L' : List UInt8} {i : Nat} (h : Swp L i L') (hi : i < L.length - 1 - i) : Swp L (i + 1) ((L'.set i (L'.getD (L.length - 1 - i) 0)).set (L.length - 1 - i) (L'.getD i 0)) := by
  obtain ⟨h1, h2⟩ := h
  refine ⟨by simp [h1], fun k hk => ?_⟩
  rw [bD_set _ _ _ _ (by simp; omega), bD_set _ _ _ _ (by omega)]
  by_cases e1 : k = L.length - 1 - i
  · subst e1
    rw [if_pos rfl, h2 i (by omega), if_neg (by omega), if_pos (by omega), show L.length - 1 - (L.length - 1 - i) = i from by omega]
  · rw [if_neg e1]
    by_cases e2 : k = i
    · subst e2
      rw [if_pos rfl, h2 _ (by omega), if_neg (by omega), if_pos (by omega)]
    · rw [if_neg e2, h2 k hk]
      by_cases e3 : k < i ∨ L.length - 1 - i < k
      · rw [if_pos e3, if_pos (by omega)]
      · rw [if_neg e3, if_neg (by omega)]
theorem Swp.done {L L' : List UInt8} {i : Nat} (h : Swp L i L') (hi : L.length - 1 - i ≤ i) : L' = L.reverse := by
  obtain ⟨h1, h2⟩ := h
  apply List.ext_getElem (by rw [h1, List.length_reverse])
  intro k hk hk2
  rw [h1] at hk
  have := h2 k hk
  rw [List.getElem_reverse]
  have e1 : L'.getD k 0 = L'[k] := by rw [List.getD_eq_getElem?_getD, List.getElem?_eq_getElem (by omega)]; rfl
  have e2 : L.getD (L.length - 1 - k) 0 = L[L.length - 1 - k]'(by omega) := by rw [List.getD_eq_getElem?_getD, List.getElem?_eq_getElem (by omega)]; rfl
  rw [← e1, this, ← e2]
  split
  · rfl
  · rw [show L.length - 1 - k = k from by omega]
theorem rev_loop {L : List UInt8} {j n : Nat} (hn : L.length = n) (hn0 : 0 < n) (hn1 : n < 65536) {c : Cap} {df : List Nat} : ∀ (m i : Nat) (A : Tm) (H : Heap) (L' : List UInt8), i + m = n → 2 * i ≤ n → Swp L i L' → getX A 0 = .sl (some ⟨.own j, 0⟩) n c → getX A 2 = .int .i64 i → getX A 3 = .int .i64 ((n : Int) - 1 - i) → Holds H (row 5 1 (cb L') (.sl (some ⟨.own j, 0⟩) n c) :: Γ) →
    ∃ lv A' H', run W E (.loop lp47_0) ⟨A, df, none⟩ H = some (lv, ⟨A', df, none⟩, H') ∧ (lv = .exit 0 ∧ Holds H' (row 5 1 (cb L.reverse) (.sl (some ⟨.own j, 0⟩) n c) :: Γ)) := by
  have hlp : ∀ f H, run W E lp47_0 f H = run W E lp47_0 f H := fun _ _ => rfl
  conv at hlp => enter [f, H, 2]; unfold lp47_0
  intro m
  induction m with
  | zero => intro i A H L' him hle; omega
  | succ m ih =>
    intro i A H L' him hle hs a0 a2 a3 h
    have a3' : getX A 3 = .int .i64 ((n - 1 - i : Nat) : Int) := by rw [a3]; congr 1; omega
    by_cases hd : i < n - 1 - i
    · have hlt : (i : Int) < ((n - 1 - i : Nat) : Int) := by omega
      have w1 : IntKind.i64.wrap ((i : Int) + 1) = ((i + 1 : Nat) : Int) := by rw [w64 (by omega)]; simp
      have w2 : IntKind.i64.wrap (((n - 1 - i : Nat) : Int) - 1) = (n : Int) - 1 - ((i + 1 : Nat) : Int) := by rw [w64 (by omega)]; omega
      have i1 : (i : Int) < (n : Int) := by omega
      have i2 : ((n - 1 - i : Nat) : Int) < (n : Int) := by omega
      have hl' := hs.1
      have x1 := cb_get (show i < L'.length by omega)
      have x2 := cb_get (show n - 1 - i < L'.length by omega)
      obtain ⟨j2, l2, c2, ev, g⟩ := h.row_get (by omega) (n := n) (by rw [cb_len]; omega) hn0
      cases ev
      have gb : ({ H with next := H.next + 16 } : Heap).get j = H.get j := get_nextH
      rw [g] at gb
      apply Fin.ex3
      rw [run_loop]
      simp only [hlp, a0, a2, a3', hlt, i1, i2, Int.natCast_nonneg, and_self, ↓gb, x1, x2, Int.toNat_natCast, ↓sxp, sxq, ↓reduceIte, Nat.reduceBEq, Nat.reduceLT, evP, evX, evR, blkOf, evA, storeA, Nat.reduceEqDiff, resL, resV, oneOrTup, Int.reduceEq, Int.reduceLT, Int.reduceLE, Int.reduceNeg, Int.reduceAdd, Int.reduceSub, Int.reduceMul, Int.reduceToNat, Nat.reduceAdd, noUnk, AV.cells, reduceCtorEq, Nat.reduceLeDiff, Cells.get, Nat.reduceMul, ↓bnd_assoc]
      refine Fin.rwr (h.bump 16) (by rw [cb_len]; omega) rfl fun H2 h2 => ?_
      rw [cb_set] at h2
      refine Fin.rwr h2 (by rw [cb_len]; simp; omega) rfl fun H3 h3 => ?_
      rw [cb_set] at h3
      simp only [a2, a3', w1, w2, ↓sxp, sxq, ↓reduceIte, Nat.reduceBEq, Nat.reduceLT, evP, evX, evR, blkOf, evA, storeA, Nat.reduceEqDiff, resL, resV, oneOrTup, Int.reduceEq, Int.reduceLT, Int.reduceLE, Int.reduceNeg, Int.reduceAdd, Int.reduceSub, Int.reduceMul, Int.reduceToNat, Nat.reduceAdd, noUnk, AV.cells, reduceCtorEq, Nat.reduceLeDiff, Cells.get, Nat.reduceMul, ↓bnd_assoc]
      have hstep := hs.step (by omega)
      rw [hn] at hstep
      exact Fin.of3 (ih (i + 1) _ _ _ (by omega) (by omega) hstep (by simp only [a0, ↓sxp, sxq, ↓reduceIte, Nat.reduceBEq, Nat.reduceLT, evP, evX, evR, blkOf, evA, storeA, Nat.reduceEqDiff, resL, resV, oneOrTup, Int.reduceEq, Int.reduceLT, Int.reduceLE, Int.reduceNeg, Int.reduceAdd, Int.reduceSub, Int.reduceMul, Int.reduceToNat, Nat.reduceAdd, noUnk, AV.cells, reduceCtorEq, Nat.reduceLeDiff, Cells.get, Nat.reduceMul, ↓bnd_assoc]) (by simp only [↓sxp, sxq, ↓reduceIte, Nat.reduceBEq, Nat.reduceLT, evP, evX, evR, blkOf, evA, storeA, Nat.reduceEqDiff, resL, resV, oneOrTup, Int.reduceEq, Int.reduceLT, Int.reduceLE, Int.reduceNeg, Int.reduceAdd, Int.reduceSub, Int.reduceMul, Int.reduceToNat, Nat.reduceAdd, noUnk, AV.cells, reduceCtorEq, Nat.reduceLeDiff, Cells.get, Nat.reduceMul, ↓bnd_assoc]) (by simp only [↓sxp, sxq, ↓reduceIte, Nat.reduceBEq, Nat.reduceLT, evP, evX, evR, blkOf, evA, storeA, Nat.reduceEqDiff, resL, resV, oneOrTup, Int.reduceEq, Int.reduceLT, Int.reduceLE, Int.reduceNeg, Int.reduceAdd, Int.reduceSub, Int.reduceMul, Int.reduceToNat, Nat.reduceAdd, noUnk, AV.cells, reduceCtorEq, Nat.reduceLeDiff, Cells.get, Nat.reduceMul, ↓bnd_assoc]) h3) fun _ _ _ q => q
    · have hlt : ¬ (i : Int) < ((n - 1 - i : Nat) : Int) := by omega
      rw [run_loop]
      simp only [hlp, a0, a2, a3', hlt, ↓sxp, sxq, ↓reduceIte, Nat.reduceBEq, Nat.reduceLT, evP, evX, evR, blkOf, evA, storeA, Nat.reduceEqDiff, resL, resV, oneOrTup, Int.reduceEq, Int.reduceLT, Int.reduceLE, Int.reduceNeg, Int.reduceAdd, Int.reduceSub, Int.reduceMul, Int.reduceToNat, Nat.reduceAdd, noUnk, AV.cells, reduceCtorEq, Nat.reduceLeDiff, Cells.get, Nat.reduceMul, ↓bnd_assoc]
      have e := hs.done (by omega)
      subst e
      exact ⟨_, _, _, rfl, rfl, h⟩
end
end Go.Proofs.YtjfnhdiimibmiaaDoor.Sx

/- Put: the program's, and the document's. -/
namespace Go.Proofs.YtjfnhdiimibmiaaDoor.Sx
open HP
section
variable {W : World} {E : Env} {H : Heap} {Γ : List HP}
theorem c_clone (hE : EnvW E) {L : List UInt8} {j n : Nat} (hn : L.length = n) (hn0 : 0 < n) (hn1 : n < 65536) (h : Holds H (blk j (cb L) 5 :: Γ)) :
    ∃ v H', go W E 46 [.sl (some ⟨.own j, 0⟩) n (.exact n)] H = some (v, H') ∧ Holds H' (row 5 1 (cb L) v :: blk j (cb L) 5 :: Γ) := by
  suffices hh : Fin (fun r : AV × Heap => Holds r.2 (row 5 1 (cb L) r.1 :: blk j (cb L) 5 :: Γ)) (go W E 46 [.sl (some ⟨.own j, 0⟩) n (.exact n)] H) by
    obtain ⟨⟨r, H'⟩, e, q⟩ := hh
    exact ⟨r, H', e, q⟩
  have h2 := h.push (c := []) (t := 5)
  have g2 := (h2.ord [1]).get
  have hgn := getN_all (cb L)
  rw [cb_len, hn] at hgn
  rw [go_code hE.f46 (by simp [sf46])]
  simp only [sf46, ↓sxp, sxq, ↓reduceIte, Nat.reduceBEq, Nat.reduceLT, evP, evX, evR, blkOf, evA, storeA, Nat.reduceEqDiff, resL, resV, oneOrTup, Int.reduceEq, Int.reduceLT, Int.reduceLE, Int.reduceNeg, Int.reduceAdd, Int.reduceSub, Int.reduceMul, Int.reduceToNat, Nat.reduceAdd, noUnk, AV.cells, reduceCtorEq, Nat.reduceLeDiff, Cells.get, Nat.reduceMul, ↓bnd_assoc]
  trace_state
  obtain ⟨v', H', e, h3⟩ := h2.eadd (W := W) (ty := 5) (bytes := 1) (k := n) (new := cb L) hn0 (by rw [cb_len, hn]) (cb_one L) (by omega)
  have hs : srcA W (H.push (.cells (.lst []) 5 none)) 1 false (.sl (some ⟨.own j, 0⟩) n (.exact n)) = some (n, cb L) := by
    simp only [srcA, blkOf, g2, Nat.mul_one, hgn]
  have e' : appA W (H.push (.cells (.lst []) 5 none)) 5 1 1 false (.sl (some ⟨.own H.next, 0⟩) 0 (.exact 0)) (.sl (some ⟨.own j, 0⟩) n (.exact n)) = some (v', H') := by
    simp only [appA, hs]; exact e
  simp only [↓e', ↓sxp, sxq, ↓reduceIte, Nat.reduceBEq, Nat.reduceLT, evP, evX, evR, blkOf, evA, storeA, Nat.reduceEqDiff, resL, resV, oneOrTup, Int.reduceEq, Int.reduceLT, Int.reduceLE, Int.reduceNeg, Int.reduceAdd, Int.reduceSub, Int.reduceMul, Int.reduceToNat, Nat.reduceAdd, noUnk, AV.cells, reduceCtorEq, Nat.reduceLeDiff, Cells.get, Nat.reduceMul, ↓bnd_assoc]
  exact Fin.ret (h3.rm 1)
theorem c_rev (hE : EnvW E) {L : List UInt8} {j n : Nat} {c : Cap} (hn : L.length = n) (hn0 : 0 < n) (hn1 : n < 65536) (h : Holds H (row 5 1 (cb L) (.sl (some ⟨.own j, 0⟩) n c) :: Γ)) :
    ∃ H', go W E 47 [.sl (some ⟨.own j, 0⟩) n c] H = some (.tup [], H') ∧ Holds H' (row 5 1 (cb L.reverse) (.sl (some ⟨.own j, 0⟩) n c) :: Γ) := by
  apply Ends.out
  refine (show Fin (fun r : AV × Heap => r.1 = .tup [] ∧ Holds r.2 (row 5 1 (cb L.reverse) (.sl (some ⟨.own j, 0⟩) n c) :: Γ)) _ from ?_)
  have w1 : IntKind.i64.wrap ((n : Int) - 1) = (n : Int) - 1 - ((0 : Nat) : Int) := by rw [w64 (by omega)]; omega
  rw [go_code hE.f47 (by simp [sf47])]
  simp only [sf47, w1, ↓sxp, sxq, ↓reduceIte, Nat.reduceBEq, Nat.reduceLT, evP, evX, evR, blkOf, evA, storeA, Nat.reduceEqDiff, resL, resV, oneOrTup, Int.reduceEq, Int.reduceLT, Int.reduceLE, Int.reduceNeg, Int.reduceAdd, Int.reduceSub, Int.reduceMul, Int.reduceToNat, Nat.reduceAdd, noUnk, AV.cells, reduceCtorEq, Nat.reduceLeDiff, Cells.get, Nat.reduceMul, ↓bnd_assoc]
  refine Fin.loop (rev_loop hn hn0 hn1 n 0 _ _ L (by omega) (by omega) ⟨rfl, fun k hk => by rw [if_neg (by omega)]⟩ (by simp only [↓sxp, sxq, ↓reduceIte, Nat.reduceBEq, Nat.reduceLT, evP, evX, evR, blkOf, evA, storeA, Nat.reduceEqDiff, resL, resV, oneOrTup, Int.reduceEq, Int.reduceLT, Int.reduceLE, Int.reduceNeg, Int.reduceAdd, Int.reduceSub, Int.reduceMul, Int.reduceToNat, Nat.reduceAdd, noUnk, AV.cells, reduceCtorEq, Nat.reduceLeDiff, Cells.get, Nat.reduceMul, ↓bnd_assoc]) (by simp only [↓sxp, sxq, ↓reduceIte, Nat.reduceBEq, Nat.reduceLT, evP, evX, evR, blkOf, evA, storeA, Nat.reduceEqDiff, resL, resV, oneOrTup, Int.reduceEq, Int.reduceLT, Int.reduceLE, Int.reduceNeg, Int.reduceAdd, Int.reduceSub, Int.reduceMul, Int.reduceToNat, Nat.reduceAdd, noUnk, AV.cells, reduceCtorEq, Nat.reduceLeDiff, Cells.get, Nat.reduceMul, ↓bnd_assoc]; rfl) (by simp only [↓sxp, sxq, ↓reduceIte, Nat.reduceBEq, Nat.reduceLT, evP, evX, evR, blkOf, evA, storeA, Nat.reduceEqDiff, resL, resV, oneOrTup, Int.reduceEq, Int.reduceLT, Int.reduceLE, Int.reduceNeg, Int.reduceAdd, Int.reduceSub, Int.reduceMul, Int.reduceToNat, Nat.reduceAdd, noUnk, AV.cells, reduceCtorEq, Nat.reduceLeDiff, Cells.get, Nat.reduceMul, ↓bnd_assoc]) h) fun lv A H1 ⟨q1, h1⟩ => ?_
  subst q1
  simp only [↓sxp, sxq, ↓reduceIte, Nat.reduceBEq, Nat.reduceLT, evP, evX, evR, blkOf, evA, storeA, Nat.reduceEqDiff, resL, resV, oneOrTup, Int.reduceEq, Int.reduceLT, Int.reduceLE, Int.reduceNeg, Int.reduceAdd, Int.reduceSub, Int.reduceMul, Int.reduceToNat, Nat.reduceAdd, noUnk, AV.cells, reduceCtorEq, Nat.reduceLeDiff, Cells.get, Nat.reduceMul, ↓bnd_assoc]
  exact Fin.ret ⟨rfl, h1⟩
theorem c_turned (hE : EnvW E) {L : List UInt8} {j n : Nat} (hn : L.length = n) (hn0 : 0 < n) (hn1 : n < 65536) (h : Holds H (blk j (cb L) 5 :: Γ)) :
    ∃ v H', go W E 30 [.sl (some ⟨.own j, 0⟩) n (.exact n)] H = some (v, H') ∧ Holds H' (row 5 1 (cb L.reverse) v :: Γ) := by
  suffices hh : Fin (fun r : AV × Heap => Holds r.2 (row 5 1 (cb L.reverse) r.1 :: Γ)) (go W E 30 [.sl (some ⟨.own j, 0⟩) n (.exact n)] H) by
    obtain ⟨⟨r, H'⟩, e, q⟩ := hh
    exact ⟨r, H', e, q⟩
  rw [go_code hE.f30 (by simp [sf30])]
  simp only [sf30, ↓sxp, sxq, ↓reduceIte, Nat.reduceBEq, Nat.reduceLT, evP, evX, evR, blkOf, evA, storeA, Nat.reduceEqDiff, resL, resV, oneOrTup, Int.reduceEq, Int.reduceLT, Int.reduceLE, Int.reduceNeg, Int.reduceAdd, Int.reduceSub, Int.reduceMul, Int.reduceToNat, Nat.reduceAdd, noUnk, AV.cells, reduceCtorEq, Nat.reduceLeDiff, Cells.get, Nat.reduceMul, ↓bnd_assoc]
  refine Fin.call2 (B := fun v => row 5 1 (cb L) v :: blk j (cb L) 5 :: Γ) (c_clone hE hn hn0 hn1 h) fun v H1 h1 => ?_
  simp only [↓sxp, sxq, ↓reduceIte, Nat.reduceBEq, Nat.reduceLT, evP, evX, evR, blkOf, evA, storeA, Nat.reduceEqDiff, resL, resV, oneOrTup, Int.reduceEq, Int.reduceLT, Int.reduceLE, Int.reduceNeg, Int.reduceAdd, Int.reduceSub, Int.reduceMul, Int.reduceToNat, Nat.reduceAdd, noUnk, AV.cells, reduceCtorEq, Nat.reduceLeDiff, Cells.get, Nat.reduceMul, ↓bnd_assoc]
  obtain ⟨j2, l2, c2, rfl, g⟩ := h1.row_get (by omega) (n := n) (by rw [cb_len]; omega) hn0
  refine Fin.call (c_rev hE hn hn0 hn1 h1) fun H2 h2 => ?_
  simp only [↓sxp, sxq, ↓reduceIte, Nat.reduceBEq, Nat.reduceLT, evP, evX, evR, blkOf, evA, storeA, Nat.reduceEqDiff, resL, resV, oneOrTup, Int.reduceEq, Int.reduceLT, Int.reduceLE, Int.reduceNeg, Int.reduceAdd, Int.reduceSub, Int.reduceMul, Int.reduceToNat, Nat.reduceAdd, noUnk, AV.cells, reduceCtorEq, Nat.reduceLeDiff, Cells.get, Nat.reduceMul, ↓bnd_assoc]
  exact Fin.ret (h2.rm 1)
theorem c_put (hE : EnvW E) {n sz : Nat} (h1 : 1 ≤ sz) (h8 : sz ≤ 8) (hn : n < 256 ^ sz) (hn2 : n < 4611686018427387904) (h : Holds H Γ) :
    ∃ v H', go W E 17 [.int .i64 (n : Int), .int .i64 (sz : Int)] H = some (.tup [v, .int .i64 0], H') ∧ Holds H' (row 5 1 (cb (bytesN sz n)) v :: Γ) := by
  suffices hh : Fin (fun r : AV × Heap => ∃ v, r.1 = .tup [v, .int .i64 0] ∧ Holds r.2 (row 5 1 (cb (bytesN sz n)) v :: Γ)) (go W E 17 [.int .i64 (n : Int), .int .i64 (sz : Int)] H) by
    obtain ⟨⟨r, H'⟩, e, v, hr, q⟩ := hh
    simp only at hr
    subst hr
    exact ⟨v, H', e, q⟩
  rw [go_code hE.f17 (by simp [sf17])]
  simp only [sf17, ↓sxp, sxq, ↓reduceIte, Nat.reduceBEq, Nat.reduceLT, evP, evX, evR, blkOf, evA, storeA, Nat.reduceEqDiff, resL, resV, oneOrTup, Int.reduceEq, Int.reduceLT, Int.reduceLE, Int.reduceNeg, Int.reduceAdd, Int.reduceSub, Int.reduceMul, Int.reduceToNat, Nat.reduceAdd, noUnk, AV.cells, reduceCtorEq, Nat.reduceLeDiff, Cells.get, Nat.reduceMul, ↓bnd_assoc]
  refine Fin.callE (fun j : Nat => .tup [.sl (some ⟨.own j, 0⟩) sz (.exact sz), .int .i64 0]) (fun j => blk j (cb (lowN sz n)) 5 :: Γ) (c_low hE h1 h8 hn hn2 h) fun j H1 h1' => ?_
  simp only [↓sxp, sxq, ↓reduceIte, Nat.reduceBEq, Nat.reduceLT, evP, evX, evR, blkOf, evA, storeA, Nat.reduceEqDiff, resL, resV, oneOrTup, Int.reduceEq, Int.reduceLT, Int.reduceLE, Int.reduceNeg, Int.reduceAdd, Int.reduceSub, Int.reduceMul, Int.reduceToNat, Nat.reduceAdd, noUnk, AV.cells, reduceCtorEq, Nat.reduceLeDiff, Cells.get, Nat.reduceMul, ↓bnd_assoc]
  refine Fin.call2 (B := fun v => row 5 1 (cb (lowN sz n).reverse) v :: Γ) (c_turned hE (lowN_len sz n) h1 (by omega) h1') fun v H2 h2 => ?_
  rw [lowN_rev] at h2
  simp only [↓sxp, sxq, ↓reduceIte, Nat.reduceBEq, Nat.reduceLT, evP, evX, evR, blkOf, evA, storeA, Nat.reduceEqDiff, resL, resV, oneOrTup, Int.reduceEq, Int.reduceLT, Int.reduceLE, Int.reduceNeg, Int.reduceAdd, Int.reduceSub, Int.reduceMul, Int.reduceToNat, Nat.reduceAdd, noUnk, AV.cells, reduceCtorEq, Nat.reduceLeDiff, Cells.get, Nat.reduceMul, ↓bnd_assoc]
  exact Fin.ret ⟨v, rfl, h2⟩
theorem dlow_loop {sz : Nat} {n0 : Nat} (hsz : sz ≤ 8) (hn : n0 < 4611686018427387904) {df : List Nat} : ∀ (m i x : Nat) (A : Tm) (H : Heap) (v : AV), i + m = sz → x = n0 / 256 ^ i → getX A 0 = .int .i64 x → getX A 1 = .int .i64 sz → getX A 6 = v → getX A 7 = .int .i64 i → XH H (lowN i n0) v Γ →
    ∃ lv A' H', run W E (.loop lp36_0) ⟨A, df, none⟩ H = some (lv, ⟨A', df, none⟩, H') ∧ (lv = .exit 0 ∧ getX A' 0 = .int .i64 ((n0 / 256 ^ sz : Nat) : Int) ∧ ∃ v', getX A' 6 = v' ∧ XH H' (lowN sz n0) v' Γ) := by
  have hlp : ∀ f H, run W E lp36_0 f H = run W E lp36_0 f H := fun _ _ => rfl
  conv at hlp => enter [f, H, 2]; unfold lp36_0
  intro m
  induction m with
  | zero =>
    intro i x A H v him hx a0 a1 a6 a7 h
    have : i = sz := by omega
    subst this
    have hlt : ¬ (i : Int) < i := by omega
    rw [run_loop]
    simp only [hlp, a1, a7, hlt, ↓sxp, sxq, ↓reduceIte, Nat.reduceBEq, Nat.reduceLT, evP, evX, evR, blkOf, evA, storeA, Nat.reduceEqDiff, resL, resV, oneOrTup, Int.reduceEq, Int.reduceLT, Int.reduceLE, Int.reduceNeg, Int.reduceAdd, Int.reduceSub, Int.reduceMul, Int.reduceToNat, Nat.reduceAdd, noUnk, AV.cells, reduceCtorEq, Nat.reduceLeDiff, Cells.get, Nat.reduceMul, ↓bnd_assoc]
    exact ⟨_, _, _, rfl, rfl, by simp only [a0, hx, ↓sxp, sxq, ↓reduceIte, Nat.reduceBEq, Nat.reduceLT, evP, evX, evR, blkOf, evA, storeA, Nat.reduceEqDiff, resL, resV, oneOrTup, Int.reduceEq, Int.reduceLT, Int.reduceLE, Int.reduceNeg, Int.reduceAdd, Int.reduceSub, Int.reduceMul, Int.reduceToNat, Nat.reduceAdd, noUnk, AV.cells, reduceCtorEq, Nat.reduceLeDiff, Cells.get, Nat.reduceMul, ↓bnd_assoc], v, by simp only [a6, ↓sxp, sxq, ↓reduceIte, Nat.reduceBEq, Nat.reduceLT, evP, evX, evR, blkOf, evA, storeA, Nat.reduceEqDiff, resL, resV, oneOrTup, Int.reduceEq, Int.reduceLT, Int.reduceLE, Int.reduceNeg, Int.reduceAdd, Int.reduceSub, Int.reduceMul, Int.reduceToNat, Nat.reduceAdd, noUnk, AV.cells, reduceCtorEq, Nat.reduceLeDiff, Cells.get, Nat.reduceMul, ↓bnd_assoc], h⟩
  | succ m ih =>
    intro i x A H v him hx a0 a1 a6 a7 h
    have hlt : (i : Int) < sz := by omega
    have hwr : IntKind.i64.wrap ((i : Int) + 1) = ((i + 1 : Nat) : Int) := by rw [w64 (by omega)]; simp
    have hxl : x < 4611686018427387904 := by rw [hx]; exact Nat.lt_of_le_of_lt (Nat.div_le_self _ _) hn
    have e1 : bin .rem (.int .i64 (x : Int)) (.int .i64 256) = some (.int .i64 ((x % 256 : Nat) : Int)) := i_rem x 256 (by omega)
    have e2 : IntKind.u8.wrap ((x % 256 : Nat) : Int) = ((byteAt n0 i).toNat : Int) := by rw [wrap_u8', u8_mod, hx]; rfl
    have e3 : bin .quo (.int .i64 (x : Int)) (.int .i64 256) = some (.int .i64 ((x / 256 : Nat) : Int)) := by
      simp only [bin, binI, if_true]
      rw [if_neg (by omega)]
      have : Int.tdiv (x : Int) 256 = ((x / 256 : Nat) : Int) := (Int.ofNat_tdiv x 256).symm
      rw [this, w64 (by omega)]
    have hl8 : (lowN i n0).length < 1099511627776 := by rw [lowN_len]; omega
    apply Fin.ex3
    rw [run_loop]
    simp only [hlp, a0, a1, a6, a7, hlt, e1, e2, ↓sxp, sxq, ↓reduceIte, Nat.reduceBEq, Nat.reduceLT, evP, evX, evR, blkOf, evA, storeA, Nat.reduceEqDiff, resL, resV, oneOrTup, Int.reduceEq, Int.reduceLT, Int.reduceLE, Int.reduceNeg, Int.reduceAdd, Int.reduceSub, Int.reduceMul, Int.reduceToNat, Nat.reduceAdd, noUnk, AV.cells, reduceCtorEq, Nat.reduceLeDiff, Cells.get, Nat.reduceMul, ↓bnd_assoc]
    refine Fin.byte h (byteAt n0 i) hl8 fun v' H' h' => ?_
    rw [← lowN_succ] at h'
    simp only [a0, a7, e3, hwr, ↓sxp, sxq, ↓reduceIte, Nat.reduceBEq, Nat.reduceLT, evP, evX, evR, blkOf, evA, storeA, Nat.reduceEqDiff, resL, resV, oneOrTup, Int.reduceEq, Int.reduceLT, Int.reduceLE, Int.reduceNeg, Int.reduceAdd, Int.reduceSub, Int.reduceMul, Int.reduceToNat, Nat.reduceAdd, noUnk, AV.cells, reduceCtorEq, Nat.reduceLeDiff, Cells.get, Nat.reduceMul, ↓bnd_assoc]
    exact Fin.of3 (ih (i + 1) (x / 256) _ _ v' (by omega) (by rw [hx, Nat.div_div_eq_div_mul, Nat.pow_succ]) (by simp only [↓sxp, sxq, ↓reduceIte, Nat.reduceBEq, Nat.reduceLT, evP, evX, evR, blkOf, evA, storeA, Nat.reduceEqDiff, resL, resV, oneOrTup, Int.reduceEq, Int.reduceLT, Int.reduceLE, Int.reduceNeg, Int.reduceAdd, Int.reduceSub, Int.reduceMul, Int.reduceToNat, Nat.reduceAdd, noUnk, AV.cells, reduceCtorEq, Nat.reduceLeDiff, Cells.get, Nat.reduceMul, ↓bnd_assoc]) (by simp only [a1, ↓sxp, sxq, ↓reduceIte, Nat.reduceBEq, Nat.reduceLT, evP, evX, evR, blkOf, evA, storeA, Nat.reduceEqDiff, resL, resV, oneOrTup, Int.reduceEq, Int.reduceLT, Int.reduceLE, Int.reduceNeg, Int.reduceAdd, Int.reduceSub, Int.reduceMul, Int.reduceToNat, Nat.reduceAdd, noUnk, AV.cells, reduceCtorEq, Nat.reduceLeDiff, Cells.get, Nat.reduceMul, ↓bnd_assoc]) (by simp only [↓sxp, sxq, ↓reduceIte, Nat.reduceBEq, Nat.reduceLT, evP, evX, evR, blkOf, evA, storeA, Nat.reduceEqDiff, resL, resV, oneOrTup, Int.reduceEq, Int.reduceLT, Int.reduceLE, Int.reduceNeg, Int.reduceAdd, Int.reduceSub, Int.reduceMul, Int.reduceToNat, Nat.reduceAdd, noUnk, AV.cells, reduceCtorEq, Nat.reduceLeDiff, Cells.get, Nat.reduceMul, ↓bnd_assoc]) (by simp only [↓sxp, sxq, ↓reduceIte, Nat.reduceBEq, Nat.reduceLT, evP, evX, evR, blkOf, evA, storeA, Nat.reduceEqDiff, resL, resV, oneOrTup, Int.reduceEq, Int.reduceLT, Int.reduceLE, Int.reduceNeg, Int.reduceAdd, Int.reduceSub, Int.reduceMul, Int.reduceToNat, Nat.reduceAdd, noUnk, AV.cells, reduceCtorEq, Nat.reduceLeDiff, Cells.get, Nat.reduceMul, ↓bnd_assoc]) (.inl h')) fun lv A' H' q => q
theorem dtrn_loop {L : List UInt8} {R : HP} {b : AV} (hR : RdLike W L b R) (hl : L.length < 65536) {df : List Nat} : ∀ (m : Nat) (A : Tm) (H : Heap) (v : AV), m ≤ L.length → getX A 0 = b → getX A 3 = v → getX A 4 = .int .i64 ((m : Int) - 1) → XH H ((L.drop m).reverse) v (R :: Γ) →
    ∃ lv A' H', run W E (.loop lp37_0) ⟨A, df, none⟩ H = some (lv, ⟨A', df, none⟩, H') ∧ (lv = .exit 0 ∧ ∃ v', getX A' 3 = v' ∧ XH H' L.reverse v' (R :: Γ)) := by
  have hlp : ∀ f H, run W E lp37_0 f H = run W E lp37_0 f H := fun _ _ => rfl
  conv at hlp => enter [f, H, 2]; unfold lp37_0
  intro m
  induction m with
  | zero =>
    intro A H v hm a0 a3 a4 h
    have a4' : getX A 4 = .int .i64 (-1) := a4
    rw [run_loop]
    simp only [hlp, a4', ↓sxp, sxq, ↓reduceIte, Nat.reduceBEq, Nat.reduceLT, evP, evX, evR, blkOf, evA, storeA, Nat.reduceEqDiff, resL, resV, oneOrTup, Int.reduceEq, Int.reduceLT, Int.reduceLE, Int.reduceNeg, Int.reduceAdd, Int.reduceSub, Int.reduceMul, Int.reduceToNat, Nat.reduceAdd, noUnk, AV.cells, reduceCtorEq, Nat.reduceLeDiff, Cells.get, Nat.reduceMul, ↓bnd_assoc]
    exact ⟨_, _, _, rfl, rfl, v, by simp only [a3, ↓sxp, sxq, ↓reduceIte, Nat.reduceBEq, Nat.reduceLT, evP, evX, evR, blkOf, evA, storeA, Nat.reduceEqDiff, resL, resV, oneOrTup, Int.reduceEq, Int.reduceLT, Int.reduceLE, Int.reduceNeg, Int.reduceAdd, Int.reduceSub, Int.reduceMul, Int.reduceToNat, Nat.reduceAdd, noUnk, AV.cells, reduceCtorEq, Nat.reduceLeDiff, Cells.get, Nat.reduceMul, ↓bnd_assoc], by rw [List.drop_zero] at h; exact h⟩
  | succ m ih =>
    intro A H v hm a0 a3 a4 h
    have a4' : getX A 4 = .int .i64 (m : Int) := by rw [a4]; congr 1; omega
    have h0 : (0 : Int) ≤ (m : Int) := by omega
    have w1 : IntKind.i64.wrap ((m : Int) - 1) = (m : Int) - 1 := w64 (by omega)
    have hh : ∃ Δ, Holds H (R :: Δ) := by
      rcases h with h | ⟨j, q0, q1, h⟩
      · exact ⟨_, h.ord [1]⟩
      · exact ⟨_, h.ord [1]⟩
    obtain ⟨Δ, hh⟩ := hh
    obtain ⟨p, e1, e2⟩ := (hR hh).at (i := m) (by omega)
    have hb : (L.drop m).reverse = (L.drop (m + 1)).reverse ++ [L[m]] := by
      rw [List.drop_eq_getElem_cons (show m < L.length by omega), List.reverse_cons]
    have hl2 : ((L.drop (m + 1)).reverse).length < 1099511627776 := by rw [List.length_reverse, List.length_drop]; omega
    apply Fin.ex3
    rw [run_loop]
    simp only [hlp, a0, a3, a4', h0, e1, e2, ↓sxp, sxq, ↓reduceIte, Nat.reduceBEq, Nat.reduceLT, evP, evX, evR, blkOf, evA, storeA, Nat.reduceEqDiff, resL, resV, oneOrTup, Int.reduceEq, Int.reduceLT, Int.reduceLE, Int.reduceNeg, Int.reduceAdd, Int.reduceSub, Int.reduceMul, Int.reduceToNat, Nat.reduceAdd, noUnk, AV.cells, reduceCtorEq, Nat.reduceLeDiff, Cells.get, Nat.reduceMul, ↓bnd_assoc]
    refine Fin.byte h L[m] hl2 fun v' H' h' => ?_
    rw [← hb] at h'
    simp only [a4', w1, ↓sxp, sxq, ↓reduceIte, Nat.reduceBEq, Nat.reduceLT, evP, evX, evR, blkOf, evA, storeA, Nat.reduceEqDiff, resL, resV, oneOrTup, Int.reduceEq, Int.reduceLT, Int.reduceLE, Int.reduceNeg, Int.reduceAdd, Int.reduceSub, Int.reduceMul, Int.reduceToNat, Nat.reduceAdd, noUnk, AV.cells, reduceCtorEq, Nat.reduceLeDiff, Cells.get, Nat.reduceMul, ↓bnd_assoc]
    exact Fin.of3 (ih _ _ v' (by omega) (by simp only [a0, ↓sxp, sxq, ↓reduceIte, Nat.reduceBEq, Nat.reduceLT, evP, evX, evR, blkOf, evA, storeA, Nat.reduceEqDiff, resL, resV, oneOrTup, Int.reduceEq, Int.reduceLT, Int.reduceLE, Int.reduceNeg, Int.reduceAdd, Int.reduceSub, Int.reduceMul, Int.reduceToNat, Nat.reduceAdd, noUnk, AV.cells, reduceCtorEq, Nat.reduceLeDiff, Cells.get, Nat.reduceMul, ↓bnd_assoc]) (by simp only [↓sxp, sxq, ↓reduceIte, Nat.reduceBEq, Nat.reduceLT, evP, evX, evR, blkOf, evA, storeA, Nat.reduceEqDiff, resL, resV, oneOrTup, Int.reduceEq, Int.reduceLT, Int.reduceLE, Int.reduceNeg, Int.reduceAdd, Int.reduceSub, Int.reduceMul, Int.reduceToNat, Nat.reduceAdd, noUnk, AV.cells, reduceCtorEq, Nat.reduceLeDiff, Cells.get, Nat.reduceMul, ↓bnd_assoc]) (by simp only [↓sxp, sxq, ↓reduceIte, Nat.reduceBEq, Nat.reduceLT, evP, evX, evR, blkOf, evA, storeA, Nat.reduceEqDiff, resL, resV, oneOrTup, Int.reduceEq, Int.reduceLT, Int.reduceLE, Int.reduceNeg, Int.reduceAdd, Int.reduceSub, Int.reduceMul, Int.reduceToNat, Nat.reduceAdd, noUnk, AV.cells, reduceCtorEq, Nat.reduceLeDiff, Cells.get, Nat.reduceMul, ↓bnd_assoc]) (.inl h')) fun lv A' H' q => q
end
end Go.Proofs.YtjfnhdiimibmiaaDoor.Sx

/- Put, the document's; pads of keys. -/
namespace Go.Proofs.YtjfnhdiimibmiaaDoor.Sx
open HP
def padK (key : List UInt8) (b : UInt8) : List UInt8 := (key ++ List.replicate (128 - key.length) 0).map (· ^^^ b)
theorem padK_len (key : List UInt8) (b : UInt8) (h : key.length ≤ 128) : (padK key b).length = 128 := by
  unfold padK
  rw [List.length_map, List.length_append, List.length_replicate]; omega
section
variable {W : World} {E : Env} {H : Heap} {Γ : List HP}
theorem RdLike.exb (bs : List UInt8) (j n : Nat) (hn : bs.length = n) (t : TypeId) : RdLike W bs (.sl (some ⟨.own j, 0⟩) n (.exact n)) (blk j (cb bs) t) := fun {H Γ} h => by
  subst hn
  have := getN_all (cb bs)
  rw [cb_len] at this
  exact .ex bs _ 0 _ _ (by simp only [blkOf, h.get]) this (Nat.le_refl _)
theorem XH.out {bs : List UInt8} {v : AV} (h : XH H bs v Γ) : ∃ R, RdLike W bs v R ∧ Holds H (R :: Γ) := by
  rcases h with h | ⟨j, h0, e, h⟩
  · exact ⟨_, RdLike.row bs v, h⟩
  · subst e; exact ⟨_, RdLike.exb bs j _ rfl 5, h⟩
theorem c_dput (hE : EnvW E) {n sz : Nat} (h1 : 1 ≤ sz) (h8 : sz ≤ 8) (hn : n < 256 ^ sz) (hn2 : n < 4611686018427387904) (h : Holds H Γ) :
    ∃ v H', go W E 22 [.int .i64 (n : Int), .int .i64 (sz : Int)] H = some (.tup [v, .int .i64 0], H') ∧ ∃ R, RdLike W (bytesN sz n) v R ∧ Holds H' (R :: Γ) := by
  suffices hh : Fin (fun r : AV × Heap => ∃ v, r.1 = .tup [v, .int .i64 0] ∧ ∃ R, RdLike W (bytesN sz n) v R ∧ Holds r.2 (R :: Γ)) (go W E 22 [.int .i64 (n : Int), .int .i64 (sz : Int)] H) by
    obtain ⟨⟨r, H'⟩, e, v, hr, q⟩ := hh
    simp only at hr
    subst hr
    exact ⟨v, H', e, q⟩
  have low : ∃ v H', go W E 36 [.int .i64 (n : Int), .int .i64 (sz : Int)] H = some (.tup [v, .int .i64 0], H') ∧ XH H' (lowN sz n) v Γ := by
    suffices hh : Fin (fun r : AV × Heap => ∃ v, r.1 = .tup [v, .int .i64 0] ∧ XH r.2 (lowN sz n) v Γ) (go W E 36 [.int .i64 (n : Int), .int .i64 (sz : Int)] H) by
      obtain ⟨⟨r, H'⟩, e, v, hr, q⟩ := hh
      simp only at hr
      subst hr
      exact ⟨v, H', e, q⟩
    have b1 : ¬ (sz : Int) < 1 := by omega
    have b2 : ¬ (8 : Int) < sz := by omega
    have b3 : ¬ (n : Int) < 0 := by omega
    have b4 : ¬ (4611686018427387904 : Int) < n := by omega
    rw [go_code hE.f36 (by simp [sf36])]
    simp only [sf36, b1, b2, b3, b4, ↓sxp, sxq, ↓reduceIte, Nat.reduceBEq, Nat.reduceLT, evP, evX, evR, blkOf, evA, storeA, Nat.reduceEqDiff, resL, resV, oneOrTup, Int.reduceEq, Int.reduceLT, Int.reduceLE, Int.reduceNeg, Int.reduceAdd, Int.reduceSub, Int.reduceMul, Int.reduceToNat, Nat.reduceAdd, noUnk, AV.cells, reduceCtorEq, Nat.reduceLeDiff, Cells.get, Nat.reduceMul, ↓bnd_assoc]
    refine Fin.loop (dlow_loop (Γ := Γ) h8 hn2 sz 0 n _ _ (.sl none 0 (.exact 0)) (by omega) (by simp) (by simp only [↓sxp, sxq, ↓reduceIte, Nat.reduceBEq, Nat.reduceLT, evP, evX, evR, blkOf, evA, storeA, Nat.reduceEqDiff, resL, resV, oneOrTup, Int.reduceEq, Int.reduceLT, Int.reduceLE, Int.reduceNeg, Int.reduceAdd, Int.reduceSub, Int.reduceMul, Int.reduceToNat, Nat.reduceAdd, noUnk, AV.cells, reduceCtorEq, Nat.reduceLeDiff, Cells.get, Nat.reduceMul, ↓bnd_assoc]) (by simp only [↓sxp, sxq, ↓reduceIte, Nat.reduceBEq, Nat.reduceLT, evP, evX, evR, blkOf, evA, storeA, Nat.reduceEqDiff, resL, resV, oneOrTup, Int.reduceEq, Int.reduceLT, Int.reduceLE, Int.reduceNeg, Int.reduceAdd, Int.reduceSub, Int.reduceMul, Int.reduceToNat, Nat.reduceAdd, noUnk, AV.cells, reduceCtorEq, Nat.reduceLeDiff, Cells.get, Nat.reduceMul, ↓bnd_assoc]) (by simp only [↓sxp, sxq, ↓reduceIte, Nat.reduceBEq, Nat.reduceLT, evP, evX, evR, blkOf, evA, storeA, Nat.reduceEqDiff, resL, resV, oneOrTup, Int.reduceEq, Int.reduceLT, Int.reduceLE, Int.reduceNeg, Int.reduceAdd, Int.reduceSub, Int.reduceMul, Int.reduceToNat, Nat.reduceAdd, noUnk, AV.cells, reduceCtorEq, Nat.reduceLeDiff, Cells.get, Nat.reduceMul, ↓bnd_assoc]) (by simp only [↓sxp, sxq, ↓reduceIte, Nat.reduceBEq, Nat.reduceLT, evP, evX, evR, blkOf, evA, storeA, Nat.reduceEqDiff, resL, resV, oneOrTup, Int.reduceEq, Int.reduceLT, Int.reduceLE, Int.reduceNeg, Int.reduceAdd, Int.reduceSub, Int.reduceMul, Int.reduceToNat, Nat.reduceAdd, noUnk, AV.cells, reduceCtorEq, Nat.reduceLeDiff, Cells.get, Nat.reduceMul, ↓bnd_assoc]; rfl) (.inl h.row_nil)) fun lv A H1 ⟨e1, a0, v, a6, h2⟩ => ?_
    subst e1
    rw [Nat.div_eq_of_lt hn] at a0
    have a0' : getX A 0 = .int .i64 0 := a0
    simp only [a0', a6, ↓sxp, sxq, ↓reduceIte, Nat.reduceBEq, Nat.reduceLT, evP, evX, evR, blkOf, evA, storeA, Nat.reduceEqDiff, resL, resV, oneOrTup, Int.reduceEq, Int.reduceLT, Int.reduceLE, Int.reduceNeg, Int.reduceAdd, Int.reduceSub, Int.reduceMul, Int.reduceToNat, Nat.reduceAdd, noUnk, AV.cells, reduceCtorEq, Nat.reduceLeDiff, Cells.get, Nat.reduceMul, ↓bnd_assoc]
    exact Fin.ret ⟨v, rfl, h2⟩
  have trn : ∀ {L : List UInt8} {R : HP} {b : AV} {H : Heap}, L.length < 65536 → RdLike W L b R → Holds H (R :: Γ) → ∃ v H', go W E 37 [b] H = some (v, H') ∧ XH H' L.reverse v (R :: Γ) := fun {L R b H} hl hR h => by
    suffices hh : Fin (fun r : AV × Heap => XH r.2 L.reverse r.1 (R :: Γ)) (go W E 37 [b] H) by
      obtain ⟨⟨r, H'⟩, e, q⟩ := hh
      exact ⟨r, H', e, q⟩
    have hlen := (hR h).len
    have w1 : IntKind.i64.wrap ((L.length : Int) - 1) = (L.length : Int) - 1 := w64 (by omega)
    rw [go_code hE.f37 (by simp [sf37])]
    simp only [sf37, hlen, w1, ↓sxp, sxq, ↓reduceIte, Nat.reduceBEq, Nat.reduceLT, evP, evX, evR, blkOf, evA, storeA, Nat.reduceEqDiff, resL, resV, oneOrTup, Int.reduceEq, Int.reduceLT, Int.reduceLE, Int.reduceNeg, Int.reduceAdd, Int.reduceSub, Int.reduceMul, Int.reduceToNat, Nat.reduceAdd, noUnk, AV.cells, reduceCtorEq, Nat.reduceLeDiff, Cells.get, Nat.reduceMul, ↓bnd_assoc]
    refine Fin.loop (dtrn_loop (Γ := Γ) hR hl L.length _ _ (.sl none 0 (.exact 0)) (Nat.le_refl _) (by simp only [↓sxp, sxq, ↓reduceIte, Nat.reduceBEq, Nat.reduceLT, evP, evX, evR, blkOf, evA, storeA, Nat.reduceEqDiff, resL, resV, oneOrTup, Int.reduceEq, Int.reduceLT, Int.reduceLE, Int.reduceNeg, Int.reduceAdd, Int.reduceSub, Int.reduceMul, Int.reduceToNat, Nat.reduceAdd, noUnk, AV.cells, reduceCtorEq, Nat.reduceLeDiff, Cells.get, Nat.reduceMul, ↓bnd_assoc]) (by simp only [↓sxp, sxq, ↓reduceIte, Nat.reduceBEq, Nat.reduceLT, evP, evX, evR, blkOf, evA, storeA, Nat.reduceEqDiff, resL, resV, oneOrTup, Int.reduceEq, Int.reduceLT, Int.reduceLE, Int.reduceNeg, Int.reduceAdd, Int.reduceSub, Int.reduceMul, Int.reduceToNat, Nat.reduceAdd, noUnk, AV.cells, reduceCtorEq, Nat.reduceLeDiff, Cells.get, Nat.reduceMul, ↓bnd_assoc]) (by simp only [↓sxp, sxq, ↓reduceIte, Nat.reduceBEq, Nat.reduceLT, evP, evX, evR, blkOf, evA, storeA, Nat.reduceEqDiff, resL, resV, oneOrTup, Int.reduceEq, Int.reduceLT, Int.reduceLE, Int.reduceNeg, Int.reduceAdd, Int.reduceSub, Int.reduceMul, Int.reduceToNat, Nat.reduceAdd, noUnk, AV.cells, reduceCtorEq, Nat.reduceLeDiff, Cells.get, Nat.reduceMul, ↓bnd_assoc]) (by rw [List.drop_length]; exact .inl h.row_nil)) fun lv A H1 ⟨e1, v, a3, h2⟩ => ?_
    subst e1
    simp only [a3, ↓sxp, sxq, ↓reduceIte, Nat.reduceBEq, Nat.reduceLT, evP, evX, evR, blkOf, evA, storeA, Nat.reduceEqDiff, resL, resV, oneOrTup, Int.reduceEq, Int.reduceLT, Int.reduceLE, Int.reduceNeg, Int.reduceAdd, Int.reduceSub, Int.reduceMul, Int.reduceToNat, Nat.reduceAdd, noUnk, AV.cells, reduceCtorEq, Nat.reduceLeDiff, Cells.get, Nat.reduceMul, ↓bnd_assoc]
    exact Fin.ret h2
  rw [go_code hE.f22 (by simp [sf22])]
  simp only [sf22, ↓sxp, sxq, ↓reduceIte, Nat.reduceBEq, Nat.reduceLT, evP, evX, evR, blkOf, evA, storeA, Nat.reduceEqDiff, resL, resV, oneOrTup, Int.reduceEq, Int.reduceLT, Int.reduceLE, Int.reduceNeg, Int.reduceAdd, Int.reduceSub, Int.reduceMul, Int.reduceToNat, Nat.reduceAdd, noUnk, AV.cells, reduceCtorEq, Nat.reduceLeDiff, Cells.get, Nat.reduceMul, ↓bnd_assoc]
  refine Fin.callX (fun r H' => ∃ v, r = .tup [v, .int .i64 0] ∧ XH H' (lowN sz n) v Γ) (by obtain ⟨v, H', e, q⟩ := low; exact ⟨_, H', e, v, rfl, q⟩) fun r H1 ⟨v, hr, h1⟩ => ?_
  subst hr
  obtain ⟨R, hR, h2⟩ := h1.out (W := W)
  simp only [↓sxp, sxq, ↓reduceIte, Nat.reduceBEq, Nat.reduceLT, evP, evX, evR, blkOf, evA, storeA, Nat.reduceEqDiff, resL, resV, oneOrTup, Int.reduceEq, Int.reduceLT, Int.reduceLE, Int.reduceNeg, Int.reduceAdd, Int.reduceSub, Int.reduceMul, Int.reduceToNat, Nat.reduceAdd, noUnk, AV.cells, reduceCtorEq, Nat.reduceLeDiff, Cells.get, Nat.reduceMul, ↓bnd_assoc]
  refine Fin.callX (fun o H' => XH H' (lowN sz n).reverse o (R :: Γ)) (trn (by rw [lowN_len]; omega) hR h2) fun o H3 h3 => ?_
  rw [lowN_rev] at h3
  obtain ⟨R2, hR2, h4⟩ := h3.out (W := W)
  simp only [↓sxp, sxq, ↓reduceIte, Nat.reduceBEq, Nat.reduceLT, evP, evX, evR, blkOf, evA, storeA, Nat.reduceEqDiff, resL, resV, oneOrTup, Int.reduceEq, Int.reduceLT, Int.reduceLE, Int.reduceNeg, Int.reduceAdd, Int.reduceSub, Int.reduceMul, Int.reduceToNat, Nat.reduceAdd, noUnk, AV.cells, reduceCtorEq, Nat.reduceLeDiff, Cells.get, Nat.reduceMul, ↓bnd_assoc]
  exact Fin.ret ⟨o, rfl, R2, hR2, h4.rm 1⟩
theorem b8_xor (x y : UInt8) : bin .xor (.int .u8 (x.toNat : Int)) (.int .u8 (y.toNat : Int)) = some (.int .u8 ((x ^^^ y).toNat : Int)) := by
  have e : ∀ z : UInt8, BitVec.ofInt IntKind.u8.bits (z.toNat : Int) = z.toBitVec := fun z => by
    show BitVec.ofInt 8 (z.toNat : Int) = z.toBitVec
    simp
  simp only [bin, binI, if_true, bits, e, Option.map_some]
  show some (AV.int .u8 (IntKind.u8.wrap ((x.toBitVec ^^^ y.toBitVec : BitVec 8).toNat : Int))) = _
  rw [wrap_u8']
  congr 2
  rw [UInt8.toNat_ofNat', UInt8.toNat_xor]
  have : (x.toBitVec ^^^ y.toBitVec).toNat = x.toNat ^^^ y.toNat := BitVec.toNat_xor _ _
  rw [this]
  have hlt : x.toNat ^^^ y.toNat < 2 ^ 8 := Nat.xor_lt_two_pow x.toNat_lt y.toNat_lt
  rw [Nat.mod_eq_of_lt hlt]
theorem xpad_loop {L : List UInt8} {jb : Nat} {b : UInt8} (hL : L.length = 128) {df : List Nat} : ∀ (m i : Nat) (A : Tm) (H : Heap), i + m = 128 → getX A 1 = .int .u8 b.toNat → getX A 6 = .sl (some ⟨.own jb, 0⟩) 128 (.exact 128) → getX A 20 = .int .i64 128 → getX A 21 = .int .i64 i → Holds H (blk jb (cb ((L.take i).map (· ^^^ b) ++ L.drop i)) 5 :: Γ) →
    ∃ lv A' H', run W E (.loop lp50_0) ⟨A, df, none⟩ H = some (lv, ⟨A', df, none⟩, H') ∧ (lv = .exit 0 ∧ getX A' 6 = .sl (some ⟨.own jb, 0⟩) 128 (.exact 128) ∧ Holds H' (blk jb (cb (L.map (· ^^^ b))) 5 :: Γ)) := by
  have hlp : ∀ f H, run W E lp50_0 f H = run W E lp50_0 f H := fun _ _ => rfl
  conv at hlp => enter [f, H, 2]; unfold lp50_0
  intro m
  induction m with
  | zero =>
    intro i A H him a1 a6 a20 a21 h
    have : i = 128 := by omega
    subst this
    have a21' : getX A 21 = .int .i64 128 := a21
    rw [run_loop]
    simp only [hlp, a20, a21', ↓sxp, sxq, ↓reduceIte, Nat.reduceBEq, Nat.reduceLT, evP, evX, evR, blkOf, evA, storeA, Nat.reduceEqDiff, resL, resV, oneOrTup, Int.reduceEq, Int.reduceLT, Int.reduceLE, Int.reduceNeg, Int.reduceAdd, Int.reduceSub, Int.reduceMul, Int.reduceToNat, Nat.reduceAdd, noUnk, AV.cells, reduceCtorEq, Nat.reduceLeDiff, Cells.get, Nat.reduceMul, ↓bnd_assoc]
    rw [List.take_of_length_le (by omega), List.drop_of_length_le (by omega), List.append_nil] at h
    exact ⟨_, _, _, rfl, rfl, by simp only [a6, ↓sxp, sxq, ↓reduceIte, Nat.reduceBEq, Nat.reduceLT, evP, evX, evR, blkOf, evA, storeA, Nat.reduceEqDiff, resL, resV, oneOrTup, Int.reduceEq, Int.reduceLT, Int.reduceLE, Int.reduceNeg, Int.reduceAdd, Int.reduceSub, Int.reduceMul, Int.reduceToNat, Nat.reduceAdd, noUnk, AV.cells, reduceCtorEq, Nat.reduceLeDiff, Cells.get, Nat.reduceMul, ↓bnd_assoc], h⟩
  | succ m ih =>
    intro i A H him a1 a6 a20 a21 h
    have hlt : (i : Int) < 128 := by omega
    have hwr : IntKind.i64.wrap ((i : Int) + 1) = ((i + 1 : Nat) : Int) := by rw [w64 (by omega)]; simp
    have nc128 : ((128 : Nat) : Int) = 128 := rfl
    have hta : ((L.take i).map (· ^^^ b)).length = i := by rw [List.length_map, List.length_take]; omega
    have hget : (cb ((L.take i).map (· ^^^ b) ++ L.drop i))[i]? = some (.int .u8 (L.getD i 0).toNat) := by
      rw [cb_get (by rw [List.length_append, hta, List.length_drop]; omega)]
      congr 3
      simp only [List.getD_eq_getElem?_getD]
      rw [List.getElem?_append_right (by omega), hta, Nat.sub_self, List.getElem?_drop, Nat.add_zero]
    have hset : (cb ((L.take i).map (· ^^^ b) ++ L.drop i)).set i (.int .u8 ((L.getD i 0) ^^^ b).toNat) = cb ((L.take (i + 1)).map (· ^^^ b) ++ L.drop (i + 1)) := by
      rw [cb_set]
      congr 1
      rw [List.drop_eq_getElem_cons (show i < L.length by omega)]
      have := set_mid ((L.take i).map (· ^^^ b)) L[i] ((L.getD i 0) ^^^ b) (L.drop (i + 1))
      rw [hta] at this
      rw [this, List.take_succ_eq_append_getElem (by omega), List.map_append, List.append_assoc, List.getD_eq_getElem?_getD, List.getElem?_eq_getElem (show i < L.length by omega)]
      rfl
    have hx := b8_xor (L.getD i 0) b
    have g := h.get
    apply Fin.ex3
    rw [run_loop]
    simp only [hlp, a1, a6, a20, a21, hlt, nc128, Int.natCast_nonneg, and_self, ↓g, hget, hx, Int.toNat_natCast, ↓sxp, sxq, ↓reduceIte, Nat.reduceBEq, Nat.reduceLT, evP, evX, evR, blkOf, evA, storeA, Nat.reduceEqDiff, resL, resV, oneOrTup, Int.reduceEq, Int.reduceLT, Int.reduceLE, Int.reduceNeg, Int.reduceAdd, Int.reduceSub, Int.reduceMul, Int.reduceToNat, Nat.reduceAdd, noUnk, AV.cells, reduceCtorEq, Nat.reduceLeDiff, Cells.get, Nat.reduceMul, ↓bnd_assoc]
    refine Fin.write (cb ((L.take (i + 1)).map (· ^^^ b) ++ L.drop (i + 1))) h (by simp only [Cells.setN, Cells.set, hset]) (by rw [cb_len, List.length_append, hta, List.length_drop]; simp; omega) rfl fun H4 h4 => ?_
    simp only [a21, hwr, ↓sxp, sxq, ↓reduceIte, Nat.reduceBEq, Nat.reduceLT, evP, evX, evR, blkOf, evA, storeA, Nat.reduceEqDiff, resL, resV, oneOrTup, Int.reduceEq, Int.reduceLT, Int.reduceLE, Int.reduceNeg, Int.reduceAdd, Int.reduceSub, Int.reduceMul, Int.reduceToNat, Nat.reduceAdd, noUnk, AV.cells, reduceCtorEq, Nat.reduceLeDiff, Cells.get, Nat.reduceMul, ↓bnd_assoc]
    exact Fin.of3 (ih (i + 1) _ _ (by omega) (by simp only [a1, ↓sxp, sxq, ↓reduceIte, Nat.reduceBEq, Nat.reduceLT, evP, evX, evR, blkOf, evA, storeA, Nat.reduceEqDiff, resL, resV, oneOrTup, Int.reduceEq, Int.reduceLT, Int.reduceLE, Int.reduceNeg, Int.reduceAdd, Int.reduceSub, Int.reduceMul, Int.reduceToNat, Nat.reduceAdd, noUnk, AV.cells, reduceCtorEq, Nat.reduceLeDiff, Cells.get, Nat.reduceMul, ↓bnd_assoc]) (by simp only [a6, ↓sxp, sxq, ↓reduceIte, Nat.reduceBEq, Nat.reduceLT, evP, evX, evR, blkOf, evA, storeA, Nat.reduceEqDiff, resL, resV, oneOrTup, Int.reduceEq, Int.reduceLT, Int.reduceLE, Int.reduceNeg, Int.reduceAdd, Int.reduceSub, Int.reduceMul, Int.reduceToNat, Nat.reduceAdd, noUnk, AV.cells, reduceCtorEq, Nat.reduceLeDiff, Cells.get, Nat.reduceMul, ↓bnd_assoc]) (by simp only [a20, ↓sxp, sxq, ↓reduceIte, Nat.reduceBEq, Nat.reduceLT, evP, evX, evR, blkOf, evA, storeA, Nat.reduceEqDiff, resL, resV, oneOrTup, Int.reduceEq, Int.reduceLT, Int.reduceLE, Int.reduceNeg, Int.reduceAdd, Int.reduceSub, Int.reduceMul, Int.reduceToNat, Nat.reduceAdd, noUnk, AV.cells, reduceCtorEq, Nat.reduceLeDiff, Cells.get, Nat.reduceMul, ↓bnd_assoc]) (by simp only [↓sxp, sxq, ↓reduceIte, Nat.reduceBEq, Nat.reduceLT, evP, evX, evR, blkOf, evA, storeA, Nat.reduceEqDiff, resL, resV, oneOrTup, Int.reduceEq, Int.reduceLT, Int.reduceLE, Int.reduceNeg, Int.reduceAdd, Int.reduceSub, Int.reduceMul, Int.reduceToNat, Nat.reduceAdd, noUnk, AV.cells, reduceCtorEq, Nat.reduceLeDiff, Cells.get, Nat.reduceMul, ↓bnd_assoc]) h4) fun lv A' H' q => q
theorem c_xpad (hE : EnvW E) {key : List UInt8} {kv : AV} {R : HP} {b : UInt8} (hR : RdLike W key kv R) (h0 : 0 < key.length) (h1 : key.length ≤ 128) (h : Holds H (R :: Γ)) :
    ∃ j H', go W E 50 [kv, .int .u8 b.toNat] H = some (.sl (some ⟨.own j, 0⟩) 128 (.exact 128), H') ∧ Holds H' (blk j (cb (padK key b)) 5 :: R :: Γ) := by
  suffices hh : Fin (fun r : AV × Heap => r.1 = .sl (some ⟨.own H.next, 0⟩) 128 (.exact 128) ∧ Holds r.2 (blk H.next (cb (padK key b)) 5 :: R :: Γ)) (go W E 50 [kv, .int .u8 b.toNat] H) by
    obtain ⟨⟨r, H'⟩, e, hr, q⟩ := hh
    simp only at hr
    subst hr
    exact ⟨_, H', e, q⟩
  have hlen := (hR h).len
  have b1 : ¬ (128 : Int) < key.length := by omega
  have h2 := h.push (c := cb (List.replicate 128 0)) (t := 5)
  have mk : ∀ A id, evA A id (.mksl 5 1 1 [.int .u8 0] (.c (.int .i64 128)) (.c (.int .i64 128))) = some (.cells (.lst (cb (List.replicate 128 0))) 5 none, .sl (some ⟨.own id, 0⟩) 128 (.exact 128)) := fun A id => mksl_bytes (n := 128) rfl rfl (by omega)
  generalize hz : cb (List.replicate 128 0) = z at *
  have hzl : z.length = 128 := by rw [← hz, cb_len, List.length_replicate]
  rw [go_code hE.f50 (by simp [sf50])]
  simp only [sf50, hlen, b1, ↓mk, ↓stepK_copy, ↓sxp, sxq, ↓reduceIte, Nat.reduceBEq, Nat.reduceLT, evP, evX, evR, blkOf, evA, storeA, Nat.reduceEqDiff, resL, resV, oneOrTup, Int.reduceEq, Int.reduceLT, Int.reduceLE, Int.reduceNeg, Int.reduceAdd, Int.reduceSub, Int.reduceMul, Int.reduceToNat, Nat.reduceAdd, noUnk, AV.cells, reduceCtorEq, Nat.reduceLeDiff, Cells.get, Nat.reduceMul, ↓bnd_assoc]
  generalize H.next = jb at *
  refine Fin.copy h2 (hR (h2.ord [1])) hzl h0 h1 fun r H3 h3 => ?_
  have he : cb key ++ z.drop key.length = cb (key ++ List.replicate (128 - key.length) 0) := by
    rw [← hz, cb_app, cb, cb, ← List.map_drop, List.drop_replicate]
  rw [he] at h3
  have hkl : (key ++ List.replicate (128 - key.length) 0).length = 128 := by rw [List.length_append, List.length_replicate]; omega
  have hpk : padK key b = (key ++ List.replicate (128 - key.length) 0).map (· ^^^ b) := rfl
  rw [hpk]
  generalize key ++ List.replicate (128 - key.length) 0 = L at *
  simp only [↓sxp, sxq, ↓reduceIte, Nat.reduceBEq, Nat.reduceLT, evP, evX, evR, blkOf, evA, storeA, Nat.reduceEqDiff, resL, resV, oneOrTup, Int.reduceEq, Int.reduceLT, Int.reduceLE, Int.reduceNeg, Int.reduceAdd, Int.reduceSub, Int.reduceMul, Int.reduceToNat, Nat.reduceAdd, noUnk, AV.cells, reduceCtorEq, Nat.reduceLeDiff, Cells.get, Nat.reduceMul, ↓bnd_assoc]
  refine Fin.loop (xpad_loop (jb := jb) (b := b) hkl 128 0 _ _ (by omega) (by simp only [↓sxp, sxq, ↓reduceIte, Nat.reduceBEq, Nat.reduceLT, evP, evX, evR, blkOf, evA, storeA, Nat.reduceEqDiff, resL, resV, oneOrTup, Int.reduceEq, Int.reduceLT, Int.reduceLE, Int.reduceNeg, Int.reduceAdd, Int.reduceSub, Int.reduceMul, Int.reduceToNat, Nat.reduceAdd, noUnk, AV.cells, reduceCtorEq, Nat.reduceLeDiff, Cells.get, Nat.reduceMul, ↓bnd_assoc]) (by simp only [↓sxp, sxq, ↓reduceIte, Nat.reduceBEq, Nat.reduceLT, evP, evX, evR, blkOf, evA, storeA, Nat.reduceEqDiff, resL, resV, oneOrTup, Int.reduceEq, Int.reduceLT, Int.reduceLE, Int.reduceNeg, Int.reduceAdd, Int.reduceSub, Int.reduceMul, Int.reduceToNat, Nat.reduceAdd, noUnk, AV.cells, reduceCtorEq, Nat.reduceLeDiff, Cells.get, Nat.reduceMul, ↓bnd_assoc]) (by simp only [↓sxp, sxq, ↓reduceIte, Nat.reduceBEq, Nat.reduceLT, evP, evX, evR, blkOf, evA, storeA, Nat.reduceEqDiff, resL, resV, oneOrTup, Int.reduceEq, Int.reduceLT, Int.reduceLE, Int.reduceNeg, Int.reduceAdd, Int.reduceSub, Int.reduceMul, Int.reduceToNat, Nat.reduceAdd, noUnk, AV.cells, reduceCtorEq, Nat.reduceLeDiff, Cells.get, Nat.reduceMul, ↓bnd_assoc]; rfl) (by simp only [↓sxp, sxq, ↓reduceIte, Nat.reduceBEq, Nat.reduceLT, evP, evX, evR, blkOf, evA, storeA, Nat.reduceEqDiff, resL, resV, oneOrTup, Int.reduceEq, Int.reduceLT, Int.reduceLE, Int.reduceNeg, Int.reduceAdd, Int.reduceSub, Int.reduceMul, Int.reduceToNat, Nat.reduceAdd, noUnk, AV.cells, reduceCtorEq, Nat.reduceLeDiff, Cells.get, Nat.reduceMul, ↓bnd_assoc]; rfl) h3) fun lv A H4 ⟨e1, a6, h4⟩ => ?_
  subst e1
  simp only [a6, ↓sxp, sxq, ↓reduceIte, Nat.reduceBEq, Nat.reduceLT, evP, evX, evR, blkOf, evA, storeA, Nat.reduceEqDiff, resL, resV, oneOrTup, Int.reduceEq, Int.reduceLT, Int.reduceLE, Int.reduceNeg, Int.reduceAdd, Int.reduceSub, Int.reduceMul, Int.reduceToNat, Nat.reduceAdd, noUnk, AV.cells, reduceCtorEq, Nat.reduceLeDiff, Cells.get, Nat.reduceMul, ↓bnd_assoc]
  exact Fin.ret ⟨rfl, h4⟩
end
end Go.Proofs.YtjfnhdiimibmiaaDoor.Sx

/- Tags, the document's. -/
namespace Go.Proofs.YtjfnhdiimibmiaaDoor.Sx
open HP
def HP.or (A B : HP) : HP := ⟨fun H fp => A.P H fp ∨ B.P H fp, fun hw h => h.elim (A.lt hw) (B.lt hw), fun hw h k hd => h.imp (fun h => A.keep hw h k hd) (fun h => B.keep hw h k hd)⟩
/-- Bytes that can be appended to, as a piece. -/
def HP.xh (bs : List UInt8) (v : AV) : HP := HP.or (row 5 1 (cb bs) v) (HP.ex fun j => HP.sep (HP.pure (0 < bs.length ∧ v = .sl (some ⟨.own j, 0⟩) bs.length (.exact bs.length))) (blk j (cb bs) 5))
theorem XH.toH {H : Heap} {bs : List UInt8} {v : AV} {Γ : List HP} (h : XH H bs v Γ) : Holds H (HP.xh bs v :: Γ) := by
  rcases h with h | ⟨j, h0, e, h⟩
  · exact h.imp fun fp hp => .inl hp
  · have h2 : Holds H (HP.ex (fun j => HP.sep (HP.pure (0 < bs.length ∧ v = .sl (some ⟨.own j, 0⟩) bs.length (.exact bs.length))) (blk j (cb bs) 5)) :: Γ) := (h.pure' ⟨h0, e⟩).sep'.ex' j
    exact h2.imp fun fp hp => .inr hp
theorem XH.ofH {H : Heap} {bs : List UInt8} {v : AV} {Γ : List HP} (h : Holds H (HP.xh bs v :: Γ)) : XH H bs v Γ := by
  obtain ⟨fp, f, g, a, b, e, d⟩ := h.a
  rcases a with a | a
  · exact .inl ⟨h.wf, fp, f, g, a, b, e, d⟩
  · have h2 : Holds H (HP.ex (fun j => HP.sep (HP.pure (0 < bs.length ∧ v = .sl (some ⟨.own j, 0⟩) bs.length (.exact bs.length))) (blk j (cb bs) 5)) :: Γ) := ⟨h.wf, fp, f, g, a, b, e, d⟩
    obtain ⟨j, h3⟩ := h2.ex
    obtain ⟨⟨h0, e⟩, h4⟩ := h3.sep.pure
    exact .inr ⟨j, h0, e, h4⟩
def tagF (key m : List UInt8) : List UInt8 := sumF (padK key 92 ++ sumF (padK key 54 ++ m))
theorem sumF_len (M : List UInt8) : (sumF M).length = 64 := by
  unfold sumF
  rw [bytesL_len]; rfl
section
variable {W : World} {E : Env} {H : Heap} {Γ : List HP}
theorem Fin.xapp {α : Type} {P : α → Prop} {k : AV × Heap → Option α} {bs ps : List UInt8} {v x : AV} (h : XH H bs v Γ) (hx : srcA W H 1 false x = some (ps.length, cb ps)) (h0 : 0 < ps.length) (hb : bs.length + ps.length ≤ 140737488355328)
    (hk : ∀ v' H', Holds H' (row 5 1 (cb (bs ++ ps)) v' :: Γ) → Fin P (k (v', H'))) : Fin P (bnd (appA W H 5 1 1 false v x) k) := by
  obtain ⟨v', H', e, h'⟩ := h.app hx h0 hb
  rw [e, bnd_some]
  exact hk _ _ h'
theorem padK_get (key : List UInt8) (b : UInt8) (i : Nat) (h1 : key.length ≤ 128) (hi : i < 128) : (padK key b).getD i 0 = if i < key.length then key.getD i 0 ^^^ b else b := by
  unfold padK
  have hl : i < (key ++ List.replicate (128 - key.length) (0 : UInt8)).length := by rw [List.length_append, List.length_replicate]; omega
  simp only [List.getD_eq_getElem?_getD, List.getElem?_map, List.getElem?_append]
  by_cases h : i < key.length
  · rw [if_pos h, if_pos h, List.getElem?_eq_getElem h]; rfl
  · rw [if_neg h, if_neg h, List.getElem?_replicate, if_pos (by omega)]
    simp
theorem take_succ_b (l : List UInt8) (t : Nat) (h : t < l.length) : l.take (t + 1) = l.take t ++ [l.getD t 0] := by
  rw [List.take_succ_eq_append_getElem h, List.getD_eq_getElem?_getD, List.getElem?_eq_getElem h]; rfl
theorem XH.fr {bs : List UInt8} {v : AV} {R : HP} (h : XH H bs v (R :: Γ)) : ∃ Δ, Holds H (R :: Δ) := by
  rcases h with h | ⟨j, _, _, h⟩
  · exact ⟨_, h.ord [1]⟩
  · exact ⟨_, h.ord [1]⟩
theorem dpad_loop {key : List UInt8} {kv : AV} {R : HP} {b : UInt8} (hR : RdLike W key kv R) (h1 : key.length ≤ 128) {df : List Nat} : ∀ (m i : Nat) (A : Tm) (H : Heap) (v : AV), i + m = 128 → getX A 1 = .int .u8 b.toNat → getX A 5 = kv → getX A 6 = v → getX A 7 = .int .i64 i → XH H ((padK key b).take i) v (R :: Γ) →
    ∃ lv A' H', run W E (.loop lp51_0) ⟨A, df, none⟩ H = some (lv, ⟨A', df, none⟩, H') ∧ (lv = .exit 0 ∧ ∃ v', getX A' 6 = v' ∧ XH H' (padK key b) v' (R :: Γ)) := by
  have hlp : ∀ f H, run W E lp51_0 f H = run W E lp51_0 f H := fun _ _ => rfl
  conv at hlp => enter [f, H, 2]; unfold lp51_0
  have hpl := padK_len key b h1
  intro m
  induction m with
  | zero =>
    intro i A H v him a1 a5 a6 a7 h
    have : i = 128 := by omega
    subst this
    have a7' : getX A 7 = .int .i64 128 := a7
    rw [run_loop]
    simp only [hlp, a7', ↓sxp, sxq, ↓reduceIte, Nat.reduceBEq, Nat.reduceLT, evP, evX, evR, blkOf, evA, storeA, Nat.reduceEqDiff, resL, resV, oneOrTup, Int.reduceEq, Int.reduceLT, Int.reduceLE, Int.reduceNeg, Int.reduceAdd, Int.reduceSub, Int.reduceMul, Int.reduceToNat, Nat.reduceAdd, noUnk, AV.cells, reduceCtorEq, Nat.reduceLeDiff, Cells.get, Nat.reduceMul, ↓bnd_assoc]
    rw [List.take_of_length_le (by omega)] at h
    exact ⟨_, _, _, rfl, rfl, v, by simp only [a6, ↓sxp, sxq, ↓reduceIte, Nat.reduceBEq, Nat.reduceLT, evP, evX, evR, blkOf, evA, storeA, Nat.reduceEqDiff, resL, resV, oneOrTup, Int.reduceEq, Int.reduceLT, Int.reduceLE, Int.reduceNeg, Int.reduceAdd, Int.reduceSub, Int.reduceMul, Int.reduceToNat, Nat.reduceAdd, noUnk, AV.cells, reduceCtorEq, Nat.reduceLeDiff, Cells.get, Nat.reduceMul, ↓bnd_assoc], h⟩
  | succ m ih =>
    intro i A H v him a1 a5 a6 a7 h
    have hlt : (i : Int) < 128 := by omega
    have hwr : IntKind.i64.wrap ((i : Int) + 1) = ((i + 1 : Nat) : Int) := by rw [w64 (by omega)]; simp
    obtain ⟨Δ, hh⟩ := h.fr
    have hlen := (hR hh).len
    have htl : ((padK key b).take i).length < 1099511627776 := by rw [List.length_take]; omega
    have hg := padK_get key b i h1 (by omega)
    have hts := take_succ_b (padK key b) i (by omega)
    apply Fin.ex3
    rw [run_loop]
    by_cases hk : i < key.length
    · have hk' : (i : Int) < key.length := by omega
      obtain ⟨p, e1, e2⟩ := (hR hh).at (i := i) hk
      have hkd : key.getD i 0 = key[i] := by rw [List.getD_eq_getElem?_getD, List.getElem?_eq_getElem hk]; rfl
      rw [if_pos hk, hkd] at hg
      have hx := b8_xor key[i] b
      rw [hg] at hts
      simp only [hlp, a1, a5, a6, a7, hlt, hlen, hk', e1, e2, hx, ↓sxp, sxq, ↓reduceIte, Nat.reduceBEq, Nat.reduceLT, evP, evX, evR, blkOf, evA, storeA, Nat.reduceEqDiff, resL, resV, oneOrTup, Int.reduceEq, Int.reduceLT, Int.reduceLE, Int.reduceNeg, Int.reduceAdd, Int.reduceSub, Int.reduceMul, Int.reduceToNat, Nat.reduceAdd, noUnk, AV.cells, reduceCtorEq, Nat.reduceLeDiff, Cells.get, Nat.reduceMul, ↓bnd_assoc]
      refine Fin.byte h (key[i] ^^^ b) htl fun v' H' h' => ?_
      rw [← hts] at h'
      simp only [a7, hwr, ↓sxp, sxq, ↓reduceIte, Nat.reduceBEq, Nat.reduceLT, evP, evX, evR, blkOf, evA, storeA, Nat.reduceEqDiff, resL, resV, oneOrTup, Int.reduceEq, Int.reduceLT, Int.reduceLE, Int.reduceNeg, Int.reduceAdd, Int.reduceSub, Int.reduceMul, Int.reduceToNat, Nat.reduceAdd, noUnk, AV.cells, reduceCtorEq, Nat.reduceLeDiff, Cells.get, Nat.reduceMul, ↓bnd_assoc]
      exact Fin.of3 (ih (i + 1) _ _ v' (by omega) (by simp only [a1, ↓sxp, sxq, ↓reduceIte, Nat.reduceBEq, Nat.reduceLT, evP, evX, evR, blkOf, evA, storeA, Nat.reduceEqDiff, resL, resV, oneOrTup, Int.reduceEq, Int.reduceLT, Int.reduceLE, Int.reduceNeg, Int.reduceAdd, Int.reduceSub, Int.reduceMul, Int.reduceToNat, Nat.reduceAdd, noUnk, AV.cells, reduceCtorEq, Nat.reduceLeDiff, Cells.get, Nat.reduceMul, ↓bnd_assoc]) (by simp only [a5, ↓sxp, sxq, ↓reduceIte, Nat.reduceBEq, Nat.reduceLT, evP, evX, evR, blkOf, evA, storeA, Nat.reduceEqDiff, resL, resV, oneOrTup, Int.reduceEq, Int.reduceLT, Int.reduceLE, Int.reduceNeg, Int.reduceAdd, Int.reduceSub, Int.reduceMul, Int.reduceToNat, Nat.reduceAdd, noUnk, AV.cells, reduceCtorEq, Nat.reduceLeDiff, Cells.get, Nat.reduceMul, ↓bnd_assoc]) (by simp only [↓sxp, sxq, ↓reduceIte, Nat.reduceBEq, Nat.reduceLT, evP, evX, evR, blkOf, evA, storeA, Nat.reduceEqDiff, resL, resV, oneOrTup, Int.reduceEq, Int.reduceLT, Int.reduceLE, Int.reduceNeg, Int.reduceAdd, Int.reduceSub, Int.reduceMul, Int.reduceToNat, Nat.reduceAdd, noUnk, AV.cells, reduceCtorEq, Nat.reduceLeDiff, Cells.get, Nat.reduceMul, ↓bnd_assoc]) (by simp only [↓sxp, sxq, ↓reduceIte, Nat.reduceBEq, Nat.reduceLT, evP, evX, evR, blkOf, evA, storeA, Nat.reduceEqDiff, resL, resV, oneOrTup, Int.reduceEq, Int.reduceLT, Int.reduceLE, Int.reduceNeg, Int.reduceAdd, Int.reduceSub, Int.reduceMul, Int.reduceToNat, Nat.reduceAdd, noUnk, AV.cells, reduceCtorEq, Nat.reduceLeDiff, Cells.get, Nat.reduceMul, ↓bnd_assoc]) (.inl h')) fun lv A' H' q => q
    · have hk' : ¬ (i : Int) < key.length := by omega
      rw [if_neg hk] at hg
      rw [hg] at hts
      simp only [hlp, a1, a5, a6, a7, hlt, hlen, hk', ↓sxp, sxq, ↓reduceIte, Nat.reduceBEq, Nat.reduceLT, evP, evX, evR, blkOf, evA, storeA, Nat.reduceEqDiff, resL, resV, oneOrTup, Int.reduceEq, Int.reduceLT, Int.reduceLE, Int.reduceNeg, Int.reduceAdd, Int.reduceSub, Int.reduceMul, Int.reduceToNat, Nat.reduceAdd, noUnk, AV.cells, reduceCtorEq, Nat.reduceLeDiff, Cells.get, Nat.reduceMul, ↓bnd_assoc]
      refine Fin.byte h b htl fun v' H' h' => ?_
      rw [← hts] at h'
      simp only [a7, hwr, ↓sxp, sxq, ↓reduceIte, Nat.reduceBEq, Nat.reduceLT, evP, evX, evR, blkOf, evA, storeA, Nat.reduceEqDiff, resL, resV, oneOrTup, Int.reduceEq, Int.reduceLT, Int.reduceLE, Int.reduceNeg, Int.reduceAdd, Int.reduceSub, Int.reduceMul, Int.reduceToNat, Nat.reduceAdd, noUnk, AV.cells, reduceCtorEq, Nat.reduceLeDiff, Cells.get, Nat.reduceMul, ↓bnd_assoc]
      exact Fin.of3 (ih (i + 1) _ _ v' (by omega) (by simp only [a1, ↓sxp, sxq, ↓reduceIte, Nat.reduceBEq, Nat.reduceLT, evP, evX, evR, blkOf, evA, storeA, Nat.reduceEqDiff, resL, resV, oneOrTup, Int.reduceEq, Int.reduceLT, Int.reduceLE, Int.reduceNeg, Int.reduceAdd, Int.reduceSub, Int.reduceMul, Int.reduceToNat, Nat.reduceAdd, noUnk, AV.cells, reduceCtorEq, Nat.reduceLeDiff, Cells.get, Nat.reduceMul, ↓bnd_assoc]) (by simp only [a5, ↓sxp, sxq, ↓reduceIte, Nat.reduceBEq, Nat.reduceLT, evP, evX, evR, blkOf, evA, storeA, Nat.reduceEqDiff, resL, resV, oneOrTup, Int.reduceEq, Int.reduceLT, Int.reduceLE, Int.reduceNeg, Int.reduceAdd, Int.reduceSub, Int.reduceMul, Int.reduceToNat, Nat.reduceAdd, noUnk, AV.cells, reduceCtorEq, Nat.reduceLeDiff, Cells.get, Nat.reduceMul, ↓bnd_assoc]) (by simp only [↓sxp, sxq, ↓reduceIte, Nat.reduceBEq, Nat.reduceLT, evP, evX, evR, blkOf, evA, storeA, Nat.reduceEqDiff, resL, resV, oneOrTup, Int.reduceEq, Int.reduceLT, Int.reduceLE, Int.reduceNeg, Int.reduceAdd, Int.reduceSub, Int.reduceMul, Int.reduceToNat, Nat.reduceAdd, noUnk, AV.cells, reduceCtorEq, Nat.reduceLeDiff, Cells.get, Nat.reduceMul, ↓bnd_assoc]) (by simp only [↓sxp, sxq, ↓reduceIte, Nat.reduceBEq, Nat.reduceLT, evP, evX, evR, blkOf, evA, storeA, Nat.reduceEqDiff, resL, resV, oneOrTup, Int.reduceEq, Int.reduceLT, Int.reduceLE, Int.reduceNeg, Int.reduceAdd, Int.reduceSub, Int.reduceMul, Int.reduceToNat, Nat.reduceAdd, noUnk, AV.cells, reduceCtorEq, Nat.reduceLeDiff, Cells.get, Nat.reduceMul, ↓bnd_assoc]) (.inl h')) fun lv A' H' q => q
theorem c_dxpad (hE : EnvW E) {key : List UInt8} {kv : AV} {R : HP} {b : UInt8} (hR : RdLike W key kv R) (h1 : key.length ≤ 128) (h : Holds H (R :: Γ)) :
    ∃ v H', go W E 51 [kv, .int .u8 b.toNat] H = some (v, H') ∧ XH H' (padK key b) v (R :: Γ) := by
  suffices hh : Fin (fun r : AV × Heap => XH r.2 (padK key b) r.1 (R :: Γ)) (go W E 51 [kv, .int .u8 b.toNat] H) by
    obtain ⟨⟨r, H'⟩, e, q⟩ := hh
    exact ⟨r, H', e, q⟩
  have hlen := (hR h).len
  have b1 : ¬ (128 : Int) < key.length := by omega
  rw [go_code hE.f51 (by simp [sf51])]
  simp only [sf51, hlen, b1, ↓sxp, sxq, ↓reduceIte, Nat.reduceBEq, Nat.reduceLT, evP, evX, evR, blkOf, evA, storeA, Nat.reduceEqDiff, resL, resV, oneOrTup, Int.reduceEq, Int.reduceLT, Int.reduceLE, Int.reduceNeg, Int.reduceAdd, Int.reduceSub, Int.reduceMul, Int.reduceToNat, Nat.reduceAdd, noUnk, AV.cells, reduceCtorEq, Nat.reduceLeDiff, Cells.get, Nat.reduceMul, ↓bnd_assoc]
  refine Fin.loop (dpad_loop (Γ := Γ) (b := b) hR h1 128 0 _ _ (.sl none 0 (.exact 0)) (by omega) (by simp only [↓sxp, sxq, ↓reduceIte, Nat.reduceBEq, Nat.reduceLT, evP, evX, evR, blkOf, evA, storeA, Nat.reduceEqDiff, resL, resV, oneOrTup, Int.reduceEq, Int.reduceLT, Int.reduceLE, Int.reduceNeg, Int.reduceAdd, Int.reduceSub, Int.reduceMul, Int.reduceToNat, Nat.reduceAdd, noUnk, AV.cells, reduceCtorEq, Nat.reduceLeDiff, Cells.get, Nat.reduceMul, ↓bnd_assoc]) (by simp only [↓sxp, sxq, ↓reduceIte, Nat.reduceBEq, Nat.reduceLT, evP, evX, evR, blkOf, evA, storeA, Nat.reduceEqDiff, resL, resV, oneOrTup, Int.reduceEq, Int.reduceLT, Int.reduceLE, Int.reduceNeg, Int.reduceAdd, Int.reduceSub, Int.reduceMul, Int.reduceToNat, Nat.reduceAdd, noUnk, AV.cells, reduceCtorEq, Nat.reduceLeDiff, Cells.get, Nat.reduceMul, ↓bnd_assoc]) (by simp only [↓sxp, sxq, ↓reduceIte, Nat.reduceBEq, Nat.reduceLT, evP, evX, evR, blkOf, evA, storeA, Nat.reduceEqDiff, resL, resV, oneOrTup, Int.reduceEq, Int.reduceLT, Int.reduceLE, Int.reduceNeg, Int.reduceAdd, Int.reduceSub, Int.reduceMul, Int.reduceToNat, Nat.reduceAdd, noUnk, AV.cells, reduceCtorEq, Nat.reduceLeDiff, Cells.get, Nat.reduceMul, ↓bnd_assoc]) (by simp only [↓sxp, sxq, ↓reduceIte, Nat.reduceBEq, Nat.reduceLT, evP, evX, evR, blkOf, evA, storeA, Nat.reduceEqDiff, resL, resV, oneOrTup, Int.reduceEq, Int.reduceLT, Int.reduceLE, Int.reduceNeg, Int.reduceAdd, Int.reduceSub, Int.reduceMul, Int.reduceToNat, Nat.reduceAdd, noUnk, AV.cells, reduceCtorEq, Nat.reduceLeDiff, Cells.get, Nat.reduceMul, ↓bnd_assoc]; rfl) (.inl h.row_nil)) fun lv A H1 ⟨e1, v, a6, h2⟩ => ?_
  subst e1
  simp only [a6, ↓sxp, sxq, ↓reduceIte, Nat.reduceBEq, Nat.reduceLT, evP, evX, evR, blkOf, evA, storeA, Nat.reduceEqDiff, resL, resV, oneOrTup, Int.reduceEq, Int.reduceLT, Int.reduceLE, Int.reduceNeg, Int.reduceAdd, Int.reduceSub, Int.reduceMul, Int.reduceToNat, Nat.reduceAdd, noUnk, AV.cells, reduceCtorEq, Nat.reduceLeDiff, Cells.get, Nat.reduceMul, ↓bnd_assoc]
  exact Fin.ret h2
theorem list_loop {L : List UInt8} {jb : Nat} (hL : L.length = 64) {df : List Nat} : ∀ (m i : Nat) (A : Tm) (H : Heap) (v : AV), i + m = 64 → getX A 1 = .ptr (some ⟨.own jb, 0⟩) → getX A 3 = v → getX A 4 = .int .i64 i → XH H (L.take i) v (blk jb (cb L) 71 :: Γ) →
    ∃ lv A' H', run W E (.loop lp52_0) ⟨A, df, none⟩ H = some (lv, ⟨A', df, none⟩, H') ∧ (lv = .exit 0 ∧ ∃ v', getX A' 3 = v' ∧ XH H' L v' (blk jb (cb L) 71 :: Γ)) := by
  have hlp : ∀ f H, run W E lp52_0 f H = run W E lp52_0 f H := fun _ _ => rfl
  conv at hlp => enter [f, H, 2]; unfold lp52_0
  intro m
  induction m with
  | zero =>
    intro i A H v him a1 a3 a4 h
    have : i = 64 := by omega
    subst this
    have a4' : getX A 4 = .int .i64 64 := a4
    rw [run_loop]
    simp only [hlp, a4', ↓sxp, sxq, ↓reduceIte, Nat.reduceBEq, Nat.reduceLT, evP, evX, evR, blkOf, evA, storeA, Nat.reduceEqDiff, resL, resV, oneOrTup, Int.reduceEq, Int.reduceLT, Int.reduceLE, Int.reduceNeg, Int.reduceAdd, Int.reduceSub, Int.reduceMul, Int.reduceToNat, Nat.reduceAdd, noUnk, AV.cells, reduceCtorEq, Nat.reduceLeDiff, Cells.get, Nat.reduceMul, ↓bnd_assoc]
    rw [List.take_of_length_le (by omega)] at h
    exact ⟨_, _, _, rfl, rfl, v, by simp only [a3, ↓sxp, sxq, ↓reduceIte, Nat.reduceBEq, Nat.reduceLT, evP, evX, evR, blkOf, evA, storeA, Nat.reduceEqDiff, resL, resV, oneOrTup, Int.reduceEq, Int.reduceLT, Int.reduceLE, Int.reduceNeg, Int.reduceAdd, Int.reduceSub, Int.reduceMul, Int.reduceToNat, Nat.reduceAdd, noUnk, AV.cells, reduceCtorEq, Nat.reduceLeDiff, Cells.get, Nat.reduceMul, ↓bnd_assoc], h⟩
  | succ m ih =>
    intro i A H v him a1 a3 a4 h
    have hlt : (i : Int) < 64 := by omega
    have hwr : IntKind.i64.wrap ((i : Int) + 1) = ((i + 1 : Nat) : Int) := by rw [w64 (by omega)]; simp
    obtain ⟨Δ, hh⟩ := h.fr
    have g := hh.get
    have hx := cb_get (show i < L.length by omega)
    have htl : (L.take i).length < 1099511627776 := by rw [List.length_take]; omega
    have hts := take_succ_b L i (by omega)
    apply Fin.ex3
    rw [run_loop]
    simp only [hlp, a1, a3, a4, hlt, nc64, Int.natCast_nonneg, and_self, ↓g, hx, Int.toNat_natCast, ↓sxp, sxq, ↓reduceIte, Nat.reduceBEq, Nat.reduceLT, evP, evX, evR, blkOf, evA, storeA, Nat.reduceEqDiff, resL, resV, oneOrTup, Int.reduceEq, Int.reduceLT, Int.reduceLE, Int.reduceNeg, Int.reduceAdd, Int.reduceSub, Int.reduceMul, Int.reduceToNat, Nat.reduceAdd, noUnk, AV.cells, reduceCtorEq, Nat.reduceLeDiff, Cells.get, Nat.reduceMul, ↓bnd_assoc]
    refine Fin.byte h (L.getD i 0) htl fun v' H' h' => ?_
    rw [← hts] at h'
    simp only [a4, hwr, ↓sxp, sxq, ↓reduceIte, Nat.reduceBEq, Nat.reduceLT, evP, evX, evR, blkOf, evA, storeA, Nat.reduceEqDiff, resL, resV, oneOrTup, Int.reduceEq, Int.reduceLT, Int.reduceLE, Int.reduceNeg, Int.reduceAdd, Int.reduceSub, Int.reduceMul, Int.reduceToNat, Nat.reduceAdd, noUnk, AV.cells, reduceCtorEq, Nat.reduceLeDiff, Cells.get, Nat.reduceMul, ↓bnd_assoc]
    exact Fin.of3 (ih (i + 1) _ _ v' (by omega) (by simp only [a1, ↓sxp, sxq, ↓reduceIte, Nat.reduceBEq, Nat.reduceLT, evP, evX, evR, blkOf, evA, storeA, Nat.reduceEqDiff, resL, resV, oneOrTup, Int.reduceEq, Int.reduceLT, Int.reduceLE, Int.reduceNeg, Int.reduceAdd, Int.reduceSub, Int.reduceMul, Int.reduceToNat, Nat.reduceAdd, noUnk, AV.cells, reduceCtorEq, Nat.reduceLeDiff, Cells.get, Nat.reduceMul, ↓bnd_assoc]) (by simp only [↓sxp, sxq, ↓reduceIte, Nat.reduceBEq, Nat.reduceLT, evP, evX, evR, blkOf, evA, storeA, Nat.reduceEqDiff, resL, resV, oneOrTup, Int.reduceEq, Int.reduceLT, Int.reduceLE, Int.reduceNeg, Int.reduceAdd, Int.reduceSub, Int.reduceMul, Int.reduceToNat, Nat.reduceAdd, noUnk, AV.cells, reduceCtorEq, Nat.reduceLeDiff, Cells.get, Nat.reduceMul, ↓bnd_assoc]) (by simp only [↓sxp, sxq, ↓reduceIte, Nat.reduceBEq, Nat.reduceLT, evP, evX, evR, blkOf, evA, storeA, Nat.reduceEqDiff, resL, resV, oneOrTup, Int.reduceEq, Int.reduceLT, Int.reduceLE, Int.reduceNeg, Int.reduceAdd, Int.reduceSub, Int.reduceMul, Int.reduceToNat, Nat.reduceAdd, noUnk, AV.cells, reduceCtorEq, Nat.reduceLeDiff, Cells.get, Nat.reduceMul, ↓bnd_assoc]) (.inl h')) fun lv A' H' q => q
theorem c_list (hE : EnvW E) {L : List UInt8} (hL : L.length = 64) (h : Holds H Γ) :
    ∃ v H', go W E 52 [.agg (cb L)] H = some (v, H') ∧ ∃ j, XH H' L v (blk j (cb L) 71 :: Γ) := by
  suffices hh : Fin (fun r : AV × Heap => ∃ j, XH r.2 L r.1 (blk j (cb L) 71 :: Γ)) (go W E 52 [.agg (cb L)] H) by
    obtain ⟨⟨r, H'⟩, e, q⟩ := hh
    exact ⟨r, H', e, q⟩
  have h2 := h.push (c := cb L) (t := 71)
  rw [go_code hE.f52 (by simp [sf52])]
  generalize hcL : cb L = c at *
  simp only [sf52, ↓sxp, sxq, ↓reduceIte, Nat.reduceBEq, Nat.reduceLT, evP, evX, evR, blkOf, evA, storeA, Nat.reduceEqDiff, resL, resV, oneOrTup, Int.reduceEq, Int.reduceLT, Int.reduceLE, Int.reduceNeg, Int.reduceAdd, Int.reduceSub, Int.reduceMul, Int.reduceToNat, Nat.reduceAdd, noUnk, AV.cells, reduceCtorEq, Nat.reduceLeDiff, Cells.get, Nat.reduceMul, ↓bnd_assoc]
  subst hcL
  refine Fin.loop (list_loop (Γ := Γ) (jb := H.next) hL 64 0 _ _ (.sl none 0 (.exact 0)) (by omega) (by simp only [↓sxp, sxq, ↓reduceIte, Nat.reduceBEq, Nat.reduceLT, evP, evX, evR, blkOf, evA, storeA, Nat.reduceEqDiff, resL, resV, oneOrTup, Int.reduceEq, Int.reduceLT, Int.reduceLE, Int.reduceNeg, Int.reduceAdd, Int.reduceSub, Int.reduceMul, Int.reduceToNat, Nat.reduceAdd, noUnk, AV.cells, reduceCtorEq, Nat.reduceLeDiff, Cells.get, Nat.reduceMul, ↓bnd_assoc]) (by simp only [↓sxp, sxq, ↓reduceIte, Nat.reduceBEq, Nat.reduceLT, evP, evX, evR, blkOf, evA, storeA, Nat.reduceEqDiff, resL, resV, oneOrTup, Int.reduceEq, Int.reduceLT, Int.reduceLE, Int.reduceNeg, Int.reduceAdd, Int.reduceSub, Int.reduceMul, Int.reduceToNat, Nat.reduceAdd, noUnk, AV.cells, reduceCtorEq, Nat.reduceLeDiff, Cells.get, Nat.reduceMul, ↓bnd_assoc]) (by simp only [↓sxp, sxq, ↓reduceIte, Nat.reduceBEq, Nat.reduceLT, evP, evX, evR, blkOf, evA, storeA, Nat.reduceEqDiff, resL, resV, oneOrTup, Int.reduceEq, Int.reduceLT, Int.reduceLE, Int.reduceNeg, Int.reduceAdd, Int.reduceSub, Int.reduceMul, Int.reduceToNat, Nat.reduceAdd, noUnk, AV.cells, reduceCtorEq, Nat.reduceLeDiff, Cells.get, Nat.reduceMul, ↓bnd_assoc]; rfl) (.inl h2.row_nil)) fun lv A H1 ⟨e1, v, a3, h3⟩ => ?_
  subst e1
  simp only [a3, ↓sxp, sxq, ↓reduceIte, Nat.reduceBEq, Nat.reduceLT, evP, evX, evR, blkOf, evA, storeA, Nat.reduceEqDiff, resL, resV, oneOrTup, Int.reduceEq, Int.reduceLT, Int.reduceLE, Int.reduceNeg, Int.reduceAdd, Int.reduceSub, Int.reduceMul, Int.reduceToNat, Nat.reduceAdd, noUnk, AV.cells, reduceCtorEq, Nat.reduceLeDiff, Cells.get, Nat.reduceMul, ↓bnd_assoc]
  exact Fin.ret ⟨_, h3⟩
theorem c_dtag (hE : EnvW E) {key m : List UInt8} {kv mv : AV} {Rk Rm : HP} (hk : RdLike W key kv Rk) (hm : RdLike W m mv Rm) (h1 : key.length ≤ 128) (h0 : 0 < m.length) (hml : m.length < 50000) (h : Holds H (Rk :: Rm :: Γ)) :
    ∃ H', go W E 38 [kv, mv] H = some (.agg (cb (tagF key m)), H') ∧ Holds H' (Rk :: Rm :: Γ) := by
  apply Ends.out
  refine (show Fin (fun r : AV × Heap => r.1 = .agg (cb (tagF key m)) ∧ Holds r.2 (Rk :: Rm :: Γ)) _ from ?_)
  have hzz : [AV.int .u8 0, AV.int .u8 0, AV.int .u8 0, AV.int .u8 0, AV.int .u8 0, AV.int .u8 0, AV.int .u8 0, AV.int .u8 0, AV.int .u8 0, AV.int .u8 0, AV.int .u8 0, AV.int .u8 0, AV.int .u8 0, AV.int .u8 0, AV.int .u8 0, AV.int .u8 0, AV.int .u8 0, AV.int .u8 0, AV.int .u8 0, AV.int .u8 0, AV.int .u8 0, AV.int .u8 0, AV.int .u8 0, AV.int .u8 0, AV.int .u8 0, AV.int .u8 0, AV.int .u8 0, AV.int .u8 0, AV.int .u8 0, AV.int .u8 0, AV.int .u8 0, AV.int .u8 0, AV.int .u8 0, AV.int .u8 0, AV.int .u8 0, AV.int .u8 0, AV.int .u8 0, AV.int .u8 0, AV.int .u8 0, AV.int .u8 0, AV.int .u8 0, AV.int .u8 0, AV.int .u8 0, AV.int .u8 0, AV.int .u8 0, AV.int .u8 0, AV.int .u8 0, AV.int .u8 0, AV.int .u8 0, AV.int .u8 0, AV.int .u8 0, AV.int .u8 0, AV.int .u8 0, AV.int .u8 0, AV.int .u8 0, AV.int .u8 0, AV.int .u8 0, AV.int .u8 0, AV.int .u8 0, AV.int .u8 0, AV.int .u8 0, AV.int .u8 0, AV.int .u8 0, AV.int .u8 0] = z64 := rfl
  have h2 := h.push (c := z64) (t := 71)
  have pl54 := padK_len key 54 h1
  have pl92 := padK_len key 92 h1
  rw [go_code hE.f38 (by simp [sf38])]
  simp only [sf38, hzz, ↓sxp, sxq, ↓reduceIte, Nat.reduceBEq, Nat.reduceLT, evP, evX, evR, blkOf, evA, storeA, Nat.reduceEqDiff, resL, resV, oneOrTup, Int.reduceEq, Int.reduceLT, Int.reduceLE, Int.reduceNeg, Int.reduceAdd, Int.reduceSub, Int.reduceMul, Int.reduceToNat, Nat.reduceAdd, noUnk, AV.cells, reduceCtorEq, Nat.reduceLeDiff, Cells.get, Nat.reduceMul, ↓bnd_assoc]
  generalize H.next = b4 at *
  refine Fin.callX (fun v H' => XH H' (padK key 54) v (Rk :: blk b4 z64 71 :: Rm :: Γ)) (c_dxpad hE (b := 54) hk h1 (h2.ord [1])) fun v1 H3 h3 => ?_
  obtain ⟨C, hC⟩ := h3.any
  simp only [↓sxp, sxq, ↓reduceIte, Nat.reduceBEq, Nat.reduceLT, evP, evX, evR, blkOf, evA, storeA, Nat.reduceEqDiff, resL, resV, oneOrTup, Int.reduceEq, Int.reduceLT, Int.reduceLE, Int.reduceNeg, Int.reduceAdd, Int.reduceSub, Int.reduceMul, Int.reduceToNat, Nat.reduceAdd, noUnk, AV.cells, reduceCtorEq, Nat.reduceLeDiff, Cells.get, Nat.reduceMul, ↓bnd_assoc]
  refine Fin.xapp h3 ((hm (hC.ord [3])).src) h0 (by omega) fun v2 H4 h4 => ?_
  simp only [↓sxp, sxq, ↓reduceIte, Nat.reduceBEq, Nat.reduceLT, evP, evX, evR, blkOf, evA, storeA, Nat.reduceEqDiff, resL, resV, oneOrTup, Int.reduceEq, Int.reduceLT, Int.reduceLE, Int.reduceNeg, Int.reduceAdd, Int.reduceSub, Int.reduceMul, Int.reduceToNat, Nat.reduceAdd, noUnk, AV.cells, reduceCtorEq, Nat.reduceLeDiff, Cells.get, Nat.reduceMul, ↓bnd_assoc]
  refine Fin.callX (fun v H' => XH H' (padK key 92) v (Rk :: row 5 1 (cb (padK key 54 ++ m)) v2 :: blk b4 z64 71 :: Rm :: Γ)) (c_dxpad hE (b := 92) hk h1 (h4.ord [1])) fun v3 H5 h5 => ?_
  have hm1 : (padK key 54 ++ m).length < 60000 ∧ 0 < (padK key 54 ++ m).length := by rw [List.length_append]; omega
  have htag : tagF key m = sumF (padK key 92 ++ sumF (padK key 54 ++ m)) := rfl
  rw [htag]
  generalize hM1 : padK key 54 ++ m = M1 at *
  refine Fin.call (c_dsum hE.toEnvS (RdLike.row M1 v2) hm1.2 hm1.1 (h5.toH.ord [2])) fun H6 h6 => ?_
  have hs1 := sumF_len M1
  generalize sumF M1 = S1 at *
  refine Fin.callX (fun v H' => ∃ j, XH H' S1 v (blk j (cb S1) 71 :: HP.xh (padK key 92) v3 :: Rk :: blk b4 z64 71 :: Rm :: Γ)) (c_list hE hs1 (h6.rm 0)) fun v4 H7 ⟨j7, h7⟩ => ?_
  have h8 : XH H7 (padK key 92) v3 (HP.xh S1 v4 :: blk j7 (cb S1) 71 :: Rk :: blk b4 z64 71 :: Rm :: Γ) := XH.ofH (h7.toH.ord [2])
  refine Fin.xapp h8 (by rw [h7.src, hs1]) (by omega) (by omega) fun v5 H9 h9 => ?_
  have hm2 : (padK key 92 ++ S1).length < 60000 ∧ 0 < (padK key 92 ++ S1).length := by rw [List.length_append]; omega
  generalize padK key 92 ++ S1 = M2 at *
  refine Fin.call (c_dsum hE.toEnvS (RdLike.row M2 v5) hm2.2 hm2.1 h9) fun H10 h10 => ?_
  have hs2 := sumF_len M2
  generalize sumF M2 = S2 at *
  have hl64 : (cb S2).length = 64 := by rw [cb_len, hs2]
  have hg64 : Cells.getN (.lst (cb S2)) 0 64 = some (cb S2) := by
    have := getN_all (cb S2)
    rw [cb_len, hs2] at this; exact this
  simp only [hl64, ↓sxp, sxq, ↓reduceIte, Nat.reduceBEq, Nat.reduceLT, evP, evX, evR, blkOf, evA, storeA, Nat.reduceEqDiff, resL, resV, oneOrTup, Int.reduceEq, Int.reduceLT, Int.reduceLE, Int.reduceNeg, Int.reduceAdd, Int.reduceSub, Int.reduceMul, Int.reduceToNat, Nat.reduceAdd, noUnk, AV.cells, reduceCtorEq, Nat.reduceLeDiff, Cells.get, Nat.reduceMul, ↓bnd_assoc]
  refine Fin.write (cb S2) (h10.ord [4]) (setN_all (by rw [hl64]; rfl)) (by rw [hl64]; exact Nat.le_refl _) (cb_one S2) fun H15 h15 => ?_
  have g15 := h15.get
  simp only [↓g15, ↓hg64, ↓sxp, sxq, ↓reduceIte, Nat.reduceBEq, Nat.reduceLT, evP, evX, evR, blkOf, evA, storeA, Nat.reduceEqDiff, resL, resV, oneOrTup, Int.reduceEq, Int.reduceLT, Int.reduceLE, Int.reduceNeg, Int.reduceAdd, Int.reduceSub, Int.reduceMul, Int.reduceToNat, Nat.reduceAdd, noUnk, AV.cells, reduceCtorEq, Nat.reduceLeDiff, Cells.get, Nat.reduceMul, ↓bnd_assoc]
  exact Fin.ret ⟨rfl, h15.tail.tail.tail.tail⟩
end
end Go.Proofs.YtjfnhdiimibmiaaDoor.Sx

/- Keys, the document's. -/
namespace Go.Proofs.YtjfnhdiimibmiaaDoor.Sx
open HP
def msgF (s ctx : List UInt8) : List UInt8 := UInt8.ofNat s.length :: (s ++ (bytesN 4 ctx.length ++ ctx))
def keyF (key s ctx : List UInt8) : List UInt8 := (tagF key (msgF s ctx)).take 32
theorem tagF_len (key m : List UInt8) : (tagF key m).length = 64 := sumF_len _
theorem keyF_len (key s ctx : List UInt8) : (keyF key s ctx).length = 32 := by
  unfold keyF
  rw [List.length_take, tagF_len]; rfl
def z32 : List AV := cb (List.replicate 32 0)
theorem z32_eq : [AV.int .u8 0, AV.int .u8 0, AV.int .u8 0, AV.int .u8 0, AV.int .u8 0, AV.int .u8 0, AV.int .u8 0, AV.int .u8 0, AV.int .u8 0, AV.int .u8 0, AV.int .u8 0, AV.int .u8 0, AV.int .u8 0, AV.int .u8 0, AV.int .u8 0, AV.int .u8 0, AV.int .u8 0, AV.int .u8 0, AV.int .u8 0, AV.int .u8 0, AV.int .u8 0, AV.int .u8 0, AV.int .u8 0, AV.int .u8 0, AV.int .u8 0, AV.int .u8 0, AV.int .u8 0, AV.int .u8 0, AV.int .u8 0, AV.int .u8 0, AV.int .u8 0, AV.int .u8 0] = z32 := rfl
theorem z64_eq : [AV.int .u8 0, AV.int .u8 0, AV.int .u8 0, AV.int .u8 0, AV.int .u8 0, AV.int .u8 0, AV.int .u8 0, AV.int .u8 0, AV.int .u8 0, AV.int .u8 0, AV.int .u8 0, AV.int .u8 0, AV.int .u8 0, AV.int .u8 0, AV.int .u8 0, AV.int .u8 0, AV.int .u8 0, AV.int .u8 0, AV.int .u8 0, AV.int .u8 0, AV.int .u8 0, AV.int .u8 0, AV.int .u8 0, AV.int .u8 0, AV.int .u8 0, AV.int .u8 0, AV.int .u8 0, AV.int .u8 0, AV.int .u8 0, AV.int .u8 0, AV.int .u8 0, AV.int .u8 0, AV.int .u8 0, AV.int .u8 0, AV.int .u8 0, AV.int .u8 0, AV.int .u8 0, AV.int .u8 0, AV.int .u8 0, AV.int .u8 0, AV.int .u8 0, AV.int .u8 0, AV.int .u8 0, AV.int .u8 0, AV.int .u8 0, AV.int .u8 0, AV.int .u8 0, AV.int .u8 0, AV.int .u8 0, AV.int .u8 0, AV.int .u8 0, AV.int .u8 0, AV.int .u8 0, AV.int .u8 0, AV.int .u8 0, AV.int .u8 0, AV.int .u8 0, AV.int .u8 0, AV.int .u8 0, AV.int .u8 0, AV.int .u8 0, AV.int .u8 0, AV.int .u8 0, AV.int .u8 0] = z64 := rfl
theorem nc1 : ((1 : Nat) : Int) = 1 := (Eq.refl _).trans rfl
theorem nc32 : ((32 : Nat) : Int) = 32 := (Eq.refl _).trans rfl
section
variable {W : World} {E : Env} {H : Heap} {Γ : List HP}
theorem dk_loop0 {s : List UInt8} (hs : s.length < 65) {df : List Nat} : ∀ (m i : Nat) (A : Tm) (H : Heap) (v : AV) (pre : List UInt8), i + m = s.length → pre.length < 100 → getX A 1 = .str s → getX A 9 = v → getX A 10 = .int .i64 i → XH H (pre ++ s.take i) v Γ →
    ∃ lv A' H', run W E (.loop lp23_0) ⟨A, df, none⟩ H = some (lv, ⟨A', df, none⟩, H') ∧ (lv = .exit 0 ∧ getX A' 0 = getX A 0 ∧ getX A' 2 = getX A 2 ∧ getX A' 6 = getX A 6 ∧ getX A' 8 = getX A 8 ∧ ∃ v', getX A' 9 = v' ∧ XH H' (pre ++ s) v' Γ) := by
  have hlp : ∀ f H, run W E lp23_0 f H = run W E lp23_0 f H := fun _ _ => rfl
  conv at hlp => enter [f, H, 2]; unfold lp23_0
  intro m
  induction m with
  | zero =>
    intro i A H v pre him hp a1 a9 a10 h
    have : i = s.length := by omega
    subst this
    have hlt : ¬ (s.length : Int) < s.length := by omega
    rw [run_loop]
    simp only [hlp, a1, a10, hlt, ↓sxp, sxq, ↓reduceIte, Nat.reduceBEq, Nat.reduceLT, evP, evX, evR, blkOf, evA, storeA, Nat.reduceEqDiff, resL, resV, oneOrTup, Int.reduceEq, Int.reduceLT, Int.reduceLE, Int.reduceNeg, Int.reduceAdd, Int.reduceSub, Int.reduceMul, Int.reduceToNat, Nat.reduceAdd, noUnk, AV.cells, reduceCtorEq, Nat.reduceLeDiff, Cells.get, Nat.reduceMul, ↓bnd_assoc]
    rw [List.take_length] at h
    exact ⟨_, _, _, rfl, rfl, by simp only [↓sxp, sxq, ↓reduceIte, Nat.reduceBEq, Nat.reduceLT, evP, evX, evR, blkOf, evA, storeA, Nat.reduceEqDiff, resL, resV, oneOrTup, Int.reduceEq, Int.reduceLT, Int.reduceLE, Int.reduceNeg, Int.reduceAdd, Int.reduceSub, Int.reduceMul, Int.reduceToNat, Nat.reduceAdd, noUnk, AV.cells, reduceCtorEq, Nat.reduceLeDiff, Cells.get, Nat.reduceMul, ↓bnd_assoc], by simp only [↓sxp, sxq, ↓reduceIte, Nat.reduceBEq, Nat.reduceLT, evP, evX, evR, blkOf, evA, storeA, Nat.reduceEqDiff, resL, resV, oneOrTup, Int.reduceEq, Int.reduceLT, Int.reduceLE, Int.reduceNeg, Int.reduceAdd, Int.reduceSub, Int.reduceMul, Int.reduceToNat, Nat.reduceAdd, noUnk, AV.cells, reduceCtorEq, Nat.reduceLeDiff, Cells.get, Nat.reduceMul, ↓bnd_assoc], by simp only [↓sxp, sxq, ↓reduceIte, Nat.reduceBEq, Nat.reduceLT, evP, evX, evR, blkOf, evA, storeA, Nat.reduceEqDiff, resL, resV, oneOrTup, Int.reduceEq, Int.reduceLT, Int.reduceLE, Int.reduceNeg, Int.reduceAdd, Int.reduceSub, Int.reduceMul, Int.reduceToNat, Nat.reduceAdd, noUnk, AV.cells, reduceCtorEq, Nat.reduceLeDiff, Cells.get, Nat.reduceMul, ↓bnd_assoc], by simp only [↓sxp, sxq, ↓reduceIte, Nat.reduceBEq, Nat.reduceLT, evP, evX, evR, blkOf, evA, storeA, Nat.reduceEqDiff, resL, resV, oneOrTup, Int.reduceEq, Int.reduceLT, Int.reduceLE, Int.reduceNeg, Int.reduceAdd, Int.reduceSub, Int.reduceMul, Int.reduceToNat, Nat.reduceAdd, noUnk, AV.cells, reduceCtorEq, Nat.reduceLeDiff, Cells.get, Nat.reduceMul, ↓bnd_assoc], v, by simp only [a9, ↓sxp, sxq, ↓reduceIte, Nat.reduceBEq, Nat.reduceLT, evP, evX, evR, blkOf, evA, storeA, Nat.reduceEqDiff, resL, resV, oneOrTup, Int.reduceEq, Int.reduceLT, Int.reduceLE, Int.reduceNeg, Int.reduceAdd, Int.reduceSub, Int.reduceMul, Int.reduceToNat, Nat.reduceAdd, noUnk, AV.cells, reduceCtorEq, Nat.reduceLeDiff, Cells.get, Nat.reduceMul, ↓bnd_assoc], h⟩
  | succ m ih =>
    intro i A H v pre him hp a1 a9 a10 h
    have hlt : (i : Int) < s.length := by omega
    have hwr : IntKind.i64.wrap ((i : Int) + 1) = ((i + 1 : Nat) : Int) := by rw [w64 (by omega)]; simp
    have hx : s[i]? = some (s.getD i 0) := by rw [List.getD_eq_getElem?_getD, List.getElem?_eq_getElem (by omega)]; rfl
    have hts := take_succ_b s i (by omega)
    apply Fin.ex3
    rw [run_loop]
    simp only [hlp, a1, a9, a10, hlt, hx, Int.natCast_nonneg, Int.toNat_natCast, ↓sxp, sxq, ↓reduceIte, Nat.reduceBEq, Nat.reduceLT, evP, evX, evR, blkOf, evA, storeA, Nat.reduceEqDiff, resL, resV, oneOrTup, Int.reduceEq, Int.reduceLT, Int.reduceLE, Int.reduceNeg, Int.reduceAdd, Int.reduceSub, Int.reduceMul, Int.reduceToNat, Nat.reduceAdd, noUnk, AV.cells, reduceCtorEq, Nat.reduceLeDiff, Cells.get, Nat.reduceMul, ↓bnd_assoc]
    refine Fin.byte h (s.getD i 0) (by rw [List.length_append, List.length_take]; omega) fun v' H' h' => ?_
    rw [List.append_assoc, ← hts] at h'
    simp only [a10, hwr, ↓sxp, sxq, ↓reduceIte, Nat.reduceBEq, Nat.reduceLT, evP, evX, evR, blkOf, evA, storeA, Nat.reduceEqDiff, resL, resV, oneOrTup, Int.reduceEq, Int.reduceLT, Int.reduceLE, Int.reduceNeg, Int.reduceAdd, Int.reduceSub, Int.reduceMul, Int.reduceToNat, Nat.reduceAdd, noUnk, AV.cells, reduceCtorEq, Nat.reduceLeDiff, Cells.get, Nat.reduceMul, ↓bnd_assoc]
    exact Fin.of3 (ih (i + 1) _ _ v' pre (by omega) hp (by simp only [a1, ↓sxp, sxq, ↓reduceIte, Nat.reduceBEq, Nat.reduceLT, evP, evX, evR, blkOf, evA, storeA, Nat.reduceEqDiff, resL, resV, oneOrTup, Int.reduceEq, Int.reduceLT, Int.reduceLE, Int.reduceNeg, Int.reduceAdd, Int.reduceSub, Int.reduceMul, Int.reduceToNat, Nat.reduceAdd, noUnk, AV.cells, reduceCtorEq, Nat.reduceLeDiff, Cells.get, Nat.reduceMul, ↓bnd_assoc]) (by simp only [↓sxp, sxq, ↓reduceIte, Nat.reduceBEq, Nat.reduceLT, evP, evX, evR, blkOf, evA, storeA, Nat.reduceEqDiff, resL, resV, oneOrTup, Int.reduceEq, Int.reduceLT, Int.reduceLE, Int.reduceNeg, Int.reduceAdd, Int.reduceSub, Int.reduceMul, Int.reduceToNat, Nat.reduceAdd, noUnk, AV.cells, reduceCtorEq, Nat.reduceLeDiff, Cells.get, Nat.reduceMul, ↓bnd_assoc]) (by simp only [↓sxp, sxq, ↓reduceIte, Nat.reduceBEq, Nat.reduceLT, evP, evX, evR, blkOf, evA, storeA, Nat.reduceEqDiff, resL, resV, oneOrTup, Int.reduceEq, Int.reduceLT, Int.reduceLE, Int.reduceNeg, Int.reduceAdd, Int.reduceSub, Int.reduceMul, Int.reduceToNat, Nat.reduceAdd, noUnk, AV.cells, reduceCtorEq, Nat.reduceLeDiff, Cells.get, Nat.reduceMul, ↓bnd_assoc]) (.inl h')) fun lv A' H' ⟨q1, q2, q3, q4, q5, q6⟩ => ⟨q1, q2.trans (by simp only [↓sxp, sxq, ↓reduceIte, Nat.reduceBEq, Nat.reduceLT, evP, evX, evR, blkOf, evA, storeA, Nat.reduceEqDiff, resL, resV, oneOrTup, Int.reduceEq, Int.reduceLT, Int.reduceLE, Int.reduceNeg, Int.reduceAdd, Int.reduceSub, Int.reduceMul, Int.reduceToNat, Nat.reduceAdd, noUnk, AV.cells, reduceCtorEq, Nat.reduceLeDiff, Cells.get, Nat.reduceMul, ↓bnd_assoc]), q3.trans (by simp only [↓sxp, sxq, ↓reduceIte, Nat.reduceBEq, Nat.reduceLT, evP, evX, evR, blkOf, evA, storeA, Nat.reduceEqDiff, resL, resV, oneOrTup, Int.reduceEq, Int.reduceLT, Int.reduceLE, Int.reduceNeg, Int.reduceAdd, Int.reduceSub, Int.reduceMul, Int.reduceToNat, Nat.reduceAdd, noUnk, AV.cells, reduceCtorEq, Nat.reduceLeDiff, Cells.get, Nat.reduceMul, ↓bnd_assoc]), q4.trans (by simp only [↓sxp, sxq, ↓reduceIte, Nat.reduceBEq, Nat.reduceLT, evP, evX, evR, blkOf, evA, storeA, Nat.reduceEqDiff, resL, resV, oneOrTup, Int.reduceEq, Int.reduceLT, Int.reduceLE, Int.reduceNeg, Int.reduceAdd, Int.reduceSub, Int.reduceMul, Int.reduceToNat, Nat.reduceAdd, noUnk, AV.cells, reduceCtorEq, Nat.reduceLeDiff, Cells.get, Nat.reduceMul, ↓bnd_assoc]), q5.trans (by simp only [↓sxp, sxq, ↓reduceIte, Nat.reduceBEq, Nat.reduceLT, evP, evX, evR, blkOf, evA, storeA, Nat.reduceEqDiff, resL, resV, oneOrTup, Int.reduceEq, Int.reduceLT, Int.reduceLE, Int.reduceNeg, Int.reduceAdd, Int.reduceSub, Int.reduceMul, Int.reduceToNat, Nat.reduceAdd, noUnk, AV.cells, reduceCtorEq, Nat.reduceLeDiff, Cells.get, Nat.reduceMul, ↓bnd_assoc]), q6⟩
theorem dk_loop2 {T : List UInt8} {j8 j14 : Nat} (hT : T.length = 64) {df : List Nat} : ∀ (m i : Nat) (A : Tm) (H : Heap), i + m = 32 → getX A 8 = .ptr (some ⟨.own j8, 0⟩) → getX A 14 = .ptr (some ⟨.own j14, 0⟩) → getX A 15 = .int .i64 i → Holds H (blk j8 (cb (T.take i ++ List.replicate m 0)) 22 :: blk j14 (cb T) 71 :: Γ) →
    ∃ lv A' H', run W E (.loop lp23_2) ⟨A, df, none⟩ H = some (lv, ⟨A', df, none⟩, H') ∧ (lv = .exit 4 ∧ getX A' 6 = getX A 6 ∧ getX A' 8 = .ptr (some ⟨.own j8, 0⟩) ∧ Holds H' (blk j8 (cb (T.take 32)) 22 :: blk j14 (cb T) 71 :: Γ)) := by
  have hlp : ∀ f H, run W E lp23_2 f H = run W E lp23_2 f H := fun _ _ => rfl
  conv at hlp => enter [f, H, 2]; unfold lp23_2
  intro m
  induction m with
  | zero =>
    intro i A H him a8 a14 a15 h
    have : i = 32 := by omega
    subst this
    have a15' : getX A 15 = .int .i64 32 := a15
    rw [run_loop]
    simp only [hlp, a15', ↓sxp, sxq, ↓reduceIte, Nat.reduceBEq, Nat.reduceLT, evP, evX, evR, blkOf, evA, storeA, Nat.reduceEqDiff, resL, resV, oneOrTup, Int.reduceEq, Int.reduceLT, Int.reduceLE, Int.reduceNeg, Int.reduceAdd, Int.reduceSub, Int.reduceMul, Int.reduceToNat, Nat.reduceAdd, noUnk, AV.cells, reduceCtorEq, Nat.reduceLeDiff, Cells.get, Nat.reduceMul, ↓bnd_assoc]
    rw [List.replicate_zero, List.append_nil] at h
    exact ⟨_, _, _, rfl, rfl, by simp only [↓sxp, sxq, ↓reduceIte, Nat.reduceBEq, Nat.reduceLT, evP, evX, evR, blkOf, evA, storeA, Nat.reduceEqDiff, resL, resV, oneOrTup, Int.reduceEq, Int.reduceLT, Int.reduceLE, Int.reduceNeg, Int.reduceAdd, Int.reduceSub, Int.reduceMul, Int.reduceToNat, Nat.reduceAdd, noUnk, AV.cells, reduceCtorEq, Nat.reduceLeDiff, Cells.get, Nat.reduceMul, ↓bnd_assoc], by simp only [a8, ↓sxp, sxq, ↓reduceIte, Nat.reduceBEq, Nat.reduceLT, evP, evX, evR, blkOf, evA, storeA, Nat.reduceEqDiff, resL, resV, oneOrTup, Int.reduceEq, Int.reduceLT, Int.reduceLE, Int.reduceNeg, Int.reduceAdd, Int.reduceSub, Int.reduceMul, Int.reduceToNat, Nat.reduceAdd, noUnk, AV.cells, reduceCtorEq, Nat.reduceLeDiff, Cells.get, Nat.reduceMul, ↓bnd_assoc], h⟩
  | succ m ih =>
    intro i A H him a8 a14 a15 h
    have hlt : (i : Int) < 32 := by omega
    have hlt64 : (i : Int) < 64 := by omega
    have hwr : IntKind.i64.wrap ((i : Int) + 1) = ((i + 1 : Nat) : Int) := by rw [w64 (by omega)]; simp
    have g := (h.ord [1]).get
    have hx := cb_get (show i < T.length by omega)
    have hti : (T.take i).length = i := by rw [List.length_take]; omega
    have hset : (cb (T.take i ++ List.replicate (m + 1) 0)).set i (.int .u8 (T.getD i 0).toNat) = cb (T.take (i + 1) ++ List.replicate m 0) := by
      rw [cb_set, List.replicate_succ, take_succ_b T i (by omega)]
      congr 1
      have := set_mid (T.take i) 0 (T.getD i 0) (List.replicate m 0)
      rw [hti] at this
      rw [this]; simp
    apply Fin.ex3
    rw [run_loop]
    simp only [hlp, a8, a14, a15, hlt, hlt64, nc32, nc64, Int.natCast_nonneg, and_self, ↓g, hx, Int.toNat_natCast, ↓sxp, sxq, ↓reduceIte, Nat.reduceBEq, Nat.reduceLT, evP, evX, evR, blkOf, evA, storeA, Nat.reduceEqDiff, resL, resV, oneOrTup, Int.reduceEq, Int.reduceLT, Int.reduceLE, Int.reduceNeg, Int.reduceAdd, Int.reduceSub, Int.reduceMul, Int.reduceToNat, Nat.reduceAdd, noUnk, AV.cells, reduceCtorEq, Nat.reduceLeDiff, Cells.get, Nat.reduceMul, ↓bnd_assoc]
    refine Fin.write (cb (T.take (i + 1) ++ List.replicate m 0)) h (by simp only [Cells.setN, Cells.set, hset]) (by rw [cb_len, List.length_append, hti, List.length_replicate]; simp) rfl fun H4 h4 => ?_
    simp only [a15, hwr, ↓sxp, sxq, ↓reduceIte, Nat.reduceBEq, Nat.reduceLT, evP, evX, evR, blkOf, evA, storeA, Nat.reduceEqDiff, resL, resV, oneOrTup, Int.reduceEq, Int.reduceLT, Int.reduceLE, Int.reduceNeg, Int.reduceAdd, Int.reduceSub, Int.reduceMul, Int.reduceToNat, Nat.reduceAdd, noUnk, AV.cells, reduceCtorEq, Nat.reduceLeDiff, Cells.get, Nat.reduceMul, ↓bnd_assoc]
    exact Fin.of3 (ih (i + 1) _ _ (by omega) (by simp only [a8, ↓sxp, sxq, ↓reduceIte, Nat.reduceBEq, Nat.reduceLT, evP, evX, evR, blkOf, evA, storeA, Nat.reduceEqDiff, resL, resV, oneOrTup, Int.reduceEq, Int.reduceLT, Int.reduceLE, Int.reduceNeg, Int.reduceAdd, Int.reduceSub, Int.reduceMul, Int.reduceToNat, Nat.reduceAdd, noUnk, AV.cells, reduceCtorEq, Nat.reduceLeDiff, Cells.get, Nat.reduceMul, ↓bnd_assoc]) (by simp only [a14, ↓sxp, sxq, ↓reduceIte, Nat.reduceBEq, Nat.reduceLT, evP, evX, evR, blkOf, evA, storeA, Nat.reduceEqDiff, resL, resV, oneOrTup, Int.reduceEq, Int.reduceLT, Int.reduceLE, Int.reduceNeg, Int.reduceAdd, Int.reduceSub, Int.reduceMul, Int.reduceToNat, Nat.reduceAdd, noUnk, AV.cells, reduceCtorEq, Nat.reduceLeDiff, Cells.get, Nat.reduceMul, ↓bnd_assoc]) (by simp only [↓sxp, sxq, ↓reduceIte, Nat.reduceBEq, Nat.reduceLT, evP, evX, evR, blkOf, evA, storeA, Nat.reduceEqDiff, resL, resV, oneOrTup, Int.reduceEq, Int.reduceLT, Int.reduceLE, Int.reduceNeg, Int.reduceAdd, Int.reduceSub, Int.reduceMul, Int.reduceToNat, Nat.reduceAdd, noUnk, AV.cells, reduceCtorEq, Nat.reduceLeDiff, Cells.get, Nat.reduceMul, ↓bnd_assoc]) h4) fun lv A' H' ⟨q1, q2, q⟩ => ⟨q1, q2.trans (by simp only [↓sxp, sxq, ↓reduceIte, Nat.reduceBEq, Nat.reduceLT, evP, evX, evR, blkOf, evA, storeA, Nat.reduceEqDiff, resL, resV, oneOrTup, Int.reduceEq, Int.reduceLT, Int.reduceLE, Int.reduceNeg, Int.reduceAdd, Int.reduceSub, Int.reduceMul, Int.reduceToNat, Nat.reduceAdd, noUnk, AV.cells, reduceCtorEq, Nat.reduceLeDiff, Cells.get, Nat.reduceMul, ↓bnd_assoc]), q⟩
theorem c_dkey (hE : EnvW E) {key s ctx : List UInt8} {kv cv : AV} {jc : Nat} {Rk Rc : HP} (hk : RdLike W key kv Rk) (hc : RdLike W ctx cv Rc) (hk0 : 0 < key.length) (hk1 : key.length ≤ 128) (hs : s.length < 65) (hc0 : 0 < ctx.length) (hcl : ctx.length < 256) (h : Holds H (Rk :: blk jc [cv] 27 :: Rc :: Γ)) :
    ∃ H', go W E 23 [kv, .str s, .sl (some ⟨.own jc, 0⟩) 1 (.exact 1)] H = some (.tup [.agg (cb (keyF key s ctx)), .int .i64 0], H') ∧ Holds H' (Rk :: blk jc [cv] 27 :: Rc :: Γ) := by
  apply Ends.out
  refine (show Fin (fun r : AV × Heap => r.1 = .tup [.agg (cb (keyF key s ctx)), .int .i64 0] ∧ Holds r.2 (Rk :: blk jc [cv] 27 :: Rc :: Γ)) _ from ?_)
  have hklen := (hk h).len
  have hk2 : ¬ (key.length : Int) = 0 := by omega
  have hs2 : ¬ (64 : Int) < s.length := by omega
  have hcv : IntKind.u8.wrap (s.length : Int) = ((UInt8.ofNat s.length).toNat : Int) := wrap_u8' _
  have h2 := ((h.push (c := z32) (t := 22)).push (c := z32) (t := 22)).push (c := [.int .u8 (UInt8.ofNat s.length).toNat]) (t := 5)
  simp only [push_next] at h2
  rw [go_code hE.f23 (by simp [sf23])]
  simp only [sf23, z32_eq, z64_eq, hklen, hk2, hs2, hcv, nc1, ↓sxp, sxq, ↓reduceIte, Nat.reduceBEq, Nat.reduceLT, evP, evX, evR, blkOf, evA, storeA, Nat.reduceEqDiff, resL, resV, oneOrTup, Int.reduceEq, Int.reduceLT, Int.reduceLE, Int.reduceNeg, Int.reduceAdd, Int.reduceSub, Int.reduceMul, Int.reduceToNat, Nat.reduceAdd, noUnk, AV.cells, reduceCtorEq, Nat.reduceLeDiff, Cells.get, Nat.reduceMul, ↓bnd_assoc]
  generalize H.next = b6 at *
  refine Fin.loop (dk_loop0 (Γ := blk (b6 + 1) z32 22 :: blk b6 z32 22 :: Rk :: blk jc [cv] 27 :: Rc :: Γ) hs s.length 0 _ _ (.sl (some ⟨.own (b6 + 1 + 1), 0⟩) 1 (.exact 1)) [UInt8.ofNat s.length] (by omega) (by simp) (by simp only [↓sxp, sxq, ↓reduceIte, Nat.reduceBEq, Nat.reduceLT, evP, evX, evR, blkOf, evA, storeA, Nat.reduceEqDiff, resL, resV, oneOrTup, Int.reduceEq, Int.reduceLT, Int.reduceLE, Int.reduceNeg, Int.reduceAdd, Int.reduceSub, Int.reduceMul, Int.reduceToNat, Nat.reduceAdd, noUnk, AV.cells, reduceCtorEq, Nat.reduceLeDiff, Cells.get, Nat.reduceMul, ↓bnd_assoc]) (by simp only [↓sxp, sxq, ↓reduceIte, Nat.reduceBEq, Nat.reduceLT, evP, evX, evR, blkOf, evA, storeA, Nat.reduceEqDiff, resL, resV, oneOrTup, Int.reduceEq, Int.reduceLT, Int.reduceLE, Int.reduceNeg, Int.reduceAdd, Int.reduceSub, Int.reduceMul, Int.reduceToNat, Nat.reduceAdd, noUnk, AV.cells, reduceCtorEq, Nat.reduceLeDiff, Cells.get, Nat.reduceMul, ↓bnd_assoc]) (by simp only [↓sxp, sxq, ↓reduceIte, Nat.reduceBEq, Nat.reduceLT, evP, evX, evR, blkOf, evA, storeA, Nat.reduceEqDiff, resL, resV, oneOrTup, Int.reduceEq, Int.reduceLT, Int.reduceLE, Int.reduceNeg, Int.reduceAdd, Int.reduceSub, Int.reduceMul, Int.reduceToNat, Nat.reduceAdd, noUnk, AV.cells, reduceCtorEq, Nat.reduceLeDiff, Cells.get, Nat.reduceMul, ↓bnd_assoc]; rfl) (.inr ⟨_, by simp, by simp, h2⟩)) fun lv A H3 ⟨e1, a0, a2, a6, a8, v, a9, h3⟩ => ?_
  subst e1
  simp only [↓sxp, sxq, ↓reduceIte, Nat.reduceBEq, Nat.reduceLT, evP, evX, evR, blkOf, evA, storeA, Nat.reduceEqDiff, resL, resV, oneOrTup, Int.reduceEq, Int.reduceLT, Int.reduceLE, Int.reduceNeg, Int.reduceAdd, Int.reduceSub, Int.reduceMul, Int.reduceToNat, Nat.reduceAdd, noUnk, AV.cells, reduceCtorEq, Nat.reduceLeDiff, Cells.get, Nat.reduceMul, ↓bnd_assoc] at a0 a2 a6 a8
  have hlp : ∀ f H, run W E lp23_1 f H = run W E lp23_1 f H := fun _ _ => rfl
  conv at hlp => enter [f, H, 2]; unfold lp23_1
  obtain ⟨C, hC⟩ := h3.any
  have g1 := (hC.ord [4]).get
  have hclen := (hc (hC.ord [5])).len
  simp only [↓sxp, sxq, ↓reduceIte, Nat.reduceBEq, Nat.reduceLT, evP, evX, evR, blkOf, evA, storeA, Nat.reduceEqDiff, resL, resV, oneOrTup, Int.reduceEq, Int.reduceLT, Int.reduceLE, Int.reduceNeg, Int.reduceAdd, Int.reduceSub, Int.reduceMul, Int.reduceToNat, Nat.reduceAdd, noUnk, AV.cells, reduceCtorEq, Nat.reduceLeDiff, Cells.get, Nat.reduceMul, ↓bnd_assoc]
  rw [run_loop]
  simp only [hlp, a2, a9, nc1, ↓g1, hclen, ↓sxp, sxq, ↓reduceIte, Nat.reduceBEq, Nat.reduceLT, evP, evX, evR, blkOf, evA, storeA, Nat.reduceEqDiff, resL, resV, oneOrTup, Int.reduceEq, Int.reduceLT, Int.reduceLE, Int.reduceNeg, Int.reduceAdd, Int.reduceSub, Int.reduceMul, Int.reduceToNat, Nat.reduceAdd, noUnk, AV.cells, reduceCtorEq, Nat.reduceLeDiff, Cells.get, Nat.reduceMul, ↓bnd_assoc]
  have hb4 : ctx.length < 256 ^ 4 := Nat.lt_trans hcl (by decide)
  refine Fin.callX (fun r H' => ∃ nv, r = .tup [nv, .int .i64 0] ∧ ∃ R, RdLike W (bytesN 4 ctx.length) nv R ∧ Holds H' (R :: HP.xh ([UInt8.ofNat s.length] ++ s) v :: blk (b6 + 1) z32 22 :: blk b6 z32 22 :: Rk :: blk jc [cv] 27 :: Rc :: Γ)) (by obtain ⟨v, H', e, q⟩ := c_dput (W := W) hE (n := ctx.length) (sz := 4) (by omega) (by omega) hb4 (by omega) h3.toH; exact ⟨_, H', e, v, rfl, q⟩) fun r H4 ⟨nv, hr, R4, hR4, h4⟩ => ?_
  subst hr
  have h4' : XH H4 ([UInt8.ofNat s.length] ++ s) v (R4 :: blk (b6 + 1) z32 22 :: blk b6 z32 22 :: Rk :: blk jc [cv] 27 :: Rc :: Γ) := XH.ofH (h4.ord [1])
  simp only [List.getElem?_cons_zero, List.getElem?_cons_succ, ↓sxp, sxq, ↓reduceIte, Nat.reduceBEq, Nat.reduceLT, evP, evX, evR, blkOf, evA, storeA, Nat.reduceEqDiff, resL, resV, oneOrTup, Int.reduceEq, Int.reduceLT, Int.reduceLE, Int.reduceNeg, Int.reduceAdd, Int.reduceSub, Int.reduceMul, Int.reduceToNat, Nat.reduceAdd, noUnk, AV.cells, reduceCtorEq, Nat.reduceLeDiff, Cells.get, Nat.reduceMul, ↓bnd_assoc]
  refine Fin.xapp h4' ((hR4 h4).src) (by rw [bytesN_len]; omega) (by rw [bytesN_len]; simp; omega) fun v5 H5 h5 => ?_
  have g5 := (h5.ord [5]).get
  simp only [↓g5, ↓sxp, sxq, ↓reduceIte, Nat.reduceBEq, Nat.reduceLT, evP, evX, evR, blkOf, evA, storeA, Nat.reduceEqDiff, resL, resV, oneOrTup, Int.reduceEq, Int.reduceLT, Int.reduceLE, Int.reduceNeg, Int.reduceAdd, Int.reduceSub, Int.reduceMul, Int.reduceToNat, Nat.reduceAdd, noUnk, AV.cells, reduceCtorEq, Nat.reduceLeDiff, Cells.get, Nat.reduceMul, ↓bnd_assoc]
  refine Fin.app h5 (by omega) ((hc (h5.ord [6])).src) hc0 (by rw [cb_len, Nat.mul_one]) (cb_one ctx) (n := 1 + s.length + 4) (by rw [cb_len, Nat.mul_one]; simp [bytesN_len]; omega) (by omega) fun v6 H6 h6 => ?_
  have hmsg : cb ([UInt8.ofNat s.length] ++ s ++ bytesN 4 ctx.length) ++ cb ctx = cb (msgF s ctx) := by
    rw [← cb_app]; simp [msgF]
  rw [hmsg] at h6
  have hw1 : IntKind.i64.wrap 1 = 1 := rfl
  simp only [hw1, ↓sxp, sxq, ↓reduceIte, Nat.reduceBEq, Nat.reduceLT, evP, evX, evR, blkOf, evA, storeA, Nat.reduceEqDiff, resL, resV, oneOrTup, Int.reduceEq, Int.reduceLT, Int.reduceLE, Int.reduceNeg, Int.reduceAdd, Int.reduceSub, Int.reduceMul, Int.reduceToNat, Nat.reduceAdd, noUnk, AV.cells, reduceCtorEq, Nat.reduceLeDiff, Cells.get, Nat.reduceMul, ↓bnd_assoc]
  rw [run_loop]
  simp only [hlp, a0, a2, nc1, ↓sxp, sxq, ↓reduceIte, Nat.reduceBEq, Nat.reduceLT, evP, evX, evR, blkOf, evA, storeA, Nat.reduceEqDiff, resL, resV, oneOrTup, Int.reduceEq, Int.reduceLT, Int.reduceLE, Int.reduceNeg, Int.reduceAdd, Int.reduceSub, Int.reduceMul, Int.reduceToNat, Nat.reduceAdd, noUnk, AV.cells, reduceCtorEq, Nat.reduceLeDiff, Cells.get, Nat.reduceMul, ↓bnd_assoc]
  have hml : (msgF s ctx).length < 50000 ∧ 0 < (msgF s ctx).length := by unfold msgF; simp [bytesN_len]; omega
  have hkf : keyF key s ctx = (tagF key (msgF s ctx)).take 32 := rfl
  rw [hkf]
  generalize msgF s ctx = mm at *
  refine Fin.call (c_dtag hE hk (RdLike.row mm v6) hk1 hml.2 hml.1 (h6.ord [4])) fun H7 h7 => ?_
  have hT := tagF_len key mm
  generalize tagF key mm = T at *
  have hl64 : (cb T).length = 64 := by rw [cb_len, hT]
  have h8 := h7.push (c := z64) (t := 71)
  simp only [hl64, ↓sxp, sxq, ↓reduceIte, Nat.reduceBEq, Nat.reduceLT, evP, evX, evR, blkOf, evA, storeA, Nat.reduceEqDiff, resL, resV, oneOrTup, Int.reduceEq, Int.reduceLT, Int.reduceLE, Int.reduceNeg, Int.reduceAdd, Int.reduceSub, Int.reduceMul, Int.reduceToNat, Nat.reduceAdd, noUnk, AV.cells, reduceCtorEq, Nat.reduceLeDiff, Cells.get, Nat.reduceMul, ↓bnd_assoc]
  generalize H7.next = b14 at *
  refine Fin.write (cb T) h8 (setN_all (by rw [hl64]; rfl)) (by rw [hl64]; exact Nat.le_refl _) (cb_one T) fun H9 h9 => ?_
  refine Fin.loop (dk_loop2 (j8 := b6 + 1) (j14 := b14) hT 32 0 _ _ (by omega) (by simp only [a8, ↓sxp, sxq, ↓reduceIte, Nat.reduceBEq, Nat.reduceLT, evP, evX, evR, blkOf, evA, storeA, Nat.reduceEqDiff, resL, resV, oneOrTup, Int.reduceEq, Int.reduceLT, Int.reduceLE, Int.reduceNeg, Int.reduceAdd, Int.reduceSub, Int.reduceMul, Int.reduceToNat, Nat.reduceAdd, noUnk, AV.cells, reduceCtorEq, Nat.reduceLeDiff, Cells.get, Nat.reduceMul, ↓bnd_assoc]) (by simp only [↓sxp, sxq, ↓reduceIte, Nat.reduceBEq, Nat.reduceLT, evP, evX, evR, blkOf, evA, storeA, Nat.reduceEqDiff, resL, resV, oneOrTup, Int.reduceEq, Int.reduceLT, Int.reduceLE, Int.reduceNeg, Int.reduceAdd, Int.reduceSub, Int.reduceMul, Int.reduceToNat, Nat.reduceAdd, noUnk, AV.cells, reduceCtorEq, Nat.reduceLeDiff, Cells.get, Nat.reduceMul, ↓bnd_assoc]) (by simp only [↓sxp, sxq, ↓reduceIte, Nat.reduceBEq, Nat.reduceLT, evP, evX, evR, blkOf, evA, storeA, Nat.reduceEqDiff, resL, resV, oneOrTup, Int.reduceEq, Int.reduceLT, Int.reduceLE, Int.reduceNeg, Int.reduceAdd, Int.reduceSub, Int.reduceMul, Int.reduceToNat, Nat.reduceAdd, noUnk, AV.cells, reduceCtorEq, Nat.reduceLeDiff, Cells.get, Nat.reduceMul, ↓bnd_assoc]; rfl) (h9.ord [4])) fun lv A2 H10 ⟨e1, c6, c8, h10⟩ => ?_
  subst e1
  have c6' : getX A2 6 = .ptr (some ⟨.own b6, 0⟩) := c6.trans (by simp only [a6, ↓sxp, sxq, ↓reduceIte, Nat.reduceBEq, Nat.reduceLT, evP, evX, evR, blkOf, evA, storeA, Nat.reduceEqDiff, resL, resV, oneOrTup, Int.reduceEq, Int.reduceLT, Int.reduceLE, Int.reduceNeg, Int.reduceAdd, Int.reduceSub, Int.reduceMul, Int.reduceToNat, Nat.reduceAdd, noUnk, AV.cells, reduceCtorEq, Nat.reduceLeDiff, Cells.get, Nat.reduceMul, ↓bnd_assoc])
  have hl32 : (T.take 32).length = 32 := by rw [List.length_take, hT]; rfl
  generalize T.take 32 = O at *
  have hc32 : (cb O).length = 32 := by rw [cb_len, hl32]
  have hg32 : Cells.getN (.lst (cb O)) 0 32 = some (cb O) := by
    have := getN_all (cb O)
    rw [cb_len, hl32] at this; exact this
  have g10 := h10.get
  simp only [c6', c8, ↓g10, ↓hg32, hc32, ↓sxp, sxq, ↓reduceIte, Nat.reduceBEq, Nat.reduceLT, evP, evX, evR, blkOf, evA, storeA, Nat.reduceEqDiff, resL, resV, oneOrTup, Int.reduceEq, Int.reduceLT, Int.reduceLE, Int.reduceNeg, Int.reduceAdd, Int.reduceSub, Int.reduceMul, Int.reduceToNat, Nat.reduceAdd, noUnk, AV.cells, reduceCtorEq, Nat.reduceLeDiff, Cells.get, Nat.reduceMul, ↓bnd_assoc]
  refine Fin.write (cb O) (h10.ord [5]) (setN_all (by rw [hc32]; rfl)) (by rw [hc32]; exact Nat.le_refl _) (cb_one O) fun H11 h11 => ?_
  have g11 := h11.get
  simp only [c6', ↓g11, ↓hg32, ↓sxp, sxq, ↓reduceIte, Nat.reduceBEq, Nat.reduceLT, evP, evX, evR, blkOf, evA, storeA, Nat.reduceEqDiff, resL, resV, oneOrTup, Int.reduceEq, Int.reduceLT, Int.reduceLE, Int.reduceNeg, Int.reduceAdd, Int.reduceSub, Int.reduceMul, Int.reduceToNat, Nat.reduceAdd, noUnk, AV.cells, reduceCtorEq, Nat.reduceLeDiff, Cells.get, Nat.reduceMul, ↓bnd_assoc]
  exact Fin.ret ⟨rfl, ((h11.tail.tail.tail).rm 1).rm 1⟩
end
end Go.Proofs.YtjfnhdiimibmiaaDoor.Sx

/- Tags, the program's. -/
namespace Go.Proofs.YtjfnhdiimibmiaaDoor.Sx
open HP
abbrev sv (ps : List (List UInt8 × AV)) : List AV := ps.map Prod.snd
section
variable {W : World} {E : Env} {H : Heap} {Γ : List HP}
theorem Holds.pick {Rs : List HP} (h : Holds H (Rs ++ Γ)) (i : Nat) (hi : i < Rs.length) : ∃ Δ, Holds H (Rs[i] :: Δ) := by
  have := h.fr i (by rw [List.length_append]; omega)
  rw [List.getElem_append_left hi] at this
  exact ⟨_, this⟩
theorem PsLike.row {ps : List (List UInt8 × AV)} {v : AV} {Rs : List HP} (h0 : 0 < ps.length) (hl : Rs.length = ps.length) (hr : ∀ i (hi : i < ps.length), RdLike W ps[i].1 ps[i].2 (Rs[i]'(by omega))) : PsLike W ps v (HP.all (HP.row 27 1 (sv ps) v :: Rs)) := fun {H Γ} h => by
  have h1 : Holds H (HP.row 27 1 (sv ps) v :: (Rs ++ Γ)) := h.opn
  obtain ⟨j, l, c, rfl, hg⟩ := h1.row_get (by omega) (n := ps.length) (by rw [List.length_map, Nat.mul_one]) h0
  refine ⟨rfl, fun i hi => ⟨⟨_, by simp only [iaddrV]; rw [if_pos (by omega)], ?_⟩, ?_⟩⟩
  · simp only [loadV, blkOf, hg, Cells.get, Int.toNat_natCast, Nat.mul_one, Nat.zero_add]
    rw [List.getElem?_map, List.getElem?_eq_getElem hi]; rfl
  · obtain ⟨Δ, h2⟩ := h1.tail.pick i (by omega)
    exact hr i hi h2
theorem PsLike.blk {ps : List (List UInt8 × AV)} {j n : Nat} {Rs : List HP} (hn : ps.length = n) (hl : Rs.length = ps.length) (hr : ∀ i (hi : i < ps.length), RdLike W ps[i].1 ps[i].2 (Rs[i]'(by omega))) : PsLike W ps (.sl (some ⟨.own j, 0⟩) n (.exact n)) (HP.all (HP.blk j (sv ps) 27 :: Rs)) := fun {H Γ} h => by
  have h1 : Holds H (HP.blk j (sv ps) 27 :: (Rs ++ Γ)) := h.opn
  subst hn
  refine ⟨rfl, fun i hi => ⟨⟨_, by simp only [iaddrV]; rw [if_pos (by omega)], ?_⟩, ?_⟩⟩
  · simp only [loadV, blkOf, h1.get, Cells.get, Int.toNat_natCast, Nat.mul_one, Nat.zero_add]
    rw [List.getElem?_map, List.getElem?_eq_getElem hi]; rfl
  · obtain ⟨Δ, h2⟩ := h1.tail.pick i (by omega)
    exact hr i hi h2
theorem c_tag (hE : EnvW E) {key : List UInt8} {kv pv : AV} {Rk : HP} {ps : List (List UInt8 × AV)} {Rs : List HP} (hk : RdLike W key kv Rk) (hl : Rs.length = ps.length) (hr : ∀ i (hi : i < ps.length), RdLike W ps[i].1 ps[i].2 (Rs[i]'(by omega))) (hp0 : 0 < ps.length) (hpl : ps.length < 100) (hone : (sv ps).all oneC = true) (hk0 : 0 < key.length) (h1 : key.length ≤ 128) (hml : (flat ps).length < 50000) (h : Holds H (Rk :: row 27 1 (sv ps) pv :: HP.all Rs :: Γ)) :
    ∃ H', go W E 33 [kv, pv] H = some (.agg (cb (tagF key (flat ps))), H') ∧ Holds H' (Rk :: row 27 1 (sv ps) pv :: HP.all Rs :: Γ) := by
  apply Ends.out
  refine (show Fin (fun r : AV × Heap => r.1 = .agg (cb (tagF key (flat ps))) ∧ Holds r.2 (Rk :: row 27 1 (sv ps) pv :: HP.all Rs :: Γ)) _ from ?_)
  have h2 := h.push (c := z64) (t := 71)
  have htag : tagF key (flat ps) = sumF (padK key 92 ++ sumF (padK key 54 ++ flat ps)) := rfl
  have pl54 := padK_len key 54 h1
  have pl92 := padK_len key 92 h1
  rw [htag]
  rw [go_code hE.f33 (by simp [sf33])]
  simp only [sf33, z64_eq, ↓sxp, sxq, ↓reduceIte, Nat.reduceBEq, Nat.reduceLT, evP, evX, evR, blkOf, evA, storeA, Nat.reduceEqDiff, resL, resV, oneOrTup, Int.reduceEq, Int.reduceLT, Int.reduceLE, Int.reduceNeg, Int.reduceAdd, Int.reduceSub, Int.reduceMul, Int.reduceToNat, Nat.reduceAdd, noUnk, AV.cells, reduceCtorEq, Nat.reduceLeDiff, Cells.get, Nat.reduceMul, ↓bnd_assoc]
  generalize H.next = b4 at *
  refine Fin.callE (fun j : Nat => .sl (some ⟨.own j, 0⟩) 128 (.exact 128)) (fun j => blk j (cb (padK key 54)) 5 :: Rk :: blk b4 z64 71 :: row 27 1 (sv ps) pv :: HP.all Rs :: Γ) (c_xpad hE (b := 54) hk hk0 h1 (h2.ord [1])) fun j7 H3 h3 => ?_
  have h4 := h3.push (c := [.sl (some ⟨.own j7, 0⟩) 128 (.exact 128)]) (t := 27)
  have hsrc := (h4.ord [4]).row_src (W := W) (by omega) (n := ps.length) (by rw [List.length_map, Nat.mul_one]) hp0
  simp only [↓sxp, sxq, ↓reduceIte, Nat.reduceBEq, Nat.reduceLT, evP, evX, evR, blkOf, evA, storeA, Nat.reduceEqDiff, resL, resV, oneOrTup, Int.reduceEq, Int.reduceLT, Int.reduceLE, Int.reduceNeg, Int.reduceAdd, Int.reduceSub, Int.reduceMul, Int.reduceToNat, Nat.reduceAdd, noUnk, AV.cells, reduceCtorEq, Nat.reduceLeDiff, Cells.get, Nat.reduceMul, ↓bnd_assoc]
  generalize H3.next = j8 at *
  obtain ⟨v10, H5, e5, h5⟩ := h4.xadd (W := W) (ty := 27) (bytes := 24) (n := 1) (k := ps.length) (new := sv ps) rfl (by omega) hp0 (List.length_map ..) (by rw [List.all_append, hone]; rfl) (by omega)
  have e5' : appA W (H3.push (.cells (.lst [.sl (some ⟨.own j7, 0⟩) 128 (.exact 128)]) 27 none)) 27 1 24 false (.sl (some ⟨.own j8, 0⟩) 1 (.exact 1)) pv = some (v10, H5) := by
    simp only [appA, hsrc]; exact e5
  simp only [↓e5', ↓sxp, sxq, ↓reduceIte, Nat.reduceBEq, Nat.reduceLT, evP, evX, evR, blkOf, evA, storeA, Nat.reduceEqDiff, resL, resV, oneOrTup, Int.reduceEq, Int.reduceLT, Int.reduceLE, Int.reduceNeg, Int.reduceAdd, Int.reduceSub, Int.reduceMul, Int.reduceToNat, Nat.reduceAdd, noUnk, AV.cells, reduceCtorEq, Nat.reduceLeDiff, Cells.get, Nat.reduceMul, ↓bnd_assoc]
  have hps : PsLike W ((padK key 54, .sl (some ⟨.own j7, 0⟩) 128 (.exact 128)) :: ps) v10 (HP.all (row 27 1 (sv ((padK key 54, .sl (some ⟨.own j7, 0⟩) 128 (.exact 128)) :: ps)) v10 :: blk j7 (cb (padK key 54)) 5 :: Rs)) :=
    PsLike.row (by simp) (by simp [hl]) (fun i hi => by
      cases i with
      | zero => exact RdLike.exb _ _ _ pl54 5
      | succ i => exact hr i (by simpa using hi))
  have hfl : flat ((padK key 54, .sl (some ⟨.own j7, 0⟩) 128 (.exact 128)) :: ps) = padK key 54 ++ flat ps := by unfold flat; rw [List.flatMap_cons]
  have h6 : Holds H5 (HP.all (row 27 1 (sv ((padK key 54, .sl (some ⟨.own j7, 0⟩) 128 (.exact 128)) :: ps)) v10 :: blk j7 (cb (padK key 54)) 5 :: Rs) :: blk j8 [.sl (some ⟨.own j7, 0⟩) 128 (.exact 128)] 27 :: Rk :: blk b4 z64 71 :: row 27 1 (sv ps) pv :: Γ) := by
    have := (h5.ord [2, 5]).sep'.ord [1, 0]
    exact this.sep'
  refine Fin.call (c_sum hE.toEnvS hps (by rw [hfl, List.length_append]; omega) (by simp; omega) h6) fun H7 h7 => ?_
  rw [hfl]
  have hT := sumF_len (padK key 54 ++ flat ps)
  generalize sumF (padK key 54 ++ flat ps) = T at *
  have hl64 : (cb T).length = 64 := by rw [cb_len, hT]
  have h8 := h7.push (c := z64) (t := 71)
  simp only [hl64, ↓sxp, sxq, ↓reduceIte, Nat.reduceBEq, Nat.reduceLT, evP, evX, evR, blkOf, evA, storeA, Nat.reduceEqDiff, resL, resV, oneOrTup, Int.reduceEq, Int.reduceLT, Int.reduceLE, Int.reduceNeg, Int.reduceAdd, Int.reduceSub, Int.reduceMul, Int.reduceToNat, Nat.reduceAdd, noUnk, AV.cells, reduceCtorEq, Nat.reduceLeDiff, Cells.get, Nat.reduceMul, ↓bnd_assoc]
  generalize H7.next = b5 at *
  refine Fin.write (cb T) h8 (setN_all (by rw [hl64]; rfl)) (by rw [hl64]; exact Nat.le_refl _) (cb_one T) fun H9 h9 => ?_
  have b64 := fun A => bndN A 64
  have h10 := (h9.bump1 6 3).ord [4]
  refine Fin.callE (fun j : Nat => .sl (some ⟨.own j, 0⟩) 128 (.exact 128)) (fun j => blk j (cb (padK key 92)) 5 :: Rk :: resv (H9.next + 3) :: blk b5 (cb T) 71 :: HP.all (row 27 1 (sv ((padK key 54, .sl (some ⟨.own j7, 0⟩) 128 (.exact 128)) :: ps)) v10 :: blk j7 (cb (padK key 54)) 5 :: Rs) :: blk j8 [.sl (some ⟨.own j7, 0⟩) 128 (.exact 128)] 27 :: blk b4 z64 71 :: row 27 1 (sv ps) pv :: Γ) (c_xpad hE (b := 92) hk hk0 h1 h10) fun jn H11 h11 => ?_
  have hz2 : zerosL [AV.sl none 0 (Cap.exact 0)] 2 = [AV.sl none 0 (Cap.exact 0), AV.sl none 0 (Cap.exact 0)] := rfl
  have h12 := ((h11.ord [2]).lay (c := [.sl (some ⟨.own jn, 0⟩) 128 (.exact 128), .sl (some ⟨.own b5, 0⟩) 64 (.exact 64)]) (t := 27)).ord [0, 0, 1]
  simp only [↓b64, Nat.sub_zero, hz2, ↓sxp, sxq, ↓reduceIte, Nat.reduceBEq, Nat.reduceLT, evP, evX, evR, blkOf, evA, storeA, Nat.reduceEqDiff, resL, resV, oneOrTup, Int.reduceEq, Int.reduceLT, Int.reduceLE, Int.reduceNeg, Int.reduceAdd, Int.reduceSub, Int.reduceMul, Int.reduceToNat, Nat.reduceAdd, noUnk, AV.cells, reduceCtorEq, Nat.reduceLeDiff, Cells.get, Nat.reduceMul, ↓bnd_assoc]
  generalize H9.next + 3 = b15 at *
  have hps2 : PsLike W [(padK key 92, AV.sl (some ⟨.own jn, 0⟩) 128 (.exact 128)), (T, AV.sl (some ⟨.own b5, 0⟩) 64 (.exact 64))] (.sl (some ⟨.own b15, 0⟩) 2 (.exact 2)) (HP.all (blk b15 (sv [(padK key 92, AV.sl (some ⟨.own jn, 0⟩) 128 (.exact 128)), (T, AV.sl (some ⟨.own b5, 0⟩) 64 (.exact 64))]) 27 :: [blk jn (cb (padK key 92)) 5, blk b5 (cb T) 71])) :=
    PsLike.blk rfl rfl (fun i hi => by
      match i, hi with
      | 0, _ => exact @RdLike.exb W (padK key 92) jn 128 pl92 5
      | 1, _ => exact @RdLike.exb W T b5 64 hT 71)
  have hfl2 : flat [(padK key 92, AV.sl (some ⟨.own jn, 0⟩) 128 (.exact 128)), (T, AV.sl (some ⟨.own b5, 0⟩) 64 (.exact 64))] = padK key 92 ++ T := by simp [flat]
  refine Fin.call (c_sum hE.toEnvS hps2 (by rw [hfl2, List.length_append]; omega) (by simp) (Holds.cls [_, _, _] h12)) fun H13 h13 => ?_
  rw [hfl2]
  have hT2 := sumF_len (padK key 92 ++ T)
  generalize sumF (padK key 92 ++ T) = T2 at *
  have hl2 : (cb T2).length = 64 := by rw [cb_len, hT2]
  have hg2 : Cells.getN (.lst (cb T2)) 0 64 = some (cb T2) := by
    have := getN_all (cb T2)
    rw [cb_len, hT2] at this; exact this
  simp only [hl2, ↓sxp, sxq, ↓reduceIte, Nat.reduceBEq, Nat.reduceLT, evP, evX, evR, blkOf, evA, storeA, Nat.reduceEqDiff, resL, resV, oneOrTup, Int.reduceEq, Int.reduceLT, Int.reduceLE, Int.reduceNeg, Int.reduceAdd, Int.reduceSub, Int.reduceMul, Int.reduceToNat, Nat.reduceAdd, noUnk, AV.cells, reduceCtorEq, Nat.reduceLeDiff, Cells.get, Nat.reduceMul, ↓bnd_assoc]
  refine Fin.write (cb T2) (h13.ord [4]) (setN_all (by rw [hl2]; rfl)) (by rw [hl2]; exact Nat.le_refl _) (cb_one T2) fun H14 h14 => ?_
  have g14 := h14.get
  simp only [↓g14, ↓hg2, ↓sxp, sxq, ↓reduceIte, Nat.reduceBEq, Nat.reduceLT, evP, evX, evR, blkOf, evA, storeA, Nat.reduceEqDiff, resL, resV, oneOrTup, Int.reduceEq, Int.reduceLT, Int.reduceLE, Int.reduceNeg, Int.reduceAdd, Int.reduceSub, Int.reduceMul, Int.reduceToNat, Nat.reduceAdd, noUnk, AV.cells, reduceCtorEq, Nat.reduceLeDiff, Cells.get, Nat.reduceMul, ↓bnd_assoc]
  have h15 := ((((((h14.ord [3]).sep.tail.sep).tail).ord [3, 4, 0]).rm 3).rm 3).rm 3
  exact Fin.ret ⟨rfl, h15⟩
end
end Go.Proofs.YtjfnhdiimibmiaaDoor.Sx

/- Keys, the program's. -/
namespace Go.Proofs.YtjfnhdiimibmiaaDoor.Sx
open HP
section
variable {W : World} {E : Env} {H : Heap} {Γ : List HP}
theorem Rd.one {bs : List UInt8} {v : AV} (h : Rd W H bs v) : v.cells = [v] ∧ noUnk v = true ∧ oneC v = true := by
  cases h <;> exact ⟨rfl, rfl, rfl⟩
theorem Holds.s2b {s : List UInt8} (h : Holds H Γ) (h0 : 0 < s.length) (hl : s.length < 65536) : Holds (H.push (.cells (.lst (cb s)) 5 (some H.next))) (row 5 1 (cb s) (.sl (some ⟨.own H.next, 0⟩) s.length (.opn 1)) :: Γ) := by
  obtain ⟨v', H', e, h'⟩ := (h.row_nil (ty := 5) (es := 1)).addN (W := default) (bytes := 1) (k := s.length) (new := cb s) (n := 0) (by omega) h0 (by rw [cb_len, Nat.mul_one]) (cb_one s) rfl (by omega)
  simp only [appN] at e
  rw [if_pos ⟨trivial, trivial⟩, if_neg (by omega)] at e
  simp only [appNew] at e
  rw [if_pos (by omega)] at e
  cases e
  rw [List.nil_append] at h'
  exact h'
theorem c_contains (hE : EnvW E) {ctx : List UInt8} {cv : AV} {jc : Nat} (g : H.get jc = some (.cells (.lst [cv]) 27 none)) (hc : lenV cv = some (.int .i64 ctx.length)) (hl : ctx.length < 256) :
    go W E 32 [.sl (some ⟨.own jc, 0⟩) 1 (.exact 1), .fn 31 [] []] H = some (.bool false, H) := by
  have b1 : ¬ (1048576 : Int) < ctx.length := by omega
  have e31 : ∀ H, go W E 31 [cv] H = some (.bool false, H) := fun H => by
    rw [go_code hE.f31 (by simp [sf31])]
    simp only [sf31, hc, b1, ↓sxp, sxq, ↓reduceIte, Nat.reduceBEq, Nat.reduceLT, evP, evX, evR, blkOf, evA, storeA, Nat.reduceEqDiff, resL, resV, oneOrTup, Int.reduceEq, Int.reduceLT, Int.reduceLE, Int.reduceNeg, Int.reduceAdd, Int.reduceSub, Int.reduceMul, Int.reduceToNat, Nat.reduceAdd, noUnk, AV.cells, reduceCtorEq, Nat.reduceLeDiff, Cells.get, Nat.reduceMul, ↓bnd_assoc]
  have hlp : ∀ f H, run W E lp48_0 f H = run W E lp48_0 f H := fun _ _ => rfl
  conv at hlp => enter [f, H, 2]; unfold lp48_0
  have hw1 : IntKind.i64.wrap 1 = 1 := rfl
  have e48 : go W E 48 [.sl (some ⟨.own jc, 0⟩) 1 (.exact 1), .fn 31 [] []] H = some (.int .i64 (-1), H) := by
    rw [go_code hE.f48 (by simp [sf48])]
    simp only [sf48, nc1, ↓sxp, sxq, ↓reduceIte, Nat.reduceBEq, Nat.reduceLT, evP, evX, evR, blkOf, evA, storeA, Nat.reduceEqDiff, resL, resV, oneOrTup, Int.reduceEq, Int.reduceLT, Int.reduceLE, Int.reduceNeg, Int.reduceAdd, Int.reduceSub, Int.reduceMul, Int.reduceToNat, Nat.reduceAdd, noUnk, AV.cells, reduceCtorEq, Nat.reduceLeDiff, Cells.get, Nat.reduceMul, ↓bnd_assoc]
    rw [run_loop]
    simp only [hlp, nc1, ↓g, ↓stepK_v, e31, hw1, ↓sxp, sxq, ↓reduceIte, Nat.reduceBEq, Nat.reduceLT, evP, evX, evR, blkOf, evA, storeA, Nat.reduceEqDiff, resL, resV, oneOrTup, Int.reduceEq, Int.reduceLT, Int.reduceLE, Int.reduceNeg, Int.reduceAdd, Int.reduceSub, Int.reduceMul, Int.reduceToNat, Nat.reduceAdd, noUnk, AV.cells, reduceCtorEq, Nat.reduceLeDiff, Cells.get, Nat.reduceMul, ↓bnd_assoc]
    rw [run_loop]
    simp only [hlp, nc1, ↓sxp, sxq, ↓reduceIte, Nat.reduceBEq, Nat.reduceLT, evP, evX, evR, blkOf, evA, storeA, Nat.reduceEqDiff, resL, resV, oneOrTup, Int.reduceEq, Int.reduceLT, Int.reduceLE, Int.reduceNeg, Int.reduceAdd, Int.reduceSub, Int.reduceMul, Int.reduceToNat, Nat.reduceAdd, noUnk, AV.cells, reduceCtorEq, Nat.reduceLeDiff, Cells.get, Nat.reduceMul, ↓bnd_assoc]
  rw [go_code hE.f32 (by simp [sf32])]
  simp only [sf32, e48, ↓sxp, sxq, ↓reduceIte, Nat.reduceBEq, Nat.reduceLT, evP, evX, evR, blkOf, evA, storeA, Nat.reduceEqDiff, resL, resV, oneOrTup, Int.reduceEq, Int.reduceLT, Int.reduceLE, Int.reduceNeg, Int.reduceAdd, Int.reduceSub, Int.reduceMul, Int.reduceToNat, Nat.reduceAdd, noUnk, AV.cells, reduceCtorEq, Nat.reduceLeDiff, Cells.get, Nat.reduceMul, ↓bnd_assoc]
theorem c_key (hE : EnvW E) {key s ctx : List UInt8} {kv cv : AV} {jc : Nat} {Rk Rc : HP} (hk : RdLike W key kv Rk) (hc : RdLike W ctx cv Rc) (hk0 : 0 < key.length) (hk1 : key.length ≤ 128) (hs0 : 0 < s.length) (hs : s.length < 65) (hc0 : 0 < ctx.length) (hcl : ctx.length < 256) (h : Holds H (Rk :: blk jc [cv] 27 :: Rc :: Γ)) :
    ∃ H', go W E 18 [kv, .str s, .sl (some ⟨.own jc, 0⟩) 1 (.exact 1)] H = some (.tup [.agg (cb (keyF key s ctx)), .int .i64 0], H') ∧ Holds H' (Rk :: blk jc [cv] 27 :: Rc :: Γ) := by
  apply Ends.out
  refine (show Fin (fun r : AV × Heap => r.1 = .tup [.agg (cb (keyF key s ctx)), .int .i64 0] ∧ Holds r.2 (Rk :: blk jc [cv] 27 :: Rc :: Γ)) _ from ?_)
  have hklen := (hk h).len
  have hclen := (hc (h.ord [2])).len
  have hcone := (hc (h.ord [2])).one
  have hk2 : ¬ (key.length : Int) = 0 := by omega
  have hs2 : ¬ (64 : Int) < s.length := by omega
  have hs3 : s.length < 140737488355328 := by omega
  have hcv : IntKind.u8.wrap (s.length : Int) = ((UInt8.ofNat s.length).toNat : Int) := wrap_u8' _
  have h2 := h.push (c := z32) (t := 22)
  have g2 := (h2.ord [2]).get
  have ec := c_contains (W := W) hE g2 hclen hcl
  have h3 := h2.push (c := [.int .u8 (UInt8.ofNat s.length).toNat]) (t := 5)
  have h4 := h3.s2b hs0 (by omega)
  have hz2 : zerosL [AV.sl none 0 (Cap.exact 0)] 2 = [AV.sl none 0 (Cap.exact 0), AV.sl none 0 (Cap.exact 0)] := rfl
  have hlp : ∀ f H, run W E lp18_0 f H = run W E lp18_0 f H := fun _ _ => rfl
  conv at hlp => enter [f, H, 2]; unfold lp18_0
  rw [go_code hE.f18 (by simp [sf18])]
  simp only [sf18, z32_eq, z64_eq, hklen, hk2, hs2, hcv, nc1, evX, ↓ec, hs3, hz2, ↓sxp, sxq, ↓reduceIte, Nat.reduceBEq, Nat.reduceLT, evP, evX, evR, blkOf, evA, storeA, Nat.reduceEqDiff, resL, resV, oneOrTup, Int.reduceEq, Int.reduceLT, Int.reduceLE, Int.reduceNeg, Int.reduceAdd, Int.reduceSub, Int.reduceMul, Int.reduceToNat, Nat.reduceAdd, noUnk, AV.cells, reduceCtorEq, Nat.reduceLeDiff, Cells.get, Nat.reduceMul, ↓bnd_assoc]
  have h5 := h4.push (c := [.sl (some ⟨.own (H.next + 1), 0⟩) 1 (.exact 1), .sl (some ⟨.own (H.next + 1 + 1), 0⟩) s.length (.opn 1)]) (t := 27)
  simp only [push_next] at h5
  rw [run_loop]
  have g5 := (h5.ord [5]).get
  simp only [hlp, nc1, ↓g5, hclen, ↓sxp, sxq, ↓reduceIte, Nat.reduceBEq, Nat.reduceLT, evP, evX, evR, blkOf, evA, storeA, Nat.reduceEqDiff, resL, resV, oneOrTup, Int.reduceEq, Int.reduceLT, Int.reduceLE, Int.reduceNeg, Int.reduceAdd, Int.reduceSub, Int.reduceMul, Int.reduceToNat, Nat.reduceAdd, noUnk, AV.cells, reduceCtorEq, Nat.reduceLeDiff, Cells.get, Nat.reduceMul, ↓bnd_assoc]
  generalize H.next = b6 at *
  have hb4 : ctx.length < 256 ^ 4 := Nat.lt_trans hcl (by decide)
  refine Fin.callE (fun nv : AV => .tup [nv, .int .i64 0]) (fun nv => row 5 1 (cb (bytesN 4 ctx.length)) nv :: blk (b6 + 1 + 1 + 1) [.sl (some ⟨.own (b6 + 1), 0⟩) 1 (.exact 1), .sl (some ⟨.own (b6 + 1 + 1), 0⟩) s.length (.opn 1)] 27 :: row 5 1 (cb s) (.sl (some ⟨.own (b6 + 1 + 1), 0⟩) s.length (.opn 1)) :: blk (b6 + 1) [.int .u8 (UInt8.ofNat s.length).toNat] 5 :: blk b6 z32 22 :: Rk :: blk jc [cv] 27 :: Rc :: Γ) (c_put (W := W) hE (n := ctx.length) (sz := 4) (by omega) (by omega) hb4 (by omega) h5) fun nv H6 h6 => ?_
  have hnone := ((RdLike.row (W := W) _ nv) h6).one.2.2
  have hc1 := hcone.2.2
  have h7 := h6.push (c := [nv, cv]) (t := 27)
  have hone4 : [AV.sl (some ⟨.own (b6 + 1), 0⟩) 1 (.exact 1), .sl (some ⟨.own (b6 + 1 + 1), 0⟩) s.length (.opn 1), nv, cv].all oneC = true := by
    simp only [List.all_cons, List.all_nil, hnone, hc1, oneC_sl, Bool.and_self]
  obtain ⟨v9, H8, e8, h8⟩ := (h7.ord [2]).xadd (W := W) (ty := 27) (bytes := 24) (n := 2) (k := 2) (new := [nv, cv]) rfl (by omega) (by omega) rfl hone4 (by omega)
  have e8' : appA W (H6.push (.cells (.lst [nv, cv]) 27 none)) 27 1 24 false (.sl (some ⟨.own (b6 + 1 + 1 + 1), 0⟩) 2 (.exact 2)) (.sl (some ⟨.own H6.next, 0⟩) 2 (.exact 2)) = some (v9, H8) := by
    have g7 := h7.get
    have hs7 : srcA W (H6.push (.cells (.lst [nv, cv]) 27 none)) 1 false (.sl (some ⟨.own H6.next, 0⟩) 2 (.exact 2)) = some (2, [nv, cv]) := by
      simp only [srcA, blkOf, g7]; rfl
    simp only [appA, hs7]; exact e8
  have hw1 : IntKind.i64.wrap 1 = 1 := rfl
  simp only [hz2, hnone, hc1, ↓e8', hw1, ↓sxp, sxq, ↓reduceIte, Nat.reduceBEq, Nat.reduceLT, evP, evX, evR, blkOf, evA, storeA, Nat.reduceEqDiff, resL, resV, oneOrTup, Int.reduceEq, Int.reduceLT, Int.reduceLE, Int.reduceNeg, Int.reduceAdd, Int.reduceSub, Int.reduceMul, Int.reduceToNat, Nat.reduceAdd, noUnk, AV.cells, reduceCtorEq, Nat.reduceLeDiff, Cells.get, Nat.reduceMul, ↓bnd_assoc]
  rw [run_loop]
  simp only [hlp, nc1, z64_eq, ↓sxp, sxq, ↓reduceIte, Nat.reduceBEq, Nat.reduceLT, evP, evX, evR, blkOf, evA, storeA, Nat.reduceEqDiff, resL, resV, oneOrTup, Int.reduceEq, Int.reduceLT, Int.reduceLE, Int.reduceNeg, Int.reduceAdd, Int.reduceSub, Int.reduceMul, Int.reduceToNat, Nat.reduceAdd, noUnk, AV.cells, reduceCtorEq, Nat.reduceLeDiff, Cells.get, Nat.reduceMul, ↓bnd_assoc]
  have hfl : flat [([UInt8.ofNat s.length], AV.sl (some ⟨.own (b6 + 1), 0⟩) 1 (.exact 1)), (s, .sl (some ⟨.own (b6 + 1 + 1), 0⟩) s.length (.opn 1)), (bytesN 4 ctx.length, nv), (ctx, cv)] = msgF s ctx := by simp [flat, msgF]
  have h9 : Holds H8 (Rk :: row 27 1 (sv [([UInt8.ofNat s.length], AV.sl (some ⟨.own (b6 + 1), 0⟩) 1 (.exact 1)), (s, .sl (some ⟨.own (b6 + 1 + 1), 0⟩) s.length (.opn 1)), (bytesN 4 ctx.length, nv), (ctx, cv)]) v9 :: HP.all [blk (b6 + 1) (cb [UInt8.ofNat s.length]) 5, row 5 1 (cb s) (.sl (some ⟨.own (b6 + 1 + 1), 0⟩) s.length (.opn 1)), row 5 1 (cb (bytesN 4 ctx.length)) nv, Rc] :: blk b6 z32 22 :: blk jc [cv] 27 :: Γ) := by
    have := ((((Holds.cls [_, _, _, _] (h8.ord [5, 4, 3, 6])).ord [5, 1, 0]).rm 3).rm 3)
    exact this
  have hkf : keyF key s ctx = (tagF key (msgF s ctx)).take 32 := rfl
  have hml : (msgF s ctx).length < 50000 := by unfold msgF; simp [bytesN_len]; omega
  rw [← hfl] at hml hkf
  refine Fin.call (c_tag (ps := [([UInt8.ofNat s.length], AV.sl (some ⟨.own (b6 + 1), 0⟩) 1 (.exact 1)), (s, .sl (some ⟨.own (b6 + 1 + 1), 0⟩) s.length (.opn 1)), (bytesN 4 ctx.length, nv), (ctx, cv)]) hE hk rfl (fun i hi => by
      match i, hi with
      | 0, _ => exact @RdLike.exb W [UInt8.ofNat s.length] (b6 + 1) 1 rfl 5
      | 1, _ => exact @RdLike.row W s _
      | 2, _ => exact @RdLike.row W _ nv
      | 3, _ => exact @hc) (by simp) (by simp) (by exact hone4) hk0 hk1 hml h9) fun H10 h10 => ?_
  rw [hkf]
  have hT := tagF_len key (flat [([UInt8.ofNat s.length], AV.sl (some ⟨.own (b6 + 1), 0⟩) 1 (.exact 1)), (s, .sl (some ⟨.own (b6 + 1 + 1), 0⟩) s.length (.opn 1)), (bytesN 4 ctx.length, nv), (ctx, cv)])
  generalize tagF key (flat [([UInt8.ofNat s.length], AV.sl (some ⟨.own (b6 + 1), 0⟩) 1 (.exact 1)), (s, .sl (some ⟨.own (b6 + 1 + 1), 0⟩) s.length (.opn 1)), (bytesN 4 ctx.length, nv), (ctx, cv)]) = T at *
  have hl64 : (cb T).length = 64 := by rw [cb_len, hT]
  have h11 := h10.push (c := z64) (t := 71)
  have hb32 : ∀ A : Tm, bounds A 64 64 none (some (.c (.int .i64 32))) none = some (0, 32, 64) := fun _ => rfl
  simp only [hl64, ↓hb32, ↓sxp, sxq, ↓reduceIte, Nat.reduceBEq, Nat.reduceLT, evP, evX, evR, blkOf, evA, storeA, Nat.reduceEqDiff, resL, resV, oneOrTup, Int.reduceEq, Int.reduceLT, Int.reduceLE, Int.reduceNeg, Int.reduceAdd, Int.reduceSub, Int.reduceMul, Int.reduceToNat, Nat.reduceAdd, noUnk, AV.cells, reduceCtorEq, Nat.reduceLeDiff, Cells.get, Nat.reduceMul, ↓bnd_assoc]
  generalize H10.next = b14 at *
  refine Fin.write (cb T) h11 (setN_all (by rw [hl64]; rfl)) (by rw [hl64]; exact Nat.le_refl _) (cb_one T) fun H12 h12 => ?_
  have g12 := h12.get
  have hgT : Cells.getN (.lst (cb T)) 0 32 = some (cb (T.take 32)) := by
    have := getN_all (cb T)
    have := getN_sub 0 32 this (by rw [hl64]; omega)
    rw [cb_sub] at this
    simpa using this
  have hl32 : (T.take 32).length = 32 := by rw [List.length_take, hT]; rfl
  generalize T.take 32 = O at *
  have hc32 : (cb O).length = 32 := by rw [cb_len, hl32]
  have hg32 : Cells.getN (.lst (cb O)) 0 32 = some (cb O) := by
    have := getN_all (cb O)
    rw [cb_len, hl32] at this; exact this
  simp only [↓g12, ↓hgT, hc32, Nat.sub_zero, ↓sxp, sxq, ↓reduceIte, Nat.reduceBEq, Nat.reduceLT, evP, evX, evR, blkOf, evA, storeA, Nat.reduceEqDiff, resL, resV, oneOrTup, Int.reduceEq, Int.reduceLT, Int.reduceLE, Int.reduceNeg, Int.reduceAdd, Int.reduceSub, Int.reduceMul, Int.reduceToNat, Nat.reduceAdd, noUnk, AV.cells, reduceCtorEq, Nat.reduceLeDiff, Cells.get, Nat.reduceMul, ↓bnd_assoc]
  refine Fin.write (cb O) (h12.ord [4]) (setN_all (by rw [hc32]; rfl)) (by rw [hc32]; exact Nat.le_refl _) (cb_one O) fun H13 h13 => ?_
  have g13 := h13.get
  simp only [↓g13, ↓hg32, ↓sxp, sxq, ↓reduceIte, Nat.reduceBEq, Nat.reduceLT, evP, evX, evR, blkOf, evA, storeA, Nat.reduceEqDiff, resL, resV, oneOrTup, Int.reduceEq, Int.reduceLT, Int.reduceLE, Int.reduceNeg, Int.reduceAdd, Int.reduceSub, Int.reduceMul, Int.reduceToNat, Nat.reduceAdd, noUnk, AV.cells, reduceCtorEq, Nat.reduceLeDiff, Cells.get, Nat.reduceMul, ↓bnd_assoc]
  have h14 := (Holds.opn (l := [blk (b6 + 1) (cb [UInt8.ofNat s.length]) 5, row 5 1 (cb s) (.sl (some ⟨.own (b6 + 1 + 1), 0⟩) s.length (.opn 1)), row 5 1 (cb (bytesN 4 ctx.length)) nv, Rc]) ((h13.tail.tail).ord [2])).tail.tail.tail
  exact Fin.ret ⟨rfl, (h14.ord [1, 2, 0]).rm 3⟩
end
end Go.Proofs.YtjfnhdiimibmiaaDoor.Sx

/- Lots. -/
namespace Go.Proofs.YtjfnhdiimibmiaaDoor.Sx
open HP
def lotF (seed : List UInt8) (i : Nat) : List UInt8 := keyF seed [108, 111, 116] (bytesN 8 i)
theorem lotF_len (seed : List UInt8) (i : Nat) : (lotF seed i).length = 32 := keyF_len _ _ _
section
variable {W : World} {E : Env} {H : Heap} {Γ : List HP}
theorem getN_cb {L : List UInt8} {n : Nat} (h : L.length = n) : Cells.getN (.lst (cb L)) 0 n = some (cb L) := by
  have := getN_all (cb L)
  rw [cb_len, h] at this; exact this
theorem c_lot (hE : EnvW E) {seed : List UInt8} {i : Nat} (hs : seed.length = 32) (hi : i ≤ 1024) (h : Holds H Γ) :
    ∃ H', go W E 6 [.agg (cb seed), .int .i64 (i : Int)] H = some (.tup [.agg (cb (lotF seed i)), .int .i64 0], H') ∧ Holds H' Γ := by
  apply Ends.out
  refine (show Fin (fun r : AV × Heap => r.1 = .tup [.agg (cb (lotF seed i)), .int .i64 0] ∧ Holds r.2 Γ) _ from ?_)
  have h2 := (h.push (c := cb seed) (t := 22)).push (c := z32) (t := 22)
  have hlot : lotF seed i = keyF seed [108, 111, 116] (bytesN 8 i) := rfl
  have hrd := @RdLike.exb W seed H.next 32 hs 22
  have b1 : ¬ (i : Int) < 0 := by omega
  have b2 : ¬ (1024 : Int) < i := by omega
  have hol := keyF_len seed [108, 111, 116] (bytesN 8 i)
  rw [go_code hE.f6 (by simp [sf6])]
  rw [hlot]
  simp only [push_next] at h2
  generalize hcs : cb seed = cs at *
  simp only [sf6, z32_eq, b1, b2, ↓sxp, sxq, ↓reduceIte, Nat.reduceBEq, Nat.reduceLT, evP, evX, evR, blkOf, evA, storeA, Nat.reduceEqDiff, resL, resV, oneOrTup, Int.reduceEq, Int.reduceLT, Int.reduceLE, Int.reduceNeg, Int.reduceAdd, Int.reduceSub, Int.reduceMul, Int.reduceToNat, Nat.reduceAdd, noUnk, AV.cells, reduceCtorEq, Nat.reduceLeDiff, Cells.get, Nat.reduceMul, ↓bnd_assoc]
  refine Fin.callE (fun nv : AV => .tup [nv, .int .i64 0]) (fun nv => row 5 1 (cb (bytesN 8 i)) nv :: blk (H.next + 1) z32 22 :: blk H.next cs 22 :: Γ) (c_put (W := W) hE (n := i) (sz := 8) (by omega) (by omega) (Nat.lt_of_le_of_lt hi (by decide)) (by omega) h2) fun nv H3 h3 => ?_
  have hn1 := ((RdLike.row (W := W) _ nv) h3).one.2.2
  have h4 := h3.push (c := [nv]) (t := 27)
  have hz1 : zerosL [AV.sl none 0 (Cap.exact 0)] 1 = [AV.sl none 0 (Cap.exact 0)] := rfl
  have b32 := fun A => bndN A 32
  generalize H.next = bs at *
  simp only [hn1, hz1, ↓b32, Nat.sub_zero, ↓sxp, sxq, ↓reduceIte, Nat.reduceBEq, Nat.reduceLT, evP, evX, evR, blkOf, evA, storeA, Nat.reduceEqDiff, resL, resV, oneOrTup, Int.reduceEq, Int.reduceLT, Int.reduceLE, Int.reduceNeg, Int.reduceAdd, Int.reduceSub, Int.reduceMul, Int.reduceToNat, Nat.reduceAdd, noUnk, AV.cells, reduceCtorEq, Nat.reduceLeDiff, Cells.get, Nat.reduceMul, ↓bnd_assoc]
  generalize H3.next = b3 at *
  have h5 : Holds (H3.push (.cells (.lst [nv]) 27 none)) (blk bs cs 22 :: blk b3 [nv] 27 :: row 5 1 (cb (bytesN 8 i)) nv :: blk (bs + 1) z32 22 :: Γ) := (h4.ord [3])
  refine Fin.call (c_key (W := W) (key := seed) (s := [108, 111, 116]) (ctx := bytesN 8 i) hE hrd (RdLike.row _ nv) (by omega) (by omega) (by simp) (by simp) (by rw [bytesN_len]; omega) (by rw [bytesN_len]; omega) h5) fun H6 h6 => ?_
  generalize keyF seed [108, 111, 116] (bytesN 8 i) = O at *
  have hg32 := getN_cb hol
  have hc32 : (cb O).length = 32 := by rw [cb_len, hol]
  simp only [hc32, ↓sxp, sxq, ↓reduceIte, Nat.reduceBEq, Nat.reduceLT, evP, evX, evR, blkOf, evA, storeA, Nat.reduceEqDiff, resL, resV, oneOrTup, Int.reduceEq, Int.reduceLT, Int.reduceLE, Int.reduceNeg, Int.reduceAdd, Int.reduceSub, Int.reduceMul, Int.reduceToNat, Nat.reduceAdd, noUnk, AV.cells, reduceCtorEq, Nat.reduceLeDiff, Cells.get, Nat.reduceMul, ↓bnd_assoc]
  refine Fin.write (cb O) (h6.ord [3]) (setN_all (by rw [hc32]; rfl)) (by rw [hc32]; exact Nat.le_refl _) (cb_one O) fun H7 h7 => ?_
  have g7 := h7.get
  simp only [↓g7, ↓hg32, ↓sxp, sxq, ↓reduceIte, Nat.reduceBEq, Nat.reduceLT, evP, evX, evR, blkOf, evA, storeA, Nat.reduceEqDiff, resL, resV, oneOrTup, Int.reduceEq, Int.reduceLT, Int.reduceLE, Int.reduceNeg, Int.reduceAdd, Int.reduceSub, Int.reduceMul, Int.reduceToNat, Nat.reduceAdd, noUnk, AV.cells, reduceCtorEq, Nat.reduceLeDiff, Cells.get, Nat.reduceMul, ↓bnd_assoc]
  exact Fin.ret ⟨rfl, h7.tail.tail.tail.tail⟩
theorem c_lot_no (hE : EnvW E) {seed : List UInt8} {i : Int} (hi : i < 0 ∨ 1024 < i) (h : Holds H Γ) :
    ∃ H', go W E 6 [.agg (cb seed), .int .i64 i] H = some (.tup [.agg z32, .int .i64 2], H') ∧ Holds H' Γ := by
  apply Ends.out
  refine (show Fin (fun r : AV × Heap => r.1 = .tup [.agg z32, .int .i64 2] ∧ Holds r.2 Γ) _ from ?_)
  have h2 := (h.push (c := cb seed) (t := 22)).push (c := z32) (t := 22)
  simp only [push_next] at h2
  have hg32 : Cells.getN (.lst z32) 0 32 = some z32 := getN_cb (by simp)
  have hl32 : z32.length = 32 := rfl
  have ho32 : z32.all oneC = true := cb_one _
  have bz : ∀ A, evP A (.build z32 []) = some (.agg z32) := fun _ => rfl
  rw [go_code hE.f6 (by simp [sf6])]
  generalize hcs : cb seed = cs at *
  rcases hi with hi | hi
  · simp only [sf6, z32_eq, hi, ↓bz, hl32, ↓sxp, sxq, ↓reduceIte, Nat.reduceBEq, Nat.reduceLT, evP, evX, evR, blkOf, evA, storeA, Nat.reduceEqDiff, resL, resV, oneOrTup, Int.reduceEq, Int.reduceLT, Int.reduceLE, Int.reduceNeg, Int.reduceAdd, Int.reduceSub, Int.reduceMul, Int.reduceToNat, Nat.reduceAdd, noUnk, AV.cells, reduceCtorEq, Nat.reduceLeDiff, Cells.get, Nat.reduceMul, ↓bnd_assoc]
    refine Fin.write z32 h2 (setN_all rfl) (by rw [hl32]; exact Nat.le_refl _) ho32 fun H7 h7 => ?_
    have g7 := h7.get
    simp only [↓g7, ↓hg32, ↓sxp, sxq, ↓reduceIte, Nat.reduceBEq, Nat.reduceLT, evP, evX, evR, blkOf, evA, storeA, Nat.reduceEqDiff, resL, resV, oneOrTup, Int.reduceEq, Int.reduceLT, Int.reduceLE, Int.reduceNeg, Int.reduceAdd, Int.reduceSub, Int.reduceMul, Int.reduceToNat, Nat.reduceAdd, noUnk, AV.cells, reduceCtorEq, Nat.reduceLeDiff, Cells.get, Nat.reduceMul, ↓bnd_assoc]
    exact Fin.ret ⟨rfl, h7.tail.tail⟩
  · have b1 : ¬ i < 0 := by omega
    simp only [sf6, z32_eq, b1, hi, ↓bz, hl32, ↓sxp, sxq, ↓reduceIte, Nat.reduceBEq, Nat.reduceLT, evP, evX, evR, blkOf, evA, storeA, Nat.reduceEqDiff, resL, resV, oneOrTup, Int.reduceEq, Int.reduceLT, Int.reduceLE, Int.reduceNeg, Int.reduceAdd, Int.reduceSub, Int.reduceMul, Int.reduceToNat, Nat.reduceAdd, noUnk, AV.cells, reduceCtorEq, Nat.reduceLeDiff, Cells.get, Nat.reduceMul, ↓bnd_assoc]
    refine Fin.write z32 h2 (setN_all rfl) (by rw [hl32]; exact Nat.le_refl _) ho32 fun H7 h7 => ?_
    have g7 := h7.get
    simp only [↓g7, ↓hg32, ↓sxp, sxq, ↓reduceIte, Nat.reduceBEq, Nat.reduceLT, evP, evX, evR, blkOf, evA, storeA, Nat.reduceEqDiff, resL, resV, oneOrTup, Int.reduceEq, Int.reduceLT, Int.reduceLE, Int.reduceNeg, Int.reduceAdd, Int.reduceSub, Int.reduceMul, Int.reduceToNat, Nat.reduceAdd, noUnk, AV.cells, reduceCtorEq, Nat.reduceLeDiff, Cells.get, Nat.reduceMul, ↓bnd_assoc]
    exact Fin.ret ⟨rfl, h7.tail.tail⟩
theorem c_dlot (hE : EnvW E) {seed : List UInt8} {i : Nat} (hs : seed.length = 32) (hi : i ≤ 1024) (h : Holds H Γ) :
    ∃ H', go W E 9 [.agg (cb seed), .int .i64 (i : Int)] H = some (.agg (cb (lotF seed i)), H') ∧ Holds H' Γ := by
  apply Ends.out
  refine (show Fin (fun r : AV × Heap => r.1 = .agg (cb (lotF seed i)) ∧ Holds r.2 Γ) _ from ?_)
  have h2 := (h.push (c := cb seed) (t := 22)).push (c := z32) (t := 22)
  have hlot : lotF seed i = keyF seed [108, 111, 116] (bytesN 8 i) := rfl
  have hrd := @RdLike.exb W seed H.next 32 hs 22
  have hol := keyF_len seed [108, 111, 116] (bytesN 8 i)
  rw [go_code hE.f9 (by simp [sf9])]
  rw [hlot]
  simp only [push_next] at h2
  generalize hcs : cb seed = cs at *
  simp only [sf9, z32_eq, ↓sxp, sxq, ↓reduceIte, Nat.reduceBEq, Nat.reduceLT, evP, evX, evR, blkOf, evA, storeA, Nat.reduceEqDiff, resL, resV, oneOrTup, Int.reduceEq, Int.reduceLT, Int.reduceLE, Int.reduceNeg, Int.reduceAdd, Int.reduceSub, Int.reduceMul, Int.reduceToNat, Nat.reduceAdd, noUnk, AV.cells, reduceCtorEq, Nat.reduceLeDiff, Cells.get, Nat.reduceMul, ↓bnd_assoc]
  refine Fin.callX (fun r H' => ∃ nv, r = .tup [nv, .int .i64 0] ∧ ∃ R, RdLike W (bytesN 8 i) nv R ∧ Holds H' (R :: blk (H.next + 1) z32 22 :: blk H.next cs 22 :: Γ)) (by obtain ⟨v, H', e, q⟩ := c_dput (W := W) hE (n := i) (sz := 8) (by omega) (by omega) (Nat.lt_of_le_of_lt hi (by decide)) (by omega) h2; exact ⟨_, H', e, v, rfl, q⟩) fun r H3 ⟨nv, hr, R, hR, h3⟩ => ?_
  subst hr
  have hn1 := (hR h3).one.2.2
  have h4 := h3.push (c := [nv]) (t := 27)
  have hz1 : zerosL [AV.sl none 0 (Cap.exact 0)] 1 = [AV.sl none 0 (Cap.exact 0)] := rfl
  have b32 := fun A => bndN A 32
  generalize H.next = bs at *
  simp only [hn1, hz1, ↓b32, Nat.sub_zero, ↓sxp, sxq, ↓reduceIte, Nat.reduceBEq, Nat.reduceLT, evP, evX, evR, blkOf, evA, storeA, Nat.reduceEqDiff, resL, resV, oneOrTup, Int.reduceEq, Int.reduceLT, Int.reduceLE, Int.reduceNeg, Int.reduceAdd, Int.reduceSub, Int.reduceMul, Int.reduceToNat, Nat.reduceAdd, noUnk, AV.cells, reduceCtorEq, Nat.reduceLeDiff, Cells.get, Nat.reduceMul, ↓bnd_assoc]
  generalize H3.next = b3 at *
  refine Fin.call (c_dkey (W := W) (key := seed) (s := [108, 111, 116]) (ctx := bytesN 8 i) hE hrd hR (by omega) (by omega) (by simp) (by rw [bytesN_len]; omega) (by rw [bytesN_len]; omega) (h4.ord [3])) fun H6 h6 => ?_
  generalize keyF seed [108, 111, 116] (bytesN 8 i) = O at *
  have hg32 := getN_cb hol
  have hc32 : (cb O).length = 32 := by rw [cb_len, hol]
  have h7 := h6.push (c := z32) (t := 22)
  simp only [hc32, ↓sxp, sxq, ↓reduceIte, Nat.reduceBEq, Nat.reduceLT, evP, evX, evR, blkOf, evA, storeA, Nat.reduceEqDiff, resL, resV, oneOrTup, Int.reduceEq, Int.reduceLT, Int.reduceLE, Int.reduceNeg, Int.reduceAdd, Int.reduceSub, Int.reduceMul, Int.reduceToNat, Nat.reduceAdd, noUnk, AV.cells, reduceCtorEq, Nat.reduceLeDiff, Cells.get, Nat.reduceMul, ↓bnd_assoc]
  generalize H6.next = b7 at *
  refine Fin.write (cb O) h7 (setN_all (by rw [hc32]; rfl)) (by rw [hc32]; exact Nat.le_refl _) (cb_one O) fun H8 h8 => ?_
  have g8 := h8.get
  simp only [↓g8, ↓hg32, hc32, ↓sxp, sxq, ↓reduceIte, Nat.reduceBEq, Nat.reduceLT, evP, evX, evR, blkOf, evA, storeA, Nat.reduceEqDiff, resL, resV, oneOrTup, Int.reduceEq, Int.reduceLT, Int.reduceLE, Int.reduceNeg, Int.reduceAdd, Int.reduceSub, Int.reduceMul, Int.reduceToNat, Nat.reduceAdd, noUnk, AV.cells, reduceCtorEq, Nat.reduceLeDiff, Cells.get, Nat.reduceMul, ↓bnd_assoc]
  refine Fin.write (cb O) (h8.ord [4]) (setN_all (by rw [hc32]; rfl)) (by rw [hc32]; exact Nat.le_refl _) (cb_one O) fun H9 h9 => ?_
  have g9 := h9.get
  simp only [↓g9, ↓hg32, ↓sxp, sxq, ↓reduceIte, Nat.reduceBEq, Nat.reduceLT, evP, evX, evR, blkOf, evA, storeA, Nat.reduceEqDiff, resL, resV, oneOrTup, Int.reduceEq, Int.reduceLT, Int.reduceLE, Int.reduceNeg, Int.reduceAdd, Int.reduceSub, Int.reduceMul, Int.reduceToNat, Nat.reduceAdd, noUnk, AV.cells, reduceCtorEq, Nat.reduceLeDiff, Cells.get, Nat.reduceMul, ↓bnd_assoc]
  exact Fin.ret ⟨rfl, h9.tail.tail.tail.tail.tail⟩
end
end Go.Proofs.YtjfnhdiimibmiaaDoor.Sx

