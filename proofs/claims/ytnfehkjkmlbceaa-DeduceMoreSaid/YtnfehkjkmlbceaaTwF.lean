/- A second, deterministic reading of the program, part 6: proved sound for every order and every capacity; then what the functions do. -/
import Derived.Test.YtnfehkjkmlbceaaTwE
/- The document's Made. -/
namespace Go.Proofs.Ytnfehkjkmlbceaa.Sx
open HP
section
variable {W : World} {E : Env} {H : Heap} {Γ : List HP}
abbrev slB (j n : Nat) : AV := .sl (some ⟨.own j, 0⟩) n (.exact n)
theorem getDb_set {l : List Bool} {i j : Nat} (h : i ≠ j) (b : Bool) : (l.set i b).getD j false = l.getD j false := by
  simp [List.getD_eq_getElem?_getD, List.getElem?_set_ne h]
theorem rmade_loop (hE : EnvK E) {L : List T3} {hs : List Bool} {vl : AV} {jh jm : Nat} {df : List Nat} (hw : WFL L) (hl : hs.length = L.length) (hb : L.length < 256) : ∀ (m i : Nat) (A : Tm) (H : Heap) (ms : List Bool), i + m = L.length → ms.length = L.length → (∀ j, i ≤ j → ms.getD j false = false) → getX A 0 = vl → getX A 1 = slB jh L.length → getX A 5 = slB jm L.length → getX A 6 = .int .i64 i → Holds H (row 33 3 (flat3 L) vl :: blk jh (bls hs) 4 :: blk jm (bls ms) 4 :: Γ) →
    ∃ lv A' H', run W E (.loop lp27_0) ⟨A, df, none⟩ H = some (lv, ⟨A', df, none⟩, H') ∧ (lv = .exit 0 ∧ getX A' 5 = slB jm L.length ∧ Holds H' (row 33 3 (flat3 L) vl :: blk jh (bls hs) 4 :: blk jm (bls (mkFrom L hs m i ms)) 4 :: Γ)) := by
  have hlp : ∀ f H, run W E lp27_0 f H = run W E lp27_0 f H := fun _ _ => rfl
  conv at hlp => enter [f, H, 2]; unfold lp27_0
  intro m
  induction m with
  | zero =>
    intro i A H ms him hm hz a0 a1 a5 a6 h
    have : i = L.length := by omega
    subst this
    obtain ⟨al, cl, rfl⟩ := h.row_len (by omega) (n := L.length) (flat3_len _)
    have hlt : ¬ (L.length : Int) < L.length := by omega
    rw [run_loop]
    simp only [hlp, a0, a6, hlt, ↓sxp, sxq, ↓reduceIte, Nat.reduceBEq, Nat.reduceLT, evP, evX, evR, blkOf, evA, storeA, Nat.reduceEqDiff, resL, resV, oneOrTup, Int.reduceEq, Int.reduceLT, Int.reduceLE, Int.reduceNeg, Int.reduceAdd, Int.reduceSub, Int.reduceMul, Int.reduceToNat, Nat.reduceAdd, noUnk, AV.cells, reduceCtorEq, Nat.reduceLeDiff, Cells.get, Cells.getN, Nat.reduceMul, ↓bnd_assoc]
    exact ⟨_, _, _, rfl, rfl, by simp only [a5, ↓sxp, sxq, ↓reduceIte, Nat.reduceBEq, Nat.reduceLT, evP, evX, evR, blkOf, evA, storeA, Nat.reduceEqDiff, resL, resV, oneOrTup, Int.reduceEq, Int.reduceLT, Int.reduceLE, Int.reduceNeg, Int.reduceAdd, Int.reduceSub, Int.reduceMul, Int.reduceToNat, Nat.reduceAdd, noUnk, AV.cells, reduceCtorEq, Nat.reduceLeDiff, Cells.get, Cells.getN, Nat.reduceMul, ↓bnd_assoc], h⟩
  | succ m ih =>
    intro i A H ms him hm hz a0 a1 a5 a6 h
    have hlt : (i : Int) < L.length := by omega
    have hi0 : (0 : Int) ≤ i ∧ (i : Int) < L.length := by omega
    have hwr : IntKind.i64.wrap ((i : Int) + 1) = ((i + 1 : Nat) : Int) := by rw [w64 (by omega)]; simp
    obtain ⟨j, l, c, rfl, hg⟩ := h.row_get (by omega) (n := L.length) (flat3_len _) (by omega)
    have hx : L[i]? = some L[i] := List.getElem?_eq_getElem (by omega)
    obtain ⟨hf1, hf2, hf3⟩ := flat3_get hx
    obtain ⟨w1, w2⟩ := hw i _ hx
    have hcm : L.getD i (0, 0, 0) = L[i] := by simp [List.getD_eq_getElem?_getD, hx]
    have hhi := bls_get (show i < hs.length by omega)
    have hmi := hz i (Nat.le_refl _)
    have gh := (h.ord [1]).get
    have gm := (h.ord [2]).get
    rw [mkFrom, canM, hcm]
    generalize L[i] = x at *
    obtain ⟨kd, u, w⟩ := x
    simp only at hf1 hf2 hf3 w1 w2
    have fin : ∀ (A' : Tm) (H' : Heap) (b : Bool), getX A' 0 = .sl (some ⟨.own j, 0⟩) L.length c → getX A' 1 = slB jh L.length → getX A' 5 = slB jm L.length → getX A' 6 = .int .i64 ((i + 1 : Nat) : Int) → Holds H' (row 33 3 (flat3 L) (.sl (some ⟨.own j, 0⟩) L.length c) :: blk jh (bls hs) 4 :: blk jm (bls (ms.set i b)) 4 :: Γ) →
        Fin (Out3 df none fun lv A' H' => lv = .exit 0 ∧ getX A' 5 = slB jm L.length ∧ Holds H' (row 33 3 (flat3 L) (.sl (some ⟨.own j, 0⟩) L.length c) :: blk jh (bls hs) 4 :: blk jm (bls (mkFrom L hs m (i + 1) (ms.set i b))) 4 :: Γ)) (run W E (.loop lp27_0) ⟨A', df, none⟩ H') := fun A' H' b q1 q2 q3 q4 q5 =>
      Fin.of3 (ih (i + 1) A' H' (ms.set i b) (by omega) (by simp; exact hm) (fun j' hj => by rw [getDb_set (by omega)]; exact hz j' (by omega)) q1 q2 q3 q4 q5) fun _ _ _ h => h
    apply Fin.ex3
    rw [run_loop]
    by_cases k9 : kd = 9
    · subst k9
      simp only [hlp, a0, a1, a5, a6, hlt, hi0, and_self, ↓hg, hf1, ↓gh, hhi, Int.toNat_natCast, ↓sxp, sxq, ↓reduceIte, Nat.reduceBEq, Nat.reduceLT, evP, evX, evR, blkOf, evA, storeA, Nat.reduceEqDiff, resL, resV, oneOrTup, Int.reduceEq, Int.reduceLT, Int.reduceLE, Int.reduceNeg, Int.reduceAdd, Int.reduceSub, Int.reduceMul, Int.reduceToNat, Nat.reduceAdd, noUnk, AV.cells, reduceCtorEq, Nat.reduceLeDiff, Cells.get, Cells.getN, Nat.reduceMul, ↓bnd_assoc]
      cases hs.getD i false
      all_goals
        simp only [a5, a6, hlt, hi0, and_self, Int.toNat_natCast, ↓sxp, sxq, ↓reduceIte, Nat.reduceBEq, Nat.reduceLT, evP, evX, evR, blkOf, evA, storeA, Nat.reduceEqDiff, resL, resV, oneOrTup, Int.reduceEq, Int.reduceLT, Int.reduceLE, Int.reduceNeg, Int.reduceAdd, Int.reduceSub, Int.reduceMul, Int.reduceToNat, Nat.reduceAdd, noUnk, AV.cells, reduceCtorEq, Nat.reduceLeDiff, Cells.get, Cells.getN, Nat.reduceMul, ↓bnd_assoc]
        refine Fin.write (bls (ms.set i true)) (h.ord [2]) (by simp only [Cells.setN, Cells.set, bls_set]) (by simp; omega) rfl fun H4 h4 => ?_
        simp only [a6, hwr, ↓sxp, sxq, ↓reduceIte, Nat.reduceBEq, Nat.reduceLT, evP, evX, evR, blkOf, evA, storeA, Nat.reduceEqDiff, resL, resV, oneOrTup, Int.reduceEq, Int.reduceLT, Int.reduceLE, Int.reduceNeg, Int.reduceAdd, Int.reduceSub, Int.reduceMul, Int.reduceToNat, Nat.reduceAdd, noUnk, AV.cells, reduceCtorEq, Nat.reduceLeDiff, Cells.get, Cells.getN, Nat.reduceMul, ↓bnd_assoc]
        exact fin _ _ _ (by simp only [a0, ↓sxp, sxq, ↓reduceIte, Nat.reduceBEq, Nat.reduceLT, evP, evX, evR, blkOf, evA, storeA, Nat.reduceEqDiff, resL, resV, oneOrTup, Int.reduceEq, Int.reduceLT, Int.reduceLE, Int.reduceNeg, Int.reduceAdd, Int.reduceSub, Int.reduceMul, Int.reduceToNat, Nat.reduceAdd, noUnk, AV.cells, reduceCtorEq, Nat.reduceLeDiff, Cells.get, Cells.getN, Nat.reduceMul, ↓bnd_assoc]) (by simp only [a1, ↓sxp, sxq, ↓reduceIte, Nat.reduceBEq, Nat.reduceLT, evP, evX, evR, blkOf, evA, storeA, Nat.reduceEqDiff, resL, resV, oneOrTup, Int.reduceEq, Int.reduceLT, Int.reduceLE, Int.reduceNeg, Int.reduceAdd, Int.reduceSub, Int.reduceMul, Int.reduceToNat, Nat.reduceAdd, noUnk, AV.cells, reduceCtorEq, Nat.reduceLeDiff, Cells.get, Cells.getN, Nat.reduceMul, ↓bnd_assoc]) (by simp only [a5, ↓sxp, sxq, ↓reduceIte, Nat.reduceBEq, Nat.reduceLT, evP, evX, evR, blkOf, evA, storeA, Nat.reduceEqDiff, resL, resV, oneOrTup, Int.reduceEq, Int.reduceLT, Int.reduceLE, Int.reduceNeg, Int.reduceAdd, Int.reduceSub, Int.reduceMul, Int.reduceToNat, Nat.reduceAdd, noUnk, AV.cells, reduceCtorEq, Nat.reduceLeDiff, Cells.get, Cells.getN, Nat.reduceMul, ↓bnd_assoc]) (by simp only [↓sxp, sxq, ↓reduceIte, Nat.reduceBEq, Nat.reduceLT, evP, evX, evR, blkOf, evA, storeA, Nat.reduceEqDiff, resL, resV, oneOrTup, Int.reduceEq, Int.reduceLT, Int.reduceLE, Int.reduceNeg, Int.reduceAdd, Int.reduceSub, Int.reduceMul, Int.reduceToNat, Nat.reduceAdd, noUnk, AV.cells, reduceCtorEq, Nat.reduceLeDiff, Cells.get, Cells.getN, Nat.reduceMul, ↓bnd_assoc]) (h4.ord [1, 1])
    cases hb0 : hs.getD i false with
    | true =>
      rw [hb0] at hhi
      have hcan : (if kd = 9 then true else if kd = 2 ∨ kd = 3 ∨ kd = 6 ∨ kd = 7 ∨ kd = 10 then true || ms.getD u.toNat false else if kd = 4 ∨ kd = 5 ∨ kd = 8 then true || (ms.getD u.toNat false && ms.getD w.toNat false) else true) = true := by
        split; rfl; split; rfl; split <;> rfl
      rw [hcan]
      simp only [hlp, a0, a1, a5, a6, hlt, hi0, and_self, ↓hg, hf1, ↓gh, hhi, Int.toNat_natCast, ↓sxp, sxq, ↓reduceIte, Nat.reduceBEq, Nat.reduceLT, evP, evX, evR, blkOf, evA, storeA, Nat.reduceEqDiff, resL, resV, oneOrTup, Int.reduceEq, Int.reduceLT, Int.reduceLE, Int.reduceNeg, Int.reduceAdd, Int.reduceSub, Int.reduceMul, Int.reduceToNat, Nat.reduceAdd, noUnk, AV.cells, reduceCtorEq, Nat.reduceLeDiff, Cells.get, Cells.getN, Nat.reduceMul, ↓bnd_assoc]
      refine Fin.write (bls (ms.set i true)) (h.ord [2]) (by simp only [Cells.setN, Cells.set, bls_set]) (by simp; omega) rfl fun H4 h4 => ?_
      simp only [a6, hwr, ↓sxp, sxq, ↓reduceIte, Nat.reduceBEq, Nat.reduceLT, evP, evX, evR, blkOf, evA, storeA, Nat.reduceEqDiff, resL, resV, oneOrTup, Int.reduceEq, Int.reduceLT, Int.reduceLE, Int.reduceNeg, Int.reduceAdd, Int.reduceSub, Int.reduceMul, Int.reduceToNat, Nat.reduceAdd, noUnk, AV.cells, reduceCtorEq, Nat.reduceLeDiff, Cells.get, Cells.getN, Nat.reduceMul, ↓bnd_assoc]
      exact fin _ _ _ (by simp only [a0, ↓sxp, sxq, ↓reduceIte, Nat.reduceBEq, Nat.reduceLT, evP, evX, evR, blkOf, evA, storeA, Nat.reduceEqDiff, resL, resV, oneOrTup, Int.reduceEq, Int.reduceLT, Int.reduceLE, Int.reduceNeg, Int.reduceAdd, Int.reduceSub, Int.reduceMul, Int.reduceToNat, Nat.reduceAdd, noUnk, AV.cells, reduceCtorEq, Nat.reduceLeDiff, Cells.get, Cells.getN, Nat.reduceMul, ↓bnd_assoc]) (by simp only [a1, ↓sxp, sxq, ↓reduceIte, Nat.reduceBEq, Nat.reduceLT, evP, evX, evR, blkOf, evA, storeA, Nat.reduceEqDiff, resL, resV, oneOrTup, Int.reduceEq, Int.reduceLT, Int.reduceLE, Int.reduceNeg, Int.reduceAdd, Int.reduceSub, Int.reduceMul, Int.reduceToNat, Nat.reduceAdd, noUnk, AV.cells, reduceCtorEq, Nat.reduceLeDiff, Cells.get, Cells.getN, Nat.reduceMul, ↓bnd_assoc]) (by simp only [a5, ↓sxp, sxq, ↓reduceIte, Nat.reduceBEq, Nat.reduceLT, evP, evX, evR, blkOf, evA, storeA, Nat.reduceEqDiff, resL, resV, oneOrTup, Int.reduceEq, Int.reduceLT, Int.reduceLE, Int.reduceNeg, Int.reduceAdd, Int.reduceSub, Int.reduceMul, Int.reduceToNat, Nat.reduceAdd, noUnk, AV.cells, reduceCtorEq, Nat.reduceLeDiff, Cells.get, Cells.getN, Nat.reduceMul, ↓bnd_assoc]) (by simp only [↓sxp, sxq, ↓reduceIte, Nat.reduceBEq, Nat.reduceLT, evP, evX, evR, blkOf, evA, storeA, Nat.reduceEqDiff, resL, resV, oneOrTup, Int.reduceEq, Int.reduceLT, Int.reduceLE, Int.reduceNeg, Int.reduceAdd, Int.reduceSub, Int.reduceMul, Int.reduceToNat, Nat.reduceAdd, noUnk, AV.cells, reduceCtorEq, Nat.reduceLeDiff, Cells.get, Cells.getN, Nat.reduceMul, ↓bnd_assoc]) (h4.ord [1, 1])
    | false =>
      rw [hb0] at hhi
      by_cases ka : kd = 2 ∨ kd = 3 ∨ kd = 6 ∨ kd = 7 ∨ kd = 10
      · obtain ⟨u0, u1⟩ := w1 (by rcases ka with e | e | e | e | e <;> omega) k9
        have hu0 : 0 ≤ u ∧ u < L.length := by omega
        have hmu := bls_get (show u.toNat < ms.length by omega)
        have hcan : (if kd = 9 then true else if kd = 2 ∨ kd = 3 ∨ kd = 6 ∨ kd = 7 ∨ kd = 10 then false || ms.getD u.toNat false else if kd = 4 ∨ kd = 5 ∨ kd = 8 then false || (ms.getD u.toNat false && ms.getD w.toNat false) else false) = ms.getD u.toNat false := by
          rw [if_neg k9, if_pos ka]; simp
        rw [hcan]
        rcases ka with rfl | rfl | rfl | rfl | rfl
        all_goals
          simp only [hlp, a0, a1, a5, a6, hlt, hi0, hu0, and_self, ↓hg, hf1, hf2, ↓gh, ↓gm, hhi, hmu, Int.toNat_natCast, ↓sxp, sxq, ↓reduceIte, Nat.reduceBEq, Nat.reduceLT, evP, evX, evR, blkOf, evA, storeA, Nat.reduceEqDiff, resL, resV, oneOrTup, Int.reduceEq, Int.reduceLT, Int.reduceLE, Int.reduceNeg, Int.reduceAdd, Int.reduceSub, Int.reduceMul, Int.reduceToNat, Nat.reduceAdd, noUnk, AV.cells, reduceCtorEq, Nat.reduceLeDiff, Cells.get, Cells.getN, Nat.reduceMul, ↓bnd_assoc]
          refine Fin.write (bls (ms.set i (ms.getD u.toNat false))) (h.ord [2]) (by simp only [Cells.setN, Cells.set, bls_set]) (by simp; omega) rfl fun H4 h4 => ?_
          simp only [a6, hwr, ↓sxp, sxq, ↓reduceIte, Nat.reduceBEq, Nat.reduceLT, evP, evX, evR, blkOf, evA, storeA, Nat.reduceEqDiff, resL, resV, oneOrTup, Int.reduceEq, Int.reduceLT, Int.reduceLE, Int.reduceNeg, Int.reduceAdd, Int.reduceSub, Int.reduceMul, Int.reduceToNat, Nat.reduceAdd, noUnk, AV.cells, reduceCtorEq, Nat.reduceLeDiff, Cells.get, Cells.getN, Nat.reduceMul, ↓bnd_assoc]
          exact fin _ _ _ (by simp only [a0, ↓sxp, sxq, ↓reduceIte, Nat.reduceBEq, Nat.reduceLT, evP, evX, evR, blkOf, evA, storeA, Nat.reduceEqDiff, resL, resV, oneOrTup, Int.reduceEq, Int.reduceLT, Int.reduceLE, Int.reduceNeg, Int.reduceAdd, Int.reduceSub, Int.reduceMul, Int.reduceToNat, Nat.reduceAdd, noUnk, AV.cells, reduceCtorEq, Nat.reduceLeDiff, Cells.get, Cells.getN, Nat.reduceMul, ↓bnd_assoc]) (by simp only [a1, ↓sxp, sxq, ↓reduceIte, Nat.reduceBEq, Nat.reduceLT, evP, evX, evR, blkOf, evA, storeA, Nat.reduceEqDiff, resL, resV, oneOrTup, Int.reduceEq, Int.reduceLT, Int.reduceLE, Int.reduceNeg, Int.reduceAdd, Int.reduceSub, Int.reduceMul, Int.reduceToNat, Nat.reduceAdd, noUnk, AV.cells, reduceCtorEq, Nat.reduceLeDiff, Cells.get, Cells.getN, Nat.reduceMul, ↓bnd_assoc]) (by simp only [a5, ↓sxp, sxq, ↓reduceIte, Nat.reduceBEq, Nat.reduceLT, evP, evX, evR, blkOf, evA, storeA, Nat.reduceEqDiff, resL, resV, oneOrTup, Int.reduceEq, Int.reduceLT, Int.reduceLE, Int.reduceNeg, Int.reduceAdd, Int.reduceSub, Int.reduceMul, Int.reduceToNat, Nat.reduceAdd, noUnk, AV.cells, reduceCtorEq, Nat.reduceLeDiff, Cells.get, Cells.getN, Nat.reduceMul, ↓bnd_assoc]) (by simp only [↓sxp, sxq, ↓reduceIte, Nat.reduceBEq, Nat.reduceLT, evP, evX, evR, blkOf, evA, storeA, Nat.reduceEqDiff, resL, resV, oneOrTup, Int.reduceEq, Int.reduceLT, Int.reduceLE, Int.reduceNeg, Int.reduceAdd, Int.reduceSub, Int.reduceMul, Int.reduceToNat, Nat.reduceAdd, noUnk, AV.cells, reduceCtorEq, Nat.reduceLeDiff, Cells.get, Cells.getN, Nat.reduceMul, ↓bnd_assoc]) (h4.ord [1, 1])
      have n2 : ¬ kd = 2 := fun e => ka (.inl e)
      have n3 : ¬ kd = 3 := fun e => ka (.inr (.inl e))
      have n6 : ¬ kd = 6 := fun e => ka (.inr (.inr (.inl e)))
      have n7 : ¬ kd = 7 := fun e => ka (.inr (.inr (.inr (.inl e))))
      have n10 : ¬ kd = 10 := fun e => ka (.inr (.inr (.inr (.inr e))))
      by_cases kb : kd = 4 ∨ kd = 5 ∨ kd = 8
      · obtain ⟨u0, u1⟩ := w1 (by rcases kb with e | e | e <;> omega) k9
        obtain ⟨v0, v1⟩ := w2 kb
        have hu0 : 0 ≤ u ∧ u < L.length := by omega
        have hv0 : 0 ≤ w ∧ w < L.length := by omega
        have hmu := bls_get (show u.toNat < ms.length by omega)
        have hmw := bls_get (show w.toNat < ms.length by omega)
        have hcan : (if kd = 9 then true else if kd = 2 ∨ kd = 3 ∨ kd = 6 ∨ kd = 7 ∨ kd = 10 then false || ms.getD u.toNat false else if kd = 4 ∨ kd = 5 ∨ kd = 8 then false || (ms.getD u.toNat false && ms.getD w.toNat false) else false) = (ms.getD u.toNat false && ms.getD w.toNat false) := by
          rw [if_neg k9, if_neg ka, if_pos kb]; simp
        rw [hcan]
        rcases kb with rfl | rfl | rfl
        all_goals
          cases hc : ms.getD u.toNat false
          all_goals
            rw [hc] at hmu
            simp only [hlp, a0, a1, a5, a6, hlt, hi0, hu0, hv0, and_self, ↓hg, hf1, hf2, hf3, ↓gh, ↓gm, hhi, hmu, hmw, Int.toNat_natCast, ↓sxp, sxq, ↓reduceIte, Nat.reduceBEq, Nat.reduceLT, evP, evX, evR, blkOf, evA, storeA, Nat.reduceEqDiff, resL, resV, oneOrTup, Int.reduceEq, Int.reduceLT, Int.reduceLE, Int.reduceNeg, Int.reduceAdd, Int.reduceSub, Int.reduceMul, Int.reduceToNat, Nat.reduceAdd, noUnk, AV.cells, reduceCtorEq, Nat.reduceLeDiff, Cells.get, Cells.getN, Nat.reduceMul, ↓bnd_assoc]
          · refine Fin.write (bls (ms.set i false)) (h.ord [2]) (by simp only [Cells.setN, Cells.set, bls_set]) (by simp; omega) rfl fun H4 h4 => ?_
            simp only [a6, hwr, ↓sxp, sxq, ↓reduceIte, Nat.reduceBEq, Nat.reduceLT, evP, evX, evR, blkOf, evA, storeA, Nat.reduceEqDiff, resL, resV, oneOrTup, Int.reduceEq, Int.reduceLT, Int.reduceLE, Int.reduceNeg, Int.reduceAdd, Int.reduceSub, Int.reduceMul, Int.reduceToNat, Nat.reduceAdd, noUnk, AV.cells, reduceCtorEq, Nat.reduceLeDiff, Cells.get, Cells.getN, Nat.reduceMul, ↓bnd_assoc]
            exact fin _ _ _ (by simp only [a0, ↓sxp, sxq, ↓reduceIte, Nat.reduceBEq, Nat.reduceLT, evP, evX, evR, blkOf, evA, storeA, Nat.reduceEqDiff, resL, resV, oneOrTup, Int.reduceEq, Int.reduceLT, Int.reduceLE, Int.reduceNeg, Int.reduceAdd, Int.reduceSub, Int.reduceMul, Int.reduceToNat, Nat.reduceAdd, noUnk, AV.cells, reduceCtorEq, Nat.reduceLeDiff, Cells.get, Cells.getN, Nat.reduceMul, ↓bnd_assoc]) (by simp only [a1, ↓sxp, sxq, ↓reduceIte, Nat.reduceBEq, Nat.reduceLT, evP, evX, evR, blkOf, evA, storeA, Nat.reduceEqDiff, resL, resV, oneOrTup, Int.reduceEq, Int.reduceLT, Int.reduceLE, Int.reduceNeg, Int.reduceAdd, Int.reduceSub, Int.reduceMul, Int.reduceToNat, Nat.reduceAdd, noUnk, AV.cells, reduceCtorEq, Nat.reduceLeDiff, Cells.get, Cells.getN, Nat.reduceMul, ↓bnd_assoc]) (by simp only [a5, ↓sxp, sxq, ↓reduceIte, Nat.reduceBEq, Nat.reduceLT, evP, evX, evR, blkOf, evA, storeA, Nat.reduceEqDiff, resL, resV, oneOrTup, Int.reduceEq, Int.reduceLT, Int.reduceLE, Int.reduceNeg, Int.reduceAdd, Int.reduceSub, Int.reduceMul, Int.reduceToNat, Nat.reduceAdd, noUnk, AV.cells, reduceCtorEq, Nat.reduceLeDiff, Cells.get, Cells.getN, Nat.reduceMul, ↓bnd_assoc]) (by simp only [↓sxp, sxq, ↓reduceIte, Nat.reduceBEq, Nat.reduceLT, evP, evX, evR, blkOf, evA, storeA, Nat.reduceEqDiff, resL, resV, oneOrTup, Int.reduceEq, Int.reduceLT, Int.reduceLE, Int.reduceNeg, Int.reduceAdd, Int.reduceSub, Int.reduceMul, Int.reduceToNat, Nat.reduceAdd, noUnk, AV.cells, reduceCtorEq, Nat.reduceLeDiff, Cells.get, Cells.getN, Nat.reduceMul, ↓bnd_assoc]) (h4.ord [1, 1])
          · refine Fin.write (bls (ms.set i (ms.getD w.toNat false))) (h.ord [2]) (by simp only [Cells.setN, Cells.set, bls_set]) (by simp; omega) rfl fun H4 h4 => ?_
            simp only [a6, hwr, ↓sxp, sxq, ↓reduceIte, Nat.reduceBEq, Nat.reduceLT, evP, evX, evR, blkOf, evA, storeA, Nat.reduceEqDiff, resL, resV, oneOrTup, Int.reduceEq, Int.reduceLT, Int.reduceLE, Int.reduceNeg, Int.reduceAdd, Int.reduceSub, Int.reduceMul, Int.reduceToNat, Nat.reduceAdd, noUnk, AV.cells, reduceCtorEq, Nat.reduceLeDiff, Cells.get, Cells.getN, Nat.reduceMul, ↓bnd_assoc]
            exact fin _ _ _ (by simp only [a0, ↓sxp, sxq, ↓reduceIte, Nat.reduceBEq, Nat.reduceLT, evP, evX, evR, blkOf, evA, storeA, Nat.reduceEqDiff, resL, resV, oneOrTup, Int.reduceEq, Int.reduceLT, Int.reduceLE, Int.reduceNeg, Int.reduceAdd, Int.reduceSub, Int.reduceMul, Int.reduceToNat, Nat.reduceAdd, noUnk, AV.cells, reduceCtorEq, Nat.reduceLeDiff, Cells.get, Cells.getN, Nat.reduceMul, ↓bnd_assoc]) (by simp only [a1, ↓sxp, sxq, ↓reduceIte, Nat.reduceBEq, Nat.reduceLT, evP, evX, evR, blkOf, evA, storeA, Nat.reduceEqDiff, resL, resV, oneOrTup, Int.reduceEq, Int.reduceLT, Int.reduceLE, Int.reduceNeg, Int.reduceAdd, Int.reduceSub, Int.reduceMul, Int.reduceToNat, Nat.reduceAdd, noUnk, AV.cells, reduceCtorEq, Nat.reduceLeDiff, Cells.get, Cells.getN, Nat.reduceMul, ↓bnd_assoc]) (by simp only [a5, ↓sxp, sxq, ↓reduceIte, Nat.reduceBEq, Nat.reduceLT, evP, evX, evR, blkOf, evA, storeA, Nat.reduceEqDiff, resL, resV, oneOrTup, Int.reduceEq, Int.reduceLT, Int.reduceLE, Int.reduceNeg, Int.reduceAdd, Int.reduceSub, Int.reduceMul, Int.reduceToNat, Nat.reduceAdd, noUnk, AV.cells, reduceCtorEq, Nat.reduceLeDiff, Cells.get, Cells.getN, Nat.reduceMul, ↓bnd_assoc]) (by simp only [↓sxp, sxq, ↓reduceIte, Nat.reduceBEq, Nat.reduceLT, evP, evX, evR, blkOf, evA, storeA, Nat.reduceEqDiff, resL, resV, oneOrTup, Int.reduceEq, Int.reduceLT, Int.reduceLE, Int.reduceNeg, Int.reduceAdd, Int.reduceSub, Int.reduceMul, Int.reduceToNat, Nat.reduceAdd, noUnk, AV.cells, reduceCtorEq, Nat.reduceLeDiff, Cells.get, Cells.getN, Nat.reduceMul, ↓bnd_assoc]) (h4.ord [1, 1])
      have n4 : ¬ kd = 4 := fun e => kb (.inl e)
      have n5 : ¬ kd = 5 := fun e => kb (.inr (.inl e))
      have n8 : ¬ kd = 8 := fun e => kb (.inr (.inr e))
      have hcan : (if kd = 9 then true else if kd = 2 ∨ kd = 3 ∨ kd = 6 ∨ kd = 7 ∨ kd = 10 then false || ms.getD u.toNat false else if kd = 4 ∨ kd = 5 ∨ kd = 8 then false || (ms.getD u.toNat false && ms.getD w.toNat false) else false) = false := by
        rw [if_neg k9, if_neg ka, if_neg kb]
      rw [hcan]
      have hself : ms.set i false = ms := by
        have hlt : i < ms.length := by omega
        rw [List.getD_eq_getElem?_getD, List.getElem?_eq_getElem hlt] at hmi
        have hmi : ms[i] = false := hmi
        rw [← hmi, List.set_getElem_self]
      simp only [hlp, a0, a1, a5, a6, hlt, hi0, and_self, ↓hg, hf1, ↓gh, hhi, Int.toNat_natCast, k9, n2, n3, n4, n5, n6, n7, n8, n10, hwr, ↓sxp, sxq, ↓reduceIte, Nat.reduceBEq, Nat.reduceLT, evP, evX, evR, blkOf, evA, storeA, Nat.reduceEqDiff, resL, resV, oneOrTup, Int.reduceEq, Int.reduceLT, Int.reduceLE, Int.reduceNeg, Int.reduceAdd, Int.reduceSub, Int.reduceMul, Int.reduceToNat, Nat.reduceAdd, noUnk, AV.cells, reduceCtorEq, Nat.reduceLeDiff, Cells.get, Cells.getN, Nat.reduceMul, ↓bnd_assoc]
      exact fin _ _ _ (by simp only [a0, ↓sxp, sxq, ↓reduceIte, Nat.reduceBEq, Nat.reduceLT, evP, evX, evR, blkOf, evA, storeA, Nat.reduceEqDiff, resL, resV, oneOrTup, Int.reduceEq, Int.reduceLT, Int.reduceLE, Int.reduceNeg, Int.reduceAdd, Int.reduceSub, Int.reduceMul, Int.reduceToNat, Nat.reduceAdd, noUnk, AV.cells, reduceCtorEq, Nat.reduceLeDiff, Cells.get, Cells.getN, Nat.reduceMul, ↓bnd_assoc]) (by simp only [a1, ↓sxp, sxq, ↓reduceIte, Nat.reduceBEq, Nat.reduceLT, evP, evX, evR, blkOf, evA, storeA, Nat.reduceEqDiff, resL, resV, oneOrTup, Int.reduceEq, Int.reduceLT, Int.reduceLE, Int.reduceNeg, Int.reduceAdd, Int.reduceSub, Int.reduceMul, Int.reduceToNat, Nat.reduceAdd, noUnk, AV.cells, reduceCtorEq, Nat.reduceLeDiff, Cells.get, Cells.getN, Nat.reduceMul, ↓bnd_assoc]) (by simp only [a5, ↓sxp, sxq, ↓reduceIte, Nat.reduceBEq, Nat.reduceLT, evP, evX, evR, blkOf, evA, storeA, Nat.reduceEqDiff, resL, resV, oneOrTup, Int.reduceEq, Int.reduceLT, Int.reduceLE, Int.reduceNeg, Int.reduceAdd, Int.reduceSub, Int.reduceMul, Int.reduceToNat, Nat.reduceAdd, noUnk, AV.cells, reduceCtorEq, Nat.reduceLeDiff, Cells.get, Cells.getN, Nat.reduceMul, ↓bnd_assoc]) (by simp only [↓sxp, sxq, ↓reduceIte, Nat.reduceBEq, Nat.reduceLT, evP, evX, evR, blkOf, evA, storeA, Nat.reduceEqDiff, resL, resV, oneOrTup, Int.reduceEq, Int.reduceLT, Int.reduceLE, Int.reduceNeg, Int.reduceAdd, Int.reduceSub, Int.reduceMul, Int.reduceToNat, Nat.reduceAdd, noUnk, AV.cells, reduceCtorEq, Nat.reduceLeDiff, Cells.get, Cells.getN, Nat.reduceMul, ↓bnd_assoc]) (by rw [hself]; exact h)
theorem zerosb_get (n j : Nat) : (zeros n).getD j false = false := by
  rw [List.getD_eq_getElem?_getD, List.getElem?_replicate]
  split <;> rfl
theorem r_made (hE : EnvK E) {L : List T3} {hs : List Bool} {vl : AV} {jh : Nat} (h : Holds H (row 33 3 (flat3 L) vl :: blk jh (bls hs) 4 :: Γ)) (hw : WFL L) (hl : hs.length = L.length) (hb : L.length < 256) :
    ∃ jm H', go W E 27 [vl, slB jh L.length] H = some (slB jm L.length, H') ∧ Holds H' (blk jm (bls (mkFrom L hs L.length 0 (zeros L.length))) 4 :: row 33 3 (flat3 L) vl :: blk jh (bls hs) 4 :: Γ) := by
  suffices hh : Fin (fun r : AV × Heap => ∃ jm, r.1 = slB jm L.length ∧ Holds r.2 (blk jm (bls (mkFrom L hs L.length 0 (zeros L.length))) 4 :: row 33 3 (flat3 L) vl :: blk jh (bls hs) 4 :: Γ)) (go W E 27 [vl, slB jh L.length] H) by
    obtain ⟨⟨r, H'⟩, e, jm, hr, q⟩ := hh
    simp only at hr q
    subst hr
    exact ⟨jm, H', e, q⟩
  have hvl := h.row_len (by omega) (n := L.length) (flat3_len _)
  have hvl : lenV vl = some (.int .i64 (L.length : Int)) := by obtain ⟨a, c, rfl⟩ := hvl; rfl
  have h2 := h.push (c := bls (zeros L.length)) (t := 4)
  rw [go_code hE.f27 (by simp [sf27])]
  simp only [sf27, hvl, ↓mksl_bools (n := L.length), hb, ↓sxp, sxq, ↓reduceIte, Nat.reduceBEq, Nat.reduceLT, evP, evX, evR, blkOf, evA, storeA, Nat.reduceEqDiff, resL, resV, oneOrTup, Int.reduceEq, Int.reduceLT, Int.reduceLE, Int.reduceNeg, Int.reduceAdd, Int.reduceSub, Int.reduceMul, Int.reduceToNat, Nat.reduceAdd, noUnk, AV.cells, reduceCtorEq, Nat.reduceLeDiff, Cells.get, Cells.getN, Nat.reduceMul, ↓bnd_assoc]
  refine Fin.loop (rmade_loop (jm := H.next) hE hw hl hb L.length 0 _ _ (zeros L.length) (by omega) (by simp) (fun j _ => zerosb_get _ j) (by simp only [↓sxp, sxq, ↓reduceIte, Nat.reduceBEq, Nat.reduceLT, evP, evX, evR, blkOf, evA, storeA, Nat.reduceEqDiff, resL, resV, oneOrTup, Int.reduceEq, Int.reduceLT, Int.reduceLE, Int.reduceNeg, Int.reduceAdd, Int.reduceSub, Int.reduceMul, Int.reduceToNat, Nat.reduceAdd, noUnk, AV.cells, reduceCtorEq, Nat.reduceLeDiff, Cells.get, Cells.getN, Nat.reduceMul, ↓bnd_assoc]) (by simp only [↓sxp, sxq, ↓reduceIte, Nat.reduceBEq, Nat.reduceLT, evP, evX, evR, blkOf, evA, storeA, Nat.reduceEqDiff, resL, resV, oneOrTup, Int.reduceEq, Int.reduceLT, Int.reduceLE, Int.reduceNeg, Int.reduceAdd, Int.reduceSub, Int.reduceMul, Int.reduceToNat, Nat.reduceAdd, noUnk, AV.cells, reduceCtorEq, Nat.reduceLeDiff, Cells.get, Cells.getN, Nat.reduceMul, ↓bnd_assoc]) (by simp only [↓sxp, sxq, ↓reduceIte, Nat.reduceBEq, Nat.reduceLT, evP, evX, evR, blkOf, evA, storeA, Nat.reduceEqDiff, resL, resV, oneOrTup, Int.reduceEq, Int.reduceLT, Int.reduceLE, Int.reduceNeg, Int.reduceAdd, Int.reduceSub, Int.reduceMul, Int.reduceToNat, Nat.reduceAdd, noUnk, AV.cells, reduceCtorEq, Nat.reduceLeDiff, Cells.get, Cells.getN, Nat.reduceMul, ↓bnd_assoc]) (by simp only [↓sxp, sxq, ↓reduceIte, Nat.reduceBEq, Nat.reduceLT, evP, evX, evR, blkOf, evA, storeA, Nat.reduceEqDiff, resL, resV, oneOrTup, Int.reduceEq, Int.reduceLT, Int.reduceLE, Int.reduceNeg, Int.reduceAdd, Int.reduceSub, Int.reduceMul, Int.reduceToNat, Nat.reduceAdd, noUnk, AV.cells, reduceCtorEq, Nat.reduceLeDiff, Cells.get, Cells.getN, Nat.reduceMul, ↓bnd_assoc]; rfl) (h2.ord [1, 1])) fun lv A' H' ⟨hlv, a5, h3⟩ => ?_
  subst hlv
  simp only [a5, ↓sxp, sxq, ↓reduceIte, Nat.reduceBEq, Nat.reduceLT, evP, evX, evR, blkOf, evA, storeA, Nat.reduceEqDiff, resL, resV, oneOrTup, Int.reduceEq, Int.reduceLT, Int.reduceLE, Int.reduceNeg, Int.reduceAdd, Int.reduceSub, Int.reduceMul, Int.reduceToNat, Nat.reduceAdd, noUnk, AV.cells, reduceCtorEq, Nat.reduceLeDiff, Cells.get, Cells.getN, Nat.reduceMul, ↓bnd_assoc]
  exact Fin.ret ⟨_, rfl, h3.ord [2]⟩
end
end Go.Proofs.Ytnfehkjkmlbceaa.Sx

/- The document's Known. -/
namespace Go.Proofs.Ytnfehkjkmlbceaa.Sx
open HP
section
variable {W : World} {E : Env} {H : Heap} {Γ : List HP}
theorem known_loop0 (hE : EnvK E) {L : List T3} {vl : AV} {jh : Nat} {df : List Nat} {g : List Int} {gv : AV} (hb : g.length < 65536) : ∀ (m i : Nat) (A : Tm) (H : Heap) (hs : List Bool), hs.length = L.length → inR L.length (g.drop i) = true → i + m = g.length → getX A 0 = vl → getX A 1 = gv → getX A 5 = slB jh L.length → getX A 6 = .int .i64 i → Holds H (row 33 3 (flat3 L) vl :: blk jh (bls hs) 4 :: isP W g gv :: Γ) →
    ∃ lv A' H', run W E (.loop lp26_0) ⟨A, df, none⟩ H = some (lv, ⟨A', df, none⟩, H') ∧ (lv = .exit 0 ∧ getX A' 0 = vl ∧ getX A' 5 = slB jh L.length ∧ Holds H' (row 33 3 (flat3 L) vl :: blk jh (bls (setAll hs (g.drop i))) 4 :: isP W g gv :: Γ)) := by
  have hlp : ∀ f H, run W E lp26_0 f H = run W E lp26_0 f H := fun _ _ => rfl
  conv at hlp => enter [f, H, 2]; unfold lp26_0
  intro m
  induction m with
  | zero =>
    intro i A H hs hl hin him a0 a1 a5 a6 h
    have : i = g.length := by omega
    subst this
    obtain ⟨ids, his⟩ := (h.ord [2]).is_get
    have hlg := his.len
    have hlt : ¬ (g.length : Int) < g.length := by omega
    rw [run_loop]
    simp only [hlp, a1, a6, hlg, hlt, ↓sxp, sxq, ↓reduceIte, Nat.reduceBEq, Nat.reduceLT, evP, evX, evR, blkOf, evA, storeA, Nat.reduceEqDiff, resL, resV, oneOrTup, Int.reduceEq, Int.reduceLT, Int.reduceLE, Int.reduceNeg, Int.reduceAdd, Int.reduceSub, Int.reduceMul, Int.reduceToNat, Nat.reduceAdd, noUnk, AV.cells, reduceCtorEq, Nat.reduceLeDiff, Cells.get, Cells.getN, Nat.reduceMul, ↓bnd_assoc]
    exact ⟨_, _, _, rfl, rfl, by simp only [a0, ↓sxp, sxq, ↓reduceIte, Nat.reduceBEq, Nat.reduceLT, evP, evX, evR, blkOf, evA, storeA, Nat.reduceEqDiff, resL, resV, oneOrTup, Int.reduceEq, Int.reduceLT, Int.reduceLE, Int.reduceNeg, Int.reduceAdd, Int.reduceSub, Int.reduceMul, Int.reduceToNat, Nat.reduceAdd, noUnk, AV.cells, reduceCtorEq, Nat.reduceLeDiff, Cells.get, Cells.getN, Nat.reduceMul, ↓bnd_assoc], by simp only [a5, ↓sxp, sxq, ↓reduceIte, Nat.reduceBEq, Nat.reduceLT, evP, evX, evR, blkOf, evA, storeA, Nat.reduceEqDiff, resL, resV, oneOrTup, Int.reduceEq, Int.reduceLT, Int.reduceLE, Int.reduceNeg, Int.reduceAdd, Int.reduceSub, Int.reduceMul, Int.reduceToNat, Nat.reduceAdd, noUnk, AV.cells, reduceCtorEq, Nat.reduceLeDiff, Cells.get, Cells.getN, Nat.reduceMul, ↓bnd_assoc], by rw [List.drop_length]; exact h⟩
  | succ m ih =>
    intro i A H hs hl hin him a0 a1 a5 a6 h
    have hlt : (i : Int) < g.length := by omega
    have hwr : IntKind.i64.wrap ((i : Int) + 1) = ((i + 1 : Nat) : Int) := by rw [w64 (by omega)]; simp
    obtain ⟨ids, his⟩ := (h.ord [2]).is_get
    have hlg := his.len
    obtain ⟨p, e1, e2⟩ := his.at (i := i) (by omega)
    rw [List.drop_eq_getElem_cons (show i < g.length by omega)] at hin ⊢
    have hin2 : (0 ≤ g[i] ∧ g[i] < L.length) ∧ inR L.length (g.drop (i + 1)) = true := by have h := hin; simp only [inR, List.all_cons, Bool.and_eq_true, decide_eq_true_eq] at h; exact h
    obtain ⟨hn0, hin3⟩ := hin2
    generalize g[i] = n at *
    apply Fin.ex3
    rw [run_loop]
    simp only [hlp, a0, a1, a5, a6, hlg, hlt, e1, e2, hn0, and_self, ↓sxp, sxq, ↓reduceIte, Nat.reduceBEq, Nat.reduceLT, evP, evX, evR, blkOf, evA, storeA, Nat.reduceEqDiff, resL, resV, oneOrTup, Int.reduceEq, Int.reduceLT, Int.reduceLE, Int.reduceNeg, Int.reduceAdd, Int.reduceSub, Int.reduceMul, Int.reduceToNat, Nat.reduceAdd, noUnk, AV.cells, reduceCtorEq, Nat.reduceLeDiff, Cells.get, Cells.getN, Nat.reduceMul, ↓bnd_assoc]
    refine Fin.write (bls (hs.set n.toNat true)) (h.ord [1]) (by simp only [Cells.setN, Cells.set, bls_set]) (by simp; omega) rfl fun H4 h4 => ?_
    simp only [a6, hwr, ↓sxp, sxq, ↓reduceIte, Nat.reduceBEq, Nat.reduceLT, evP, evX, evR, blkOf, evA, storeA, Nat.reduceEqDiff, resL, resV, oneOrTup, Int.reduceEq, Int.reduceLT, Int.reduceLE, Int.reduceNeg, Int.reduceAdd, Int.reduceSub, Int.reduceMul, Int.reduceToNat, Nat.reduceAdd, noUnk, AV.cells, reduceCtorEq, Nat.reduceLeDiff, Cells.get, Cells.getN, Nat.reduceMul, ↓bnd_assoc]
    exact Fin.of3 (ih (i + 1) _ _ (hs.set n.toNat true) (by simp; exact hl) hin3 (by omega) (by simp only [a0, ↓sxp, sxq, ↓reduceIte, Nat.reduceBEq, Nat.reduceLT, evP, evX, evR, blkOf, evA, storeA, Nat.reduceEqDiff, resL, resV, oneOrTup, Int.reduceEq, Int.reduceLT, Int.reduceLE, Int.reduceNeg, Int.reduceAdd, Int.reduceSub, Int.reduceMul, Int.reduceToNat, Nat.reduceAdd, noUnk, AV.cells, reduceCtorEq, Nat.reduceLeDiff, Cells.get, Cells.getN, Nat.reduceMul, ↓bnd_assoc]) (by simp only [a1, ↓sxp, sxq, ↓reduceIte, Nat.reduceBEq, Nat.reduceLT, evP, evX, evR, blkOf, evA, storeA, Nat.reduceEqDiff, resL, resV, oneOrTup, Int.reduceEq, Int.reduceLT, Int.reduceLE, Int.reduceNeg, Int.reduceAdd, Int.reduceSub, Int.reduceMul, Int.reduceToNat, Nat.reduceAdd, noUnk, AV.cells, reduceCtorEq, Nat.reduceLeDiff, Cells.get, Cells.getN, Nat.reduceMul, ↓bnd_assoc]) (by simp only [a5, ↓sxp, sxq, ↓reduceIte, Nat.reduceBEq, Nat.reduceLT, evP, evX, evR, blkOf, evA, storeA, Nat.reduceEqDiff, resL, resV, oneOrTup, Int.reduceEq, Int.reduceLT, Int.reduceLE, Int.reduceNeg, Int.reduceAdd, Int.reduceSub, Int.reduceMul, Int.reduceToNat, Nat.reduceAdd, noUnk, AV.cells, reduceCtorEq, Nat.reduceLeDiff, Cells.get, Cells.getN, Nat.reduceMul, ↓bnd_assoc]) (by simp only [↓sxp, sxq, ↓reduceIte, Nat.reduceBEq, Nat.reduceLT, evP, evX, evR, blkOf, evA, storeA, Nat.reduceEqDiff, resL, resV, oneOrTup, Int.reduceEq, Int.reduceLT, Int.reduceLE, Int.reduceNeg, Int.reduceAdd, Int.reduceSub, Int.reduceMul, Int.reduceToNat, Nat.reduceAdd, noUnk, AV.cells, reduceCtorEq, Nat.reduceLeDiff, Cells.get, Cells.getN, Nat.reduceMul, ↓bnd_assoc]) (h4.ord [1])) fun _ _ _ h => h
/-- What is opened and not yet known, the last of it, from place i on. -/
def moreF (L : List T3) (hs ms : List Bool) : Nat → Nat → Int → Int
  | 0, _, b => b
  | m + 1, i, b => moreF L hs ms m (i + 1) (if (hs.getD i false && (opM L ms i).2 && !(hs.getD (opM L ms i).1.toNat false)) = true then (opM L ms i).1 else b)
theorem known_loop2 (hE : EnvK E) {L : List T3} {hs ms : List Bool} {vl : AV} {jh jm : Nat} {df : List Nat} (hw : WFL L) (hw4 : W4 L) (hl : hs.length = L.length) (hm : ms.length = L.length) (hb : L.length < 256) : ∀ (m i : Nat) (A : Tm) (H : Heap) (b : Int), i + m = L.length → getX A 0 = vl → getX A 5 = slB jh L.length → getX A 7 = slB jm L.length → getX A 8 = .int .i64 b → getX A 9 = .int .i64 i → Holds H (row 33 3 (flat3 L) vl :: blk jh (bls hs) 4 :: blk jm (bls ms) 4 :: Γ) →
    ∃ lv A' H', run W E (.loop lp26_2) ⟨A, df, none⟩ H = some (lv, ⟨A', df, none⟩, H') ∧ (lv = .exit 4 ∧ H' = H ∧ getX A' 0 = vl ∧ getX A' 5 = slB jh L.length ∧ getX A' 8 = .int .i64 (moreF L hs ms m i b)) := by
  have hlp : ∀ f H, run W E lp26_2 f H = run W E lp26_2 f H := fun _ _ => rfl
  conv at hlp => enter [f, H, 2]; unfold lp26_2
  intro m
  induction m with
  | zero =>
    intro i A H b him a0 a5 a7 a8 a9 h
    have : i = L.length := by omega
    subst this
    obtain ⟨al, cl, rfl⟩ := h.row_len (by omega) (n := L.length) (flat3_len _)
    have hlt : ¬ (L.length : Int) < L.length := by omega
    rw [run_loop]
    simp only [hlp, a0, a9, hlt, ↓sxp, sxq, ↓reduceIte, Nat.reduceBEq, Nat.reduceLT, evP, evX, evR, blkOf, evA, storeA, Nat.reduceEqDiff, resL, resV, oneOrTup, Int.reduceEq, Int.reduceLT, Int.reduceLE, Int.reduceNeg, Int.reduceAdd, Int.reduceSub, Int.reduceMul, Int.reduceToNat, Nat.reduceAdd, noUnk, AV.cells, reduceCtorEq, Nat.reduceLeDiff, Cells.get, Cells.getN, Nat.reduceMul, ↓bnd_assoc]
    exact ⟨_, _, _, rfl, rfl, rfl, by simp only [a0, ↓sxp, sxq, ↓reduceIte, Nat.reduceBEq, Nat.reduceLT, evP, evX, evR, blkOf, evA, storeA, Nat.reduceEqDiff, resL, resV, oneOrTup, Int.reduceEq, Int.reduceLT, Int.reduceLE, Int.reduceNeg, Int.reduceAdd, Int.reduceSub, Int.reduceMul, Int.reduceToNat, Nat.reduceAdd, noUnk, AV.cells, reduceCtorEq, Nat.reduceLeDiff, Cells.get, Cells.getN, Nat.reduceMul, ↓bnd_assoc], by simp only [a5, ↓sxp, sxq, ↓reduceIte, Nat.reduceBEq, Nat.reduceLT, evP, evX, evR, blkOf, evA, storeA, Nat.reduceEqDiff, resL, resV, oneOrTup, Int.reduceEq, Int.reduceLT, Int.reduceLE, Int.reduceNeg, Int.reduceAdd, Int.reduceSub, Int.reduceMul, Int.reduceToNat, Nat.reduceAdd, noUnk, AV.cells, reduceCtorEq, Nat.reduceLeDiff, Cells.get, Cells.getN, Nat.reduceMul, ↓bnd_assoc], by simp only [a8, moreF, ↓sxp, sxq, ↓reduceIte, Nat.reduceBEq, Nat.reduceLT, evP, evX, evR, blkOf, evA, storeA, Nat.reduceEqDiff, resL, resV, oneOrTup, Int.reduceEq, Int.reduceLT, Int.reduceLE, Int.reduceNeg, Int.reduceAdd, Int.reduceSub, Int.reduceMul, Int.reduceToNat, Nat.reduceAdd, noUnk, AV.cells, reduceCtorEq, Nat.reduceLeDiff, Cells.get, Cells.getN, Nat.reduceMul, ↓bnd_assoc]⟩
  | succ m ih =>
    intro i A H b him a0 a5 a7 a8 a9 h
    have hlt : (i : Int) < L.length := by omega
    have hi0 : (0 : Int) ≤ i ∧ (i : Int) < L.length := by omega
    have hwr : IntKind.i64.wrap ((i : Int) + 1) = ((i + 1 : Nat) : Int) := by rw [w64 (by omega)]; simp
    obtain ⟨j, l, c, rfl, hg⟩ := h.row_get (by omega) (n := L.length) (flat3_len _) (by omega)
    have hx : L[i]? = some L[i] := List.getElem?_eq_getElem (by omega)
    obtain ⟨hf1, hf2, hf3⟩ := flat3_get hx
    obtain ⟨w1, w2⟩ := hw i _ hx
    have h4' := hw4 i _ hx
    have hcm : L.getD i (0, 0, 0) = L[i] := by simp [List.getD_eq_getElem?_getD, hx]
    have hhi := bls_get (show i < hs.length by omega)
    have gh := (h.ord [1]).get
    have gm := (h.ord [2]).get
    have hin := op_in (ms := ms) hw (show i < L.length by omega)
    have hop : opM L ms i = (let x := L[i]; if x.1 = 4 then (x.2.2, ms.getD (L.getD x.2.1.toNat (0, 0, 0)).2.1.toNat false) else if x.1 = 5 then (x.2.2, ms.getD x.2.1.toNat false) else if x.1 = 8 then (x.2.2, true) else (0, false)) := by
      unfold opM; rw [hcm]
    rw [moreF]
    rw [hop] at hin ⊢
    generalize L[i] = x at *
    obtain ⟨kd, u, w⟩ := x
    simp only at hf1 hf2 hf3 w1 w2 h4' hin ⊢
    have fin : ∀ (A' : Tm) (b' : Int), getX A' 0 = .sl (some ⟨.own j, 0⟩) L.length c → getX A' 5 = slB jh L.length → getX A' 7 = slB jm L.length → getX A' 8 = .int .i64 b' → getX A' 9 = .int .i64 ((i + 1 : Nat) : Int) →
        Fin (Out3 df none fun lv A' H' => lv = .exit 4 ∧ H' = H ∧ getX A' 0 = .sl (some ⟨.own j, 0⟩) L.length c ∧ getX A' 5 = slB jh L.length ∧ getX A' 8 = .int .i64 (moreF L hs ms m (i + 1) b')) (run W E (.loop lp26_2) ⟨A', df, none⟩ H) := fun A' b' q1 q2 q3 q4 q5 =>
      Fin.of3 (ih (i + 1) A' H b' (by omega) q1 q2 q3 q4 q5 h) fun _ _ _ h => h
    apply Fin.ex3
    rw [run_loop]
    cases hb0 : hs.getD i false with
    | false =>
      rw [hb0] at hhi
      simp only [hlp, a0, a5, a7, a8, a9, hlt, hi0, and_self, ↓gh, hhi, hwr, Int.toNat_natCast, Bool.false_and, ↓sxp, sxq, ↓reduceIte, Nat.reduceBEq, Nat.reduceLT, evP, evX, evR, blkOf, evA, storeA, Nat.reduceEqDiff, resL, resV, oneOrTup, Int.reduceEq, Int.reduceLT, Int.reduceLE, Int.reduceNeg, Int.reduceAdd, Int.reduceSub, Int.reduceMul, Int.reduceToNat, Nat.reduceAdd, noUnk, AV.cells, reduceCtorEq, Nat.reduceLeDiff, Cells.get, Cells.getN, Nat.reduceMul, ↓bnd_assoc]
      exact fin _ _ (by simp only [a0, ↓sxp, sxq, ↓reduceIte, Nat.reduceBEq, Nat.reduceLT, evP, evX, evR, blkOf, evA, storeA, Nat.reduceEqDiff, resL, resV, oneOrTup, Int.reduceEq, Int.reduceLT, Int.reduceLE, Int.reduceNeg, Int.reduceAdd, Int.reduceSub, Int.reduceMul, Int.reduceToNat, Nat.reduceAdd, noUnk, AV.cells, reduceCtorEq, Nat.reduceLeDiff, Cells.get, Cells.getN, Nat.reduceMul, ↓bnd_assoc]) (by simp only [a5, ↓sxp, sxq, ↓reduceIte, Nat.reduceBEq, Nat.reduceLT, evP, evX, evR, blkOf, evA, storeA, Nat.reduceEqDiff, resL, resV, oneOrTup, Int.reduceEq, Int.reduceLT, Int.reduceLE, Int.reduceNeg, Int.reduceAdd, Int.reduceSub, Int.reduceMul, Int.reduceToNat, Nat.reduceAdd, noUnk, AV.cells, reduceCtorEq, Nat.reduceLeDiff, Cells.get, Cells.getN, Nat.reduceMul, ↓bnd_assoc]) (by simp only [a7, ↓sxp, sxq, ↓reduceIte, Nat.reduceBEq, Nat.reduceLT, evP, evX, evR, blkOf, evA, storeA, Nat.reduceEqDiff, resL, resV, oneOrTup, Int.reduceEq, Int.reduceLT, Int.reduceLE, Int.reduceNeg, Int.reduceAdd, Int.reduceSub, Int.reduceMul, Int.reduceToNat, Nat.reduceAdd, noUnk, AV.cells, reduceCtorEq, Nat.reduceLeDiff, Cells.get, Cells.getN, Nat.reduceMul, ↓bnd_assoc]) (by simp only [a8, ↓sxp, sxq, ↓reduceIte, Nat.reduceBEq, Nat.reduceLT, evP, evX, evR, blkOf, evA, storeA, Nat.reduceEqDiff, resL, resV, oneOrTup, Int.reduceEq, Int.reduceLT, Int.reduceLE, Int.reduceNeg, Int.reduceAdd, Int.reduceSub, Int.reduceMul, Int.reduceToNat, Nat.reduceAdd, noUnk, AV.cells, reduceCtorEq, Nat.reduceLeDiff, Cells.get, Cells.getN, Nat.reduceMul, ↓bnd_assoc]) (by simp only [↓sxp, sxq, ↓reduceIte, Nat.reduceBEq, Nat.reduceLT, evP, evX, evR, blkOf, evA, storeA, Nat.reduceEqDiff, resL, resV, oneOrTup, Int.reduceEq, Int.reduceLT, Int.reduceLE, Int.reduceNeg, Int.reduceAdd, Int.reduceSub, Int.reduceMul, Int.reduceToNat, Nat.reduceAdd, noUnk, AV.cells, reduceCtorEq, Nat.reduceLeDiff, Cells.get, Cells.getN, Nat.reduceMul, ↓bnd_assoc])
    | true =>
      rw [hb0] at hhi
      by_cases k4 : kd = 4
      · subst k4
        obtain ⟨y, hy, hy2⟩ := h4' rfl
        obtain ⟨u0, u1⟩ := w1 (by omega) (by omega)
        obtain ⟨v0, v1⟩ := w2 (.inl rfl)
        have hu0 : 0 ≤ u ∧ u < L.length := by omega
        have hv0 : 0 ≤ w ∧ w < L.length := by omega
        obtain ⟨_, hfy, _⟩ := flat3_get hy
        obtain ⟨y0, y1⟩ := (hw _ _ hy).1 (by omega) (by omega)
        have hy0 : 0 ≤ y.2.1 ∧ y.2.1 < L.length := by omega
        have hgd : L.getD u.toNat (0, 0, 0) = y := by simp [List.getD_eq_getElem?_getD, hy]
        have hmu := bls_get (show y.2.1.toNat < ms.length by omega)
        have hhw := bls_get (show w.toNat < hs.length by omega)
        rw [hgd]
        cases hc : ms.getD y.2.1.toNat false
        · rw [hc] at hmu
          simp only [hlp, a0, a5, a7, a8, a9, hlt, hi0, hu0, hv0, hy0, and_self, ↓hg, hf1, hf2, hf3, hfy, ↓gh, ↓gm, hhi, hmu, hwr, Int.toNat_natCast, Bool.true_and, Bool.false_and, hc, ↓sxp, sxq, ↓reduceIte, Nat.reduceBEq, Nat.reduceLT, evP, evX, evR, blkOf, evA, storeA, Nat.reduceEqDiff, resL, resV, oneOrTup, Int.reduceEq, Int.reduceLT, Int.reduceLE, Int.reduceNeg, Int.reduceAdd, Int.reduceSub, Int.reduceMul, Int.reduceToNat, Nat.reduceAdd, noUnk, AV.cells, reduceCtorEq, Nat.reduceLeDiff, Cells.get, Cells.getN, Nat.reduceMul, ↓bnd_assoc]
          exact fin _ _ (by simp only [a0, ↓sxp, sxq, ↓reduceIte, Nat.reduceBEq, Nat.reduceLT, evP, evX, evR, blkOf, evA, storeA, Nat.reduceEqDiff, resL, resV, oneOrTup, Int.reduceEq, Int.reduceLT, Int.reduceLE, Int.reduceNeg, Int.reduceAdd, Int.reduceSub, Int.reduceMul, Int.reduceToNat, Nat.reduceAdd, noUnk, AV.cells, reduceCtorEq, Nat.reduceLeDiff, Cells.get, Cells.getN, Nat.reduceMul, ↓bnd_assoc]) (by simp only [a5, ↓sxp, sxq, ↓reduceIte, Nat.reduceBEq, Nat.reduceLT, evP, evX, evR, blkOf, evA, storeA, Nat.reduceEqDiff, resL, resV, oneOrTup, Int.reduceEq, Int.reduceLT, Int.reduceLE, Int.reduceNeg, Int.reduceAdd, Int.reduceSub, Int.reduceMul, Int.reduceToNat, Nat.reduceAdd, noUnk, AV.cells, reduceCtorEq, Nat.reduceLeDiff, Cells.get, Cells.getN, Nat.reduceMul, ↓bnd_assoc]) (by simp only [a7, ↓sxp, sxq, ↓reduceIte, Nat.reduceBEq, Nat.reduceLT, evP, evX, evR, blkOf, evA, storeA, Nat.reduceEqDiff, resL, resV, oneOrTup, Int.reduceEq, Int.reduceLT, Int.reduceLE, Int.reduceNeg, Int.reduceAdd, Int.reduceSub, Int.reduceMul, Int.reduceToNat, Nat.reduceAdd, noUnk, AV.cells, reduceCtorEq, Nat.reduceLeDiff, Cells.get, Cells.getN, Nat.reduceMul, ↓bnd_assoc]) (by simp only [a8, ↓sxp, sxq, ↓reduceIte, Nat.reduceBEq, Nat.reduceLT, evP, evX, evR, blkOf, evA, storeA, Nat.reduceEqDiff, resL, resV, oneOrTup, Int.reduceEq, Int.reduceLT, Int.reduceLE, Int.reduceNeg, Int.reduceAdd, Int.reduceSub, Int.reduceMul, Int.reduceToNat, Nat.reduceAdd, noUnk, AV.cells, reduceCtorEq, Nat.reduceLeDiff, Cells.get, Cells.getN, Nat.reduceMul, ↓bnd_assoc]) (by simp only [↓sxp, sxq, ↓reduceIte, Nat.reduceBEq, Nat.reduceLT, evP, evX, evR, blkOf, evA, storeA, Nat.reduceEqDiff, resL, resV, oneOrTup, Int.reduceEq, Int.reduceLT, Int.reduceLE, Int.reduceNeg, Int.reduceAdd, Int.reduceSub, Int.reduceMul, Int.reduceToNat, Nat.reduceAdd, noUnk, AV.cells, reduceCtorEq, Nat.reduceLeDiff, Cells.get, Cells.getN, Nat.reduceMul, ↓bnd_assoc])
        · rw [hc] at hmu
          cases hd : hs.getD w.toNat false
          all_goals
            rw [hd] at hhw
            simp only [hlp, a0, a5, a7, a8, a9, hlt, hi0, hu0, hv0, hy0, and_self, ↓hg, hf1, hf2, hf3, hfy, ↓gh, ↓gm, hhi, hmu, hhw, hwr, Int.toNat_natCast, Bool.true_and, Bool.not_false, Bool.not_true, hc, hd, ↓sxp, sxq, ↓reduceIte, Nat.reduceBEq, Nat.reduceLT, evP, evX, evR, blkOf, evA, storeA, Nat.reduceEqDiff, resL, resV, oneOrTup, Int.reduceEq, Int.reduceLT, Int.reduceLE, Int.reduceNeg, Int.reduceAdd, Int.reduceSub, Int.reduceMul, Int.reduceToNat, Nat.reduceAdd, noUnk, AV.cells, reduceCtorEq, Nat.reduceLeDiff, Cells.get, Cells.getN, Nat.reduceMul, ↓bnd_assoc]
            exact fin _ _ (by simp only [a0, ↓sxp, sxq, ↓reduceIte, Nat.reduceBEq, Nat.reduceLT, evP, evX, evR, blkOf, evA, storeA, Nat.reduceEqDiff, resL, resV, oneOrTup, Int.reduceEq, Int.reduceLT, Int.reduceLE, Int.reduceNeg, Int.reduceAdd, Int.reduceSub, Int.reduceMul, Int.reduceToNat, Nat.reduceAdd, noUnk, AV.cells, reduceCtorEq, Nat.reduceLeDiff, Cells.get, Cells.getN, Nat.reduceMul, ↓bnd_assoc]) (by simp only [a5, ↓sxp, sxq, ↓reduceIte, Nat.reduceBEq, Nat.reduceLT, evP, evX, evR, blkOf, evA, storeA, Nat.reduceEqDiff, resL, resV, oneOrTup, Int.reduceEq, Int.reduceLT, Int.reduceLE, Int.reduceNeg, Int.reduceAdd, Int.reduceSub, Int.reduceMul, Int.reduceToNat, Nat.reduceAdd, noUnk, AV.cells, reduceCtorEq, Nat.reduceLeDiff, Cells.get, Cells.getN, Nat.reduceMul, ↓bnd_assoc]) (by simp only [a7, ↓sxp, sxq, ↓reduceIte, Nat.reduceBEq, Nat.reduceLT, evP, evX, evR, blkOf, evA, storeA, Nat.reduceEqDiff, resL, resV, oneOrTup, Int.reduceEq, Int.reduceLT, Int.reduceLE, Int.reduceNeg, Int.reduceAdd, Int.reduceSub, Int.reduceMul, Int.reduceToNat, Nat.reduceAdd, noUnk, AV.cells, reduceCtorEq, Nat.reduceLeDiff, Cells.get, Cells.getN, Nat.reduceMul, ↓bnd_assoc]) (by simp only [a8, ↓sxp, sxq, ↓reduceIte, Nat.reduceBEq, Nat.reduceLT, evP, evX, evR, blkOf, evA, storeA, Nat.reduceEqDiff, resL, resV, oneOrTup, Int.reduceEq, Int.reduceLT, Int.reduceLE, Int.reduceNeg, Int.reduceAdd, Int.reduceSub, Int.reduceMul, Int.reduceToNat, Nat.reduceAdd, noUnk, AV.cells, reduceCtorEq, Nat.reduceLeDiff, Cells.get, Cells.getN, Nat.reduceMul, ↓bnd_assoc]) (by simp only [↓sxp, sxq, ↓reduceIte, Nat.reduceBEq, Nat.reduceLT, evP, evX, evR, blkOf, evA, storeA, Nat.reduceEqDiff, resL, resV, oneOrTup, Int.reduceEq, Int.reduceLT, Int.reduceLE, Int.reduceNeg, Int.reduceAdd, Int.reduceSub, Int.reduceMul, Int.reduceToNat, Nat.reduceAdd, noUnk, AV.cells, reduceCtorEq, Nat.reduceLeDiff, Cells.get, Cells.getN, Nat.reduceMul, ↓bnd_assoc])
      by_cases k5 : kd = 5
      · subst k5
        obtain ⟨u0, u1⟩ := w1 (by omega) (by omega)
        obtain ⟨v0, v1⟩ := w2 (.inr (.inl rfl))
        have hu0 : 0 ≤ u ∧ u < L.length := by omega
        have hv0 : 0 ≤ w ∧ w < L.length := by omega
        have hmu := bls_get (show u.toNat < ms.length by omega)
        have hhw := bls_get (show w.toNat < hs.length by omega)
        cases hc : ms.getD u.toNat false
        · rw [hc] at hmu
          simp only [hlp, a0, a5, a7, a8, a9, hlt, hi0, hu0, hv0, and_self, ↓hg, hf1, hf2, hf3, ↓gh, ↓gm, hhi, hmu, hwr, Int.toNat_natCast, Bool.true_and, Bool.false_and, Int.reduceEq, hc, ↓sxp, sxq, ↓reduceIte, Nat.reduceBEq, Nat.reduceLT, evP, evX, evR, blkOf, evA, storeA, Nat.reduceEqDiff, resL, resV, oneOrTup, Int.reduceEq, Int.reduceLT, Int.reduceLE, Int.reduceNeg, Int.reduceAdd, Int.reduceSub, Int.reduceMul, Int.reduceToNat, Nat.reduceAdd, noUnk, AV.cells, reduceCtorEq, Nat.reduceLeDiff, Cells.get, Cells.getN, Nat.reduceMul, ↓bnd_assoc]
          exact fin _ _ (by simp only [a0, ↓sxp, sxq, ↓reduceIte, Nat.reduceBEq, Nat.reduceLT, evP, evX, evR, blkOf, evA, storeA, Nat.reduceEqDiff, resL, resV, oneOrTup, Int.reduceEq, Int.reduceLT, Int.reduceLE, Int.reduceNeg, Int.reduceAdd, Int.reduceSub, Int.reduceMul, Int.reduceToNat, Nat.reduceAdd, noUnk, AV.cells, reduceCtorEq, Nat.reduceLeDiff, Cells.get, Cells.getN, Nat.reduceMul, ↓bnd_assoc]) (by simp only [a5, ↓sxp, sxq, ↓reduceIte, Nat.reduceBEq, Nat.reduceLT, evP, evX, evR, blkOf, evA, storeA, Nat.reduceEqDiff, resL, resV, oneOrTup, Int.reduceEq, Int.reduceLT, Int.reduceLE, Int.reduceNeg, Int.reduceAdd, Int.reduceSub, Int.reduceMul, Int.reduceToNat, Nat.reduceAdd, noUnk, AV.cells, reduceCtorEq, Nat.reduceLeDiff, Cells.get, Cells.getN, Nat.reduceMul, ↓bnd_assoc]) (by simp only [a7, ↓sxp, sxq, ↓reduceIte, Nat.reduceBEq, Nat.reduceLT, evP, evX, evR, blkOf, evA, storeA, Nat.reduceEqDiff, resL, resV, oneOrTup, Int.reduceEq, Int.reduceLT, Int.reduceLE, Int.reduceNeg, Int.reduceAdd, Int.reduceSub, Int.reduceMul, Int.reduceToNat, Nat.reduceAdd, noUnk, AV.cells, reduceCtorEq, Nat.reduceLeDiff, Cells.get, Cells.getN, Nat.reduceMul, ↓bnd_assoc]) (by simp only [a8, ↓sxp, sxq, ↓reduceIte, Nat.reduceBEq, Nat.reduceLT, evP, evX, evR, blkOf, evA, storeA, Nat.reduceEqDiff, resL, resV, oneOrTup, Int.reduceEq, Int.reduceLT, Int.reduceLE, Int.reduceNeg, Int.reduceAdd, Int.reduceSub, Int.reduceMul, Int.reduceToNat, Nat.reduceAdd, noUnk, AV.cells, reduceCtorEq, Nat.reduceLeDiff, Cells.get, Cells.getN, Nat.reduceMul, ↓bnd_assoc]) (by simp only [↓sxp, sxq, ↓reduceIte, Nat.reduceBEq, Nat.reduceLT, evP, evX, evR, blkOf, evA, storeA, Nat.reduceEqDiff, resL, resV, oneOrTup, Int.reduceEq, Int.reduceLT, Int.reduceLE, Int.reduceNeg, Int.reduceAdd, Int.reduceSub, Int.reduceMul, Int.reduceToNat, Nat.reduceAdd, noUnk, AV.cells, reduceCtorEq, Nat.reduceLeDiff, Cells.get, Cells.getN, Nat.reduceMul, ↓bnd_assoc])
        · rw [hc] at hmu
          cases hd : hs.getD w.toNat false
          all_goals
            rw [hd] at hhw
            simp only [hlp, a0, a5, a7, a8, a9, hlt, hi0, hu0, hv0, and_self, ↓hg, hf1, hf2, hf3, ↓gh, ↓gm, hhi, hmu, hhw, hwr, Int.toNat_natCast, Bool.true_and, Bool.not_false, Bool.not_true, Int.reduceEq, hc, hd, ↓sxp, sxq, ↓reduceIte, Nat.reduceBEq, Nat.reduceLT, evP, evX, evR, blkOf, evA, storeA, Nat.reduceEqDiff, resL, resV, oneOrTup, Int.reduceEq, Int.reduceLT, Int.reduceLE, Int.reduceNeg, Int.reduceAdd, Int.reduceSub, Int.reduceMul, Int.reduceToNat, Nat.reduceAdd, noUnk, AV.cells, reduceCtorEq, Nat.reduceLeDiff, Cells.get, Cells.getN, Nat.reduceMul, ↓bnd_assoc]
            exact fin _ _ (by simp only [a0, ↓sxp, sxq, ↓reduceIte, Nat.reduceBEq, Nat.reduceLT, evP, evX, evR, blkOf, evA, storeA, Nat.reduceEqDiff, resL, resV, oneOrTup, Int.reduceEq, Int.reduceLT, Int.reduceLE, Int.reduceNeg, Int.reduceAdd, Int.reduceSub, Int.reduceMul, Int.reduceToNat, Nat.reduceAdd, noUnk, AV.cells, reduceCtorEq, Nat.reduceLeDiff, Cells.get, Cells.getN, Nat.reduceMul, ↓bnd_assoc]) (by simp only [a5, ↓sxp, sxq, ↓reduceIte, Nat.reduceBEq, Nat.reduceLT, evP, evX, evR, blkOf, evA, storeA, Nat.reduceEqDiff, resL, resV, oneOrTup, Int.reduceEq, Int.reduceLT, Int.reduceLE, Int.reduceNeg, Int.reduceAdd, Int.reduceSub, Int.reduceMul, Int.reduceToNat, Nat.reduceAdd, noUnk, AV.cells, reduceCtorEq, Nat.reduceLeDiff, Cells.get, Cells.getN, Nat.reduceMul, ↓bnd_assoc]) (by simp only [a7, ↓sxp, sxq, ↓reduceIte, Nat.reduceBEq, Nat.reduceLT, evP, evX, evR, blkOf, evA, storeA, Nat.reduceEqDiff, resL, resV, oneOrTup, Int.reduceEq, Int.reduceLT, Int.reduceLE, Int.reduceNeg, Int.reduceAdd, Int.reduceSub, Int.reduceMul, Int.reduceToNat, Nat.reduceAdd, noUnk, AV.cells, reduceCtorEq, Nat.reduceLeDiff, Cells.get, Cells.getN, Nat.reduceMul, ↓bnd_assoc]) (by simp only [a8, ↓sxp, sxq, ↓reduceIte, Nat.reduceBEq, Nat.reduceLT, evP, evX, evR, blkOf, evA, storeA, Nat.reduceEqDiff, resL, resV, oneOrTup, Int.reduceEq, Int.reduceLT, Int.reduceLE, Int.reduceNeg, Int.reduceAdd, Int.reduceSub, Int.reduceMul, Int.reduceToNat, Nat.reduceAdd, noUnk, AV.cells, reduceCtorEq, Nat.reduceLeDiff, Cells.get, Cells.getN, Nat.reduceMul, ↓bnd_assoc]) (by simp only [↓sxp, sxq, ↓reduceIte, Nat.reduceBEq, Nat.reduceLT, evP, evX, evR, blkOf, evA, storeA, Nat.reduceEqDiff, resL, resV, oneOrTup, Int.reduceEq, Int.reduceLT, Int.reduceLE, Int.reduceNeg, Int.reduceAdd, Int.reduceSub, Int.reduceMul, Int.reduceToNat, Nat.reduceAdd, noUnk, AV.cells, reduceCtorEq, Nat.reduceLeDiff, Cells.get, Cells.getN, Nat.reduceMul, ↓bnd_assoc])
      by_cases k8 : kd = 8
      · subst k8
        obtain ⟨v0, v1⟩ := w2 (.inr (.inr rfl))
        have hv0 : 0 ≤ w ∧ w < L.length := by omega
        have hhw := bls_get (show w.toNat < hs.length by omega)
        cases hd : hs.getD w.toNat false
        all_goals
          rw [hd] at hhw
          simp only [hlp, a0, a5, a7, a8, a9, hlt, hi0, hv0, and_self, ↓hg, hf1, hf2, hf3, ↓gh, ↓gm, hhi, hhw, hwr, Int.toNat_natCast, Bool.true_and, Bool.not_false, Bool.not_true, Int.reduceEq, hd, ↓sxp, sxq, ↓reduceIte, Nat.reduceBEq, Nat.reduceLT, evP, evX, evR, blkOf, evA, storeA, Nat.reduceEqDiff, resL, resV, oneOrTup, Int.reduceEq, Int.reduceLT, Int.reduceLE, Int.reduceNeg, Int.reduceAdd, Int.reduceSub, Int.reduceMul, Int.reduceToNat, Nat.reduceAdd, noUnk, AV.cells, reduceCtorEq, Nat.reduceLeDiff, Cells.get, Cells.getN, Nat.reduceMul, ↓bnd_assoc]
          exact fin _ _ (by simp only [a0, ↓sxp, sxq, ↓reduceIte, Nat.reduceBEq, Nat.reduceLT, evP, evX, evR, blkOf, evA, storeA, Nat.reduceEqDiff, resL, resV, oneOrTup, Int.reduceEq, Int.reduceLT, Int.reduceLE, Int.reduceNeg, Int.reduceAdd, Int.reduceSub, Int.reduceMul, Int.reduceToNat, Nat.reduceAdd, noUnk, AV.cells, reduceCtorEq, Nat.reduceLeDiff, Cells.get, Cells.getN, Nat.reduceMul, ↓bnd_assoc]) (by simp only [a5, ↓sxp, sxq, ↓reduceIte, Nat.reduceBEq, Nat.reduceLT, evP, evX, evR, blkOf, evA, storeA, Nat.reduceEqDiff, resL, resV, oneOrTup, Int.reduceEq, Int.reduceLT, Int.reduceLE, Int.reduceNeg, Int.reduceAdd, Int.reduceSub, Int.reduceMul, Int.reduceToNat, Nat.reduceAdd, noUnk, AV.cells, reduceCtorEq, Nat.reduceLeDiff, Cells.get, Cells.getN, Nat.reduceMul, ↓bnd_assoc]) (by simp only [a7, ↓sxp, sxq, ↓reduceIte, Nat.reduceBEq, Nat.reduceLT, evP, evX, evR, blkOf, evA, storeA, Nat.reduceEqDiff, resL, resV, oneOrTup, Int.reduceEq, Int.reduceLT, Int.reduceLE, Int.reduceNeg, Int.reduceAdd, Int.reduceSub, Int.reduceMul, Int.reduceToNat, Nat.reduceAdd, noUnk, AV.cells, reduceCtorEq, Nat.reduceLeDiff, Cells.get, Cells.getN, Nat.reduceMul, ↓bnd_assoc]) (by simp only [a8, ↓sxp, sxq, ↓reduceIte, Nat.reduceBEq, Nat.reduceLT, evP, evX, evR, blkOf, evA, storeA, Nat.reduceEqDiff, resL, resV, oneOrTup, Int.reduceEq, Int.reduceLT, Int.reduceLE, Int.reduceNeg, Int.reduceAdd, Int.reduceSub, Int.reduceMul, Int.reduceToNat, Nat.reduceAdd, noUnk, AV.cells, reduceCtorEq, Nat.reduceLeDiff, Cells.get, Cells.getN, Nat.reduceMul, ↓bnd_assoc]) (by simp only [↓sxp, sxq, ↓reduceIte, Nat.reduceBEq, Nat.reduceLT, evP, evX, evR, blkOf, evA, storeA, Nat.reduceEqDiff, resL, resV, oneOrTup, Int.reduceEq, Int.reduceLT, Int.reduceLE, Int.reduceNeg, Int.reduceAdd, Int.reduceSub, Int.reduceMul, Int.reduceToNat, Nat.reduceAdd, noUnk, AV.cells, reduceCtorEq, Nat.reduceLeDiff, Cells.get, Cells.getN, Nat.reduceMul, ↓bnd_assoc])
      · simp only [hlp, a0, a5, a7, a8, a9, hlt, hi0, and_self, ↓hg, hf1, hf2, hf3, ↓gh, ↓gm, hhi, hwr, Int.toNat_natCast, Bool.true_and, Bool.false_and, k4, k5, k8, ↓sxp, sxq, ↓reduceIte, Nat.reduceBEq, Nat.reduceLT, evP, evX, evR, blkOf, evA, storeA, Nat.reduceEqDiff, resL, resV, oneOrTup, Int.reduceEq, Int.reduceLT, Int.reduceLE, Int.reduceNeg, Int.reduceAdd, Int.reduceSub, Int.reduceMul, Int.reduceToNat, Nat.reduceAdd, noUnk, AV.cells, reduceCtorEq, Nat.reduceLeDiff, Cells.get, Cells.getN, Nat.reduceMul, ↓bnd_assoc]
        exact fin _ _ (by simp only [a0, ↓sxp, sxq, ↓reduceIte, Nat.reduceBEq, Nat.reduceLT, evP, evX, evR, blkOf, evA, storeA, Nat.reduceEqDiff, resL, resV, oneOrTup, Int.reduceEq, Int.reduceLT, Int.reduceLE, Int.reduceNeg, Int.reduceAdd, Int.reduceSub, Int.reduceMul, Int.reduceToNat, Nat.reduceAdd, noUnk, AV.cells, reduceCtorEq, Nat.reduceLeDiff, Cells.get, Cells.getN, Nat.reduceMul, ↓bnd_assoc]) (by simp only [a5, ↓sxp, sxq, ↓reduceIte, Nat.reduceBEq, Nat.reduceLT, evP, evX, evR, blkOf, evA, storeA, Nat.reduceEqDiff, resL, resV, oneOrTup, Int.reduceEq, Int.reduceLT, Int.reduceLE, Int.reduceNeg, Int.reduceAdd, Int.reduceSub, Int.reduceMul, Int.reduceToNat, Nat.reduceAdd, noUnk, AV.cells, reduceCtorEq, Nat.reduceLeDiff, Cells.get, Cells.getN, Nat.reduceMul, ↓bnd_assoc]) (by simp only [a7, ↓sxp, sxq, ↓reduceIte, Nat.reduceBEq, Nat.reduceLT, evP, evX, evR, blkOf, evA, storeA, Nat.reduceEqDiff, resL, resV, oneOrTup, Int.reduceEq, Int.reduceLT, Int.reduceLE, Int.reduceNeg, Int.reduceAdd, Int.reduceSub, Int.reduceMul, Int.reduceToNat, Nat.reduceAdd, noUnk, AV.cells, reduceCtorEq, Nat.reduceLeDiff, Cells.get, Cells.getN, Nat.reduceMul, ↓bnd_assoc]) (by simp only [a8, ↓sxp, sxq, ↓reduceIte, Nat.reduceBEq, Nat.reduceLT, evP, evX, evR, blkOf, evA, storeA, Nat.reduceEqDiff, resL, resV, oneOrTup, Int.reduceEq, Int.reduceLT, Int.reduceLE, Int.reduceNeg, Int.reduceAdd, Int.reduceSub, Int.reduceMul, Int.reduceToNat, Nat.reduceAdd, noUnk, AV.cells, reduceCtorEq, Nat.reduceLeDiff, Cells.get, Cells.getN, Nat.reduceMul, ↓bnd_assoc]) (by simp only [↓sxp, sxq, ↓reduceIte, Nat.reduceBEq, Nat.reduceLT, evP, evX, evR, blkOf, evA, storeA, Nat.reduceEqDiff, resL, resV, oneOrTup, Int.reduceEq, Int.reduceLT, Int.reduceLE, Int.reduceNeg, Int.reduceAdd, Int.reduceSub, Int.reduceMul, Int.reduceToNat, Nat.reduceAdd, noUnk, AV.cells, reduceCtorEq, Nat.reduceLeDiff, Cells.get, Cells.getN, Nat.reduceMul, ↓bnd_assoc])
end
end Go.Proofs.Ytnfehkjkmlbceaa.Sx

/- The document's Known, whole; Opens. -/
namespace Go.Proofs.Ytnfehkjkmlbceaa.Sx
open HP
section
variable {W : World} {E : Env} {H : Heap} {Γ : List HP}
abbrev mkZ (L : List T3) (hs : List Bool) : List Bool := mkFrom L hs L.length 0 (zeros L.length)
def moreZ (L : List T3) (hs : List Bool) : Int := moreF L hs (mkZ L hs) L.length 0 (-1)
/-- The document's rounds. -/
inductive RKn (L : List T3) : List Bool → List Bool → Prop
  | stop {hs : List Bool} (h : moreZ L hs < 0) : RKn L hs hs
  | more {hs hs' : List Bool} (h : ¬ moreZ L hs < 0) (r : RKn L (hs.set (moreZ L hs).toNat true) hs') : RKn L hs hs'
/-- Where it comes from. -/
theorem moreF_from {L : List T3} {hs ms : List Bool} : ∀ (m i : Nat) (b : Int), moreF L hs ms m i b = b ∨ ∃ j, i ≤ j ∧ j < i + m ∧ hs.getD j false = true ∧ (opM L ms j).2 = true ∧ hs.getD (opM L ms j).1.toNat false = false ∧ moreF L hs ms m i b = (opM L ms j).1 := by
  intro m
  induction m with
  | zero => intro i b; exact .inl rfl
  | succ m ih =>
    intro i b
    rw [moreF]
    split
    · rename_i hc
      simp only [Bool.and_eq_true, Bool.not_eq_true'] at hc
      obtain ⟨⟨c1, c2⟩, c3⟩ := hc
      rcases ih (i + 1) (opM L ms i).1 with e | ⟨j, h1, h2, h3⟩
      · exact .inr ⟨i, by omega, by omega, c1, c2, c3, e⟩
      · exact .inr ⟨j, by omega, by omega, h3⟩
    · rcases ih (i + 1) b with e | ⟨j, h1, h2, h3⟩
      · exact .inl e
      · exact .inr ⟨j, by omega, by omega, h3⟩
theorem moreZ_in {L : List T3} {hs : List Bool} (hw : WFL L) (h : ¬ moreZ L hs < 0) : ∃ j, j < L.length ∧ hs.getD j false = true ∧ (opM L (mkZ L hs) j).2 = true ∧ hs.getD (moreZ L hs).toNat false = false ∧ moreZ L hs = (opM L (mkZ L hs) j).1 ∧ 0 ≤ moreZ L hs ∧ moreZ L hs < L.length := by
  rcases moreF_from (L := L) (hs := hs) (ms := mkZ L hs) L.length 0 (-1) with e | ⟨j, h1, h2, h3, h4, h5, h6⟩
  · exact absurd (show moreZ L hs < 0 by unfold moreZ; rw [e]; omega) h
  · have := op_in hw (show j < L.length by omega) h4
    refine ⟨j, by omega, h3, h4, ?_, h6, ?_⟩
    · unfold moreZ; rw [h6]; exact h5
    · unfold moreZ; rw [h6]; exact this
theorem known_loop1 (hE : EnvK E) {L : List T3} {vl : AV} {jh : Nat} {df : List Nat} (hw : WFL L) (hw4 : W4 L) (hb : L.length < 256) : ∀ (c : Nat) (A : Tm) (H : Heap) (hs : List Bool), falses hs = c → hs.length = L.length → getX A 0 = vl → getX A 5 = slB jh L.length → Holds H (row 33 3 (flat3 L) vl :: blk jh (bls hs) 4 :: Γ) →
    ∃ lv A' H', run W E (.loop lp26_1) ⟨A, df, none⟩ H = some (lv, ⟨A', df, none⟩, H') ∧ (lv = .ret ∧ ∃ hs', RKn L hs hs' ∧ hs'.length = L.length ∧ getX A' 4 = slB jh L.length ∧ Holds H' (row 33 3 (flat3 L) vl :: blk jh (bls hs') 4 :: Γ)) := by
  have hlp : ∀ f H, run W E lp26_1 f H = run W E lp26_1 f H := fun _ _ => rfl
  conv at hlp => enter [f, H, 2]; unfold lp26_1
  intro c
  induction c using Nat.strongRecOn with
  | ind c ih =>
    intro A H hs hc hl a0 a5 h
    apply Fin.ex3
    rw [run_loop]
    simp only [hlp, a0, a5, ↓sxp, sxq, ↓reduceIte, Nat.reduceBEq, Nat.reduceLT, evP, evX, evR, blkOf, evA, storeA, Nat.reduceEqDiff, resL, resV, oneOrTup, Int.reduceEq, Int.reduceLT, Int.reduceLE, Int.reduceNeg, Int.reduceAdd, Int.reduceSub, Int.reduceMul, Int.reduceToNat, Nat.reduceAdd, noUnk, AV.cells, reduceCtorEq, Nat.reduceLeDiff, Cells.get, Cells.getN, Nat.reduceMul, ↓bnd_assoc]
    refine Fin.callE _ _ (r_made hE h hw hl hb) fun jm H2 h2 => ?_
    simp only [↓sxp, sxq, ↓reduceIte, Nat.reduceBEq, Nat.reduceLT, evP, evX, evR, blkOf, evA, storeA, Nat.reduceEqDiff, resL, resV, oneOrTup, Int.reduceEq, Int.reduceLT, Int.reduceLE, Int.reduceNeg, Int.reduceAdd, Int.reduceSub, Int.reduceMul, Int.reduceToNat, Nat.reduceAdd, noUnk, AV.cells, reduceCtorEq, Nat.reduceLeDiff, Cells.get, Cells.getN, Nat.reduceMul, ↓bnd_assoc]
    refine Fin.loop (known_loop2 hE hw hw4 hl (by rw [mkFrom_len]; simp) hb L.length 0 _ _ (-1) (by omega) (by simp only [a0, ↓sxp, sxq, ↓reduceIte, Nat.reduceBEq, Nat.reduceLT, evP, evX, evR, blkOf, evA, storeA, Nat.reduceEqDiff, resL, resV, oneOrTup, Int.reduceEq, Int.reduceLT, Int.reduceLE, Int.reduceNeg, Int.reduceAdd, Int.reduceSub, Int.reduceMul, Int.reduceToNat, Nat.reduceAdd, noUnk, AV.cells, reduceCtorEq, Nat.reduceLeDiff, Cells.get, Cells.getN, Nat.reduceMul, ↓bnd_assoc]) (by simp only [a5, ↓sxp, sxq, ↓reduceIte, Nat.reduceBEq, Nat.reduceLT, evP, evX, evR, blkOf, evA, storeA, Nat.reduceEqDiff, resL, resV, oneOrTup, Int.reduceEq, Int.reduceLT, Int.reduceLE, Int.reduceNeg, Int.reduceAdd, Int.reduceSub, Int.reduceMul, Int.reduceToNat, Nat.reduceAdd, noUnk, AV.cells, reduceCtorEq, Nat.reduceLeDiff, Cells.get, Cells.getN, Nat.reduceMul, ↓bnd_assoc]) (by simp only [↓sxp, sxq, ↓reduceIte, Nat.reduceBEq, Nat.reduceLT, evP, evX, evR, blkOf, evA, storeA, Nat.reduceEqDiff, resL, resV, oneOrTup, Int.reduceEq, Int.reduceLT, Int.reduceLE, Int.reduceNeg, Int.reduceAdd, Int.reduceSub, Int.reduceMul, Int.reduceToNat, Nat.reduceAdd, noUnk, AV.cells, reduceCtorEq, Nat.reduceLeDiff, Cells.get, Cells.getN, Nat.reduceMul, ↓bnd_assoc]) (by simp only [↓sxp, sxq, ↓reduceIte, Nat.reduceBEq, Nat.reduceLT, evP, evX, evR, blkOf, evA, storeA, Nat.reduceEqDiff, resL, resV, oneOrTup, Int.reduceEq, Int.reduceLT, Int.reduceLE, Int.reduceNeg, Int.reduceAdd, Int.reduceSub, Int.reduceMul, Int.reduceToNat, Nat.reduceAdd, noUnk, AV.cells, reduceCtorEq, Nat.reduceLeDiff, Cells.get, Cells.getN, Nat.reduceMul, ↓bnd_assoc]) (by simp only [↓sxp, sxq, ↓reduceIte, Nat.reduceBEq, Nat.reduceLT, evP, evX, evR, blkOf, evA, storeA, Nat.reduceEqDiff, resL, resV, oneOrTup, Int.reduceEq, Int.reduceLT, Int.reduceLE, Int.reduceNeg, Int.reduceAdd, Int.reduceSub, Int.reduceMul, Int.reduceToNat, Nat.reduceAdd, noUnk, AV.cells, reduceCtorEq, Nat.reduceLeDiff, Cells.get, Cells.getN, Nat.reduceMul, ↓bnd_assoc]; rfl) (h2.ord [1, 1])) fun lv A3 H3 ⟨hlv, hh, b0, b5, b8⟩ => ?_
    subst hlv hh
    have b8 : getX A3 8 = .int .i64 (moreZ L hs) := b8
    have h3 : Holds H3 (row 33 3 (flat3 L) vl :: blk jh (bls hs) 4 :: Γ) := h2.tail
    by_cases hm : moreZ L hs < 0
    · simp only [b5, b8, hm, ↓sxp, sxq, ↓reduceIte, Nat.reduceBEq, Nat.reduceLT, evP, evX, evR, blkOf, evA, storeA, Nat.reduceEqDiff, resL, resV, oneOrTup, Int.reduceEq, Int.reduceLT, Int.reduceLE, Int.reduceNeg, Int.reduceAdd, Int.reduceSub, Int.reduceMul, Int.reduceToNat, Nat.reduceAdd, noUnk, AV.cells, reduceCtorEq, Nat.reduceLeDiff, Cells.get, Cells.getN, Nat.reduceMul, ↓bnd_assoc]
      exact Fin.end3 ⟨rfl, hs, .stop hm, hl, by simp only [↓sxp, sxq, ↓reduceIte, Nat.reduceBEq, Nat.reduceLT, evP, evX, evR, blkOf, evA, storeA, Nat.reduceEqDiff, resL, resV, oneOrTup, Int.reduceEq, Int.reduceLT, Int.reduceLE, Int.reduceNeg, Int.reduceAdd, Int.reduceSub, Int.reduceMul, Int.reduceToNat, Nat.reduceAdd, noUnk, AV.cells, reduceCtorEq, Nat.reduceLeDiff, Cells.get, Cells.getN, Nat.reduceMul, ↓bnd_assoc], h3⟩
    · obtain ⟨j, m1, m2, m3, m4, m5, m6, m7⟩ := moreZ_in hw hm
      have hm0 : 0 ≤ moreZ L hs ∧ moreZ L hs < L.length := ⟨m6, m7⟩
      have hlt := falses_set m4 (by omega)
      simp only [b5, b8, hm, hm0, and_self, ↓sxp, sxq, ↓reduceIte, Nat.reduceBEq, Nat.reduceLT, evP, evX, evR, blkOf, evA, storeA, Nat.reduceEqDiff, resL, resV, oneOrTup, Int.reduceEq, Int.reduceLT, Int.reduceLE, Int.reduceNeg, Int.reduceAdd, Int.reduceSub, Int.reduceMul, Int.reduceToNat, Nat.reduceAdd, noUnk, AV.cells, reduceCtorEq, Nat.reduceLeDiff, Cells.get, Cells.getN, Nat.reduceMul, ↓bnd_assoc]
      refine Fin.write (bls (hs.set (moreZ L hs).toNat true)) (h3.ord [1]) (by simp only [Cells.setN, Cells.set, bls_set]) (by simp only [List.length_map, List.length_cons, List.length_nil, hl]; omega) rfl fun H4 h4 => ?_
      exact Fin.of3 (ih (falses (hs.set (moreZ L hs).toNat true)) (by omega) _ _ _ rfl (by simp; exact hl) (by simp only [b0, ↓sxp, sxq, ↓reduceIte, Nat.reduceBEq, Nat.reduceLT, evP, evX, evR, blkOf, evA, storeA, Nat.reduceEqDiff, resL, resV, oneOrTup, Int.reduceEq, Int.reduceLT, Int.reduceLE, Int.reduceNeg, Int.reduceAdd, Int.reduceSub, Int.reduceMul, Int.reduceToNat, Nat.reduceAdd, noUnk, AV.cells, reduceCtorEq, Nat.reduceLeDiff, Cells.get, Cells.getN, Nat.reduceMul, ↓bnd_assoc]) (by simp only [b5, ↓sxp, sxq, ↓reduceIte, Nat.reduceBEq, Nat.reduceLT, evP, evX, evR, blkOf, evA, storeA, Nat.reduceEqDiff, resL, resV, oneOrTup, Int.reduceEq, Int.reduceLT, Int.reduceLE, Int.reduceNeg, Int.reduceAdd, Int.reduceSub, Int.reduceMul, Int.reduceToNat, Nat.reduceAdd, noUnk, AV.cells, reduceCtorEq, Nat.reduceLeDiff, Cells.get, Cells.getN, Nat.reduceMul, ↓bnd_assoc]) (h4.ord [1])) fun _ _ _ ⟨e, hs', r, q⟩ => ⟨e, hs', .more hm r, q⟩
theorem r_known (hE : EnvK E) {L : List T3} {vl : AV} {g : List Int} {gv : AV} (h : Holds H (row 33 3 (flat3 L) vl :: isP W g gv :: Γ)) (hw : WFL L) (hw4 : W4 L) (hb : L.length < 256) (hg : g.length < 65536) (hin : inR L.length g = true) :
    ∃ x : Nat × List Bool, ∃ H', go W E 26 [vl, gv] H = some (slB x.1 L.length, H') ∧ Holds H' (HP.pure (RKn L (setAll (zeros L.length) g) x.2 ∧ x.2.length = L.length) :: blk x.1 (bls x.2) 4 :: row 33 3 (flat3 L) vl :: isP W g gv :: Γ) := by
  suffices hh : Fin (fun r : AV × Heap => ∃ x : Nat × List Bool, r.1 = slB x.1 L.length ∧ Holds r.2 (HP.pure (RKn L (setAll (zeros L.length) g) x.2 ∧ x.2.length = L.length) :: blk x.1 (bls x.2) 4 :: row 33 3 (flat3 L) vl :: isP W g gv :: Γ)) (go W E 26 [vl, gv] H) by
    obtain ⟨⟨r, H'⟩, e, jm, hr, q⟩ := hh
    simp only at hr q
    subst hr
    exact ⟨jm, H', e, q⟩
  have hvl := h.row_len (by omega) (n := L.length) (flat3_len _)
  have hvl : lenV vl = some (.int .i64 (L.length : Int)) := by obtain ⟨a, c, rfl⟩ := hvl; rfl
  have h2 := h.push (c := bls (zeros L.length)) (t := 4)
  rw [go_code hE.f26 (by simp [sf26])]
  simp only [sf26, hvl, ↓mksl_bools (n := L.length), hb, ↓sxp, sxq, ↓reduceIte, Nat.reduceBEq, Nat.reduceLT, evP, evX, evR, blkOf, evA, storeA, Nat.reduceEqDiff, resL, resV, oneOrTup, Int.reduceEq, Int.reduceLT, Int.reduceLE, Int.reduceNeg, Int.reduceAdd, Int.reduceSub, Int.reduceMul, Int.reduceToNat, Nat.reduceAdd, noUnk, AV.cells, reduceCtorEq, Nat.reduceLeDiff, Cells.get, Cells.getN, Nat.reduceMul, ↓bnd_assoc]
  refine Fin.loop (known_loop0 (jh := H.next) hE hg g.length 0 _ _ (zeros L.length) (by simp) (by rw [List.drop_zero]; exact hin) (by omega) (by simp only [↓sxp, sxq, ↓reduceIte, Nat.reduceBEq, Nat.reduceLT, evP, evX, evR, blkOf, evA, storeA, Nat.reduceEqDiff, resL, resV, oneOrTup, Int.reduceEq, Int.reduceLT, Int.reduceLE, Int.reduceNeg, Int.reduceAdd, Int.reduceSub, Int.reduceMul, Int.reduceToNat, Nat.reduceAdd, noUnk, AV.cells, reduceCtorEq, Nat.reduceLeDiff, Cells.get, Cells.getN, Nat.reduceMul, ↓bnd_assoc]) (by simp only [↓sxp, sxq, ↓reduceIte, Nat.reduceBEq, Nat.reduceLT, evP, evX, evR, blkOf, evA, storeA, Nat.reduceEqDiff, resL, resV, oneOrTup, Int.reduceEq, Int.reduceLT, Int.reduceLE, Int.reduceNeg, Int.reduceAdd, Int.reduceSub, Int.reduceMul, Int.reduceToNat, Nat.reduceAdd, noUnk, AV.cells, reduceCtorEq, Nat.reduceLeDiff, Cells.get, Cells.getN, Nat.reduceMul, ↓bnd_assoc]) (by simp only [↓sxp, sxq, ↓reduceIte, Nat.reduceBEq, Nat.reduceLT, evP, evX, evR, blkOf, evA, storeA, Nat.reduceEqDiff, resL, resV, oneOrTup, Int.reduceEq, Int.reduceLT, Int.reduceLE, Int.reduceNeg, Int.reduceAdd, Int.reduceSub, Int.reduceMul, Int.reduceToNat, Nat.reduceAdd, noUnk, AV.cells, reduceCtorEq, Nat.reduceLeDiff, Cells.get, Cells.getN, Nat.reduceMul, ↓bnd_assoc]) (by simp only [↓sxp, sxq, ↓reduceIte, Nat.reduceBEq, Nat.reduceLT, evP, evX, evR, blkOf, evA, storeA, Nat.reduceEqDiff, resL, resV, oneOrTup, Int.reduceEq, Int.reduceLT, Int.reduceLE, Int.reduceNeg, Int.reduceAdd, Int.reduceSub, Int.reduceMul, Int.reduceToNat, Nat.reduceAdd, noUnk, AV.cells, reduceCtorEq, Nat.reduceLeDiff, Cells.get, Cells.getN, Nat.reduceMul, ↓bnd_assoc]; rfl) (h2.ord [1])) fun lv A' H' ⟨hlv, a0, a5, h3⟩ => ?_
  subst hlv
  rw [List.drop_zero] at h3
  simp only [↓sxp, sxq, ↓reduceIte, Nat.reduceBEq, Nat.reduceLT, evP, evX, evR, blkOf, evA, storeA, Nat.reduceEqDiff, resL, resV, oneOrTup, Int.reduceEq, Int.reduceLT, Int.reduceLE, Int.reduceNeg, Int.reduceAdd, Int.reduceSub, Int.reduceMul, Int.reduceToNat, Nat.reduceAdd, noUnk, AV.cells, reduceCtorEq, Nat.reduceLeDiff, Cells.get, Cells.getN, Nat.reduceMul, ↓bnd_assoc]
  refine Fin.loop (known_loop1 hE hw hw4 hb _ _ _ _ rfl (by rw [setAll_len]; simp) a0 a5 h3) fun lv A2 H2 ⟨hlv, hs', hR, hl', a4, h4⟩ => ?_
  subst hlv
  simp only [a4, ↓sxp, sxq, ↓reduceIte, Nat.reduceBEq, Nat.reduceLT, evP, evX, evR, blkOf, evA, storeA, Nat.reduceEqDiff, resL, resV, oneOrTup, Int.reduceEq, Int.reduceLT, Int.reduceLE, Int.reduceNeg, Int.reduceAdd, Int.reduceSub, Int.reduceMul, Int.reduceToNat, Nat.reduceAdd, noUnk, AV.cells, reduceCtorEq, Nat.reduceLeDiff, Cells.get, Cells.getN, Nat.reduceMul, ↓bnd_assoc]
  exact Fin.ret ⟨⟨_, hs'⟩, rfl, Holds.pure' ⟨hR, hl'⟩ (h4.ord [1])⟩
end
end Go.Proofs.Ytnfehkjkmlbceaa.Sx

/- Opens; the chapter's example. -/
namespace Go.Proofs.Ytnfehkjkmlbceaa.Sx
open HP
section
variable {W : World} {E : Env} {H : Heap} {Γ : List HP}
def opensM (S : MS) (n : Int) : Int × Int × Bool :=
  if (getM S n).1 = 4 then ((getM S (getM S n).2.1).2.1, (getM S n).2.2, true)
  else if (getM S n).1 = 5 then ((getM S n).2.1, (getM S n).2.2, true) else (0, 0, false)
theorem s_opens (hE : EnvK E) {p : Nat} {S : MS} (h : Holds H (storeP W p S :: Γ)) (n : Int) :
    ∃ H', go W E 34 [.ptr (some ⟨.own p, 0⟩), .int .i64 n] H = some (.tup [.int .i64 (opensM S n).1, .int .i64 (opensM S n).2.1, .bool (opensM S n).2.2], H') ∧ Holds H' (storeP W p S :: Γ) := by
  apply Ends.out
  rw [go_code hE.f34 (by simp [sf34])]
  simp only [sf34, ↓sxp, sxq, ↓reduceIte, Nat.reduceBEq, Nat.reduceLT, evP, evX, evR, blkOf, evA, storeA, Nat.reduceEqDiff, resL, resV, oneOrTup, Int.reduceEq, Int.reduceLT, Int.reduceLE, Int.reduceNeg, Int.reduceAdd, Int.reduceSub, Int.reduceMul, Int.reduceToNat, Nat.reduceAdd, noUnk, AV.cells, reduceCtorEq, Nat.reduceLeDiff, Cells.get, Cells.getN, Nat.reduceMul, ↓bnd_assoc]
  refine Ends.call (s_get hE.t h n) fun H2 h2 => ?_
  unfold opensM
  generalize getM S n = t at *
  obtain ⟨k, u, w⟩ := t
  simp only [c3, ↓sxp, sxq, ↓reduceIte, Nat.reduceBEq, Nat.reduceLT, evP, evX, evR, blkOf, evA, storeA, Nat.reduceEqDiff, resL, resV, oneOrTup, Int.reduceEq, Int.reduceLT, Int.reduceLE, Int.reduceNeg, Int.reduceAdd, Int.reduceSub, Int.reduceMul, Int.reduceToNat, Nat.reduceAdd, noUnk, AV.cells, reduceCtorEq, Nat.reduceLeDiff, Cells.get, Cells.getN, Nat.reduceMul, ↓bnd_assoc]
  refine Ends.write [.int .i64 k, .int .i64 u, .int .i64 w] h2.push rfl (by simp) rfl fun H3 h3 => ?_
  generalize H2.next = b1 at *
  have g3 := h3.get
  by_cases k4 : k = 4
  · subst k4
    simp only [↓g3, ↓sxp, sxq, ↓reduceIte, Nat.reduceBEq, Nat.reduceLT, evP, evX, evR, blkOf, evA, storeA, Nat.reduceEqDiff, resL, resV, oneOrTup, Int.reduceEq, Int.reduceLT, Int.reduceLE, Int.reduceNeg, Int.reduceAdd, Int.reduceSub, Int.reduceMul, Int.reduceToNat, Nat.reduceAdd, noUnk, AV.cells, reduceCtorEq, Nat.reduceLeDiff, Cells.get, Cells.getN, Nat.reduceMul, ↓bnd_assoc]
    refine Ends.call (s_get hE.t (h3.ord [1]) u) fun H4 h4 => ?_
    have hy := rfl (a := getM S u)
    generalize getM S u = y at *
    obtain ⟨y1, y2, y3⟩ := y
    simp only [c3, ↓sxp, sxq, ↓reduceIte, Nat.reduceBEq, Nat.reduceLT, evP, evX, evR, blkOf, evA, storeA, Nat.reduceEqDiff, resL, resV, oneOrTup, Int.reduceEq, Int.reduceLT, Int.reduceLE, Int.reduceNeg, Int.reduceAdd, Int.reduceSub, Int.reduceMul, Int.reduceToNat, Nat.reduceAdd, noUnk, AV.cells, reduceCtorEq, Nat.reduceLeDiff, Cells.get, Cells.getN, Nat.reduceMul, ↓bnd_assoc]
    refine Ends.write [.int .i64 y1, .int .i64 y2, .int .i64 y3] h4.push rfl (by simp) rfl fun H5 h5 => ?_
    generalize H4.next = b2 at *
    have g5 := h5.get
    have gt5 := (h5.ord [2]).get
    simp only [↓g5, ↓gt5, ↓sxp, sxq, ↓reduceIte, Nat.reduceBEq, Nat.reduceLT, evP, evX, evR, blkOf, evA, storeA, Nat.reduceEqDiff, resL, resV, oneOrTup, Int.reduceEq, Int.reduceLT, Int.reduceLE, Int.reduceNeg, Int.reduceAdd, Int.reduceSub, Int.reduceMul, Int.reduceToNat, Nat.reduceAdd, noUnk, AV.cells, reduceCtorEq, Nat.reduceLeDiff, Cells.get, Cells.getN, Nat.reduceMul, ↓bnd_assoc]
    exact Ends.ret ⟨rfl, ((h5.bump 7).tail.rm 1)⟩
  by_cases k5 : k = 5
  · subst k5
    have g4 := (h3.bump 7).get
    simp only [↓g3, ↓g4, Int.reduceEq, ↓sxp, sxq, ↓reduceIte, Nat.reduceBEq, Nat.reduceLT, evP, evX, evR, blkOf, evA, storeA, Nat.reduceEqDiff, resL, resV, oneOrTup, Int.reduceEq, Int.reduceLT, Int.reduceLE, Int.reduceNeg, Int.reduceAdd, Int.reduceSub, Int.reduceMul, Int.reduceToNat, Nat.reduceAdd, noUnk, AV.cells, reduceCtorEq, Nat.reduceLeDiff, Cells.get, Cells.getN, Nat.reduceMul, ↓bnd_assoc]
    exact Ends.ret ⟨rfl, (h3.bump 7).tail⟩
  · simp only [↓g3, k4, k5, ↓sxp, sxq, ↓reduceIte, Nat.reduceBEq, Nat.reduceLT, evP, evX, evR, blkOf, evA, storeA, Nat.reduceEqDiff, resL, resV, oneOrTup, Int.reduceEq, Int.reduceLT, Int.reduceLE, Int.reduceNeg, Int.reduceAdd, Int.reduceSub, Int.reduceMul, Int.reduceToNat, Nat.reduceAdd, noUnk, AV.cells, reduceCtorEq, Nat.reduceLeDiff, Cells.get, Cells.getN, Nat.reduceMul, ↓bnd_assoc]
    exact Ends.ret ⟨rfl, h3.tail⟩
end
end Go.Proofs.Ytnfehkjkmlbceaa.Sx

/- What is known, without the program: the least that is closed. -/
namespace Go.Proofs.Ytnfehkjkmlbceaa.Sx
def le (a b : List Bool) : Prop := ∀ j : Nat, a.getD j false = true → b.getD j false = true
theorem le.trans {a b c : List Bool} (h : le a b) (k : le b c) : le a c := fun j hj => k j (h j hj)
theorem le.rfl' {a : List Bool} : le a a := fun _ h => h
theorem le_eq {a b : List Bool} (hl : a.length = b.length) (h : le a b) (k : le b a) : a = b := by
  refine List.ext_getElem hl fun i h1 h2 => ?_
  have e1 := h i
  have e2 := k i
  rw [List.getD_eq_getElem?_getD, List.getD_eq_getElem?_getD, List.getElem?_eq_getElem h1, List.getElem?_eq_getElem h2] at e1 e2
  simp only [Option.getD_some] at e1 e2
  cases ha : a[i] <;> cases hb : b[i] <;> simp_all
theorem set_get {l : List Bool} {i j : Nat} {b : Bool} : (l.set i b).getD j false = if i = j ∧ i < l.length then b else l.getD j false := by
  rw [List.getD_eq_getElem?_getD, List.getElem?_set, List.getD_eq_getElem?_getD]
  by_cases h : i = j
  · subst h
    by_cases h2 : i < l.length
    · simp [h2]
    · simp [h2]
  · simp [h]
theorem le_set {l : List Bool} {i : Nat} : le l (l.set i true) := fun j hj => by
  rw [set_get]; split
  · rfl
  · exact hj
theorem set_le {a b : List Bool} {i : Nat} (h : le a b) (hi : b.getD i false = true) : le (a.set i true) b := fun j hj => by
  rw [set_get] at hj
  split at hj
  · rename_i e; rw [← e.1]; exact hi
  · exact h j hj
section
variable {L : List T3}
theorem can_mono {hs hs' ms ms' : List Bool} (h : le hs hs') (k : le ms ms') {n : Nat} (hc : canM L hs ms n = true) : canM L hs' ms' n = true := by
  unfold canM at *
  simp only at *
  split
  · rfl
  · rename_i e9
    rw [if_neg e9] at hc
    split
    · rename_i ea
      rw [if_pos ea, Bool.or_eq_true] at hc
      rw [Bool.or_eq_true]
      exact hc.imp (h _) (k _)
    · rename_i ea
      rw [if_neg ea] at hc
      split
      · rename_i eb
        rw [if_pos eb, Bool.or_eq_true, Bool.and_eq_true] at hc
        rw [Bool.or_eq_true, Bool.and_eq_true]
        exact hc.imp (h _) fun ⟨p, q⟩ => ⟨k _ p, k _ q⟩
      · rename_i eb
        rw [if_neg eb] at hc
        exact h _ hc
theorem has_can {hs ms : List Bool} {n : Nat} (h : hs.getD n false = true) : canM L hs ms n = true := by
  unfold canM
  simp only [h, Bool.true_or]
  split; rfl; split; rfl; split <;> rfl
theorem mk_mono {hs hs' : List Bool} (h : le hs hs') : ∀ (m i : Nat) (ms ms' : List Bool), ms.length = ms'.length → le ms ms' → le (mkFrom L hs m i ms) (mkFrom L hs' m i ms') := by
  intro m
  induction m with
  | zero => intro i ms ms' _ k; exact k
  | succ m ih =>
    intro i ms ms' hl k
    refine ih (i + 1) _ _ (by simp [hl]) fun j hj => ?_
    rw [set_get] at hj ⊢
    split at hj
    · rename_i e
      rw [if_pos ⟨e.1, by omega⟩]
      exact can_mono h k hj
    · rename_i e
      rw [if_neg (fun e' => e ⟨e'.1, by omega⟩)]
      exact k j hj
theorem can_same {hs ms ms' : List Bool} {n : Nat} (hw : WFL L) (hn : n < L.length) (h : ∀ j, j < n → ms.getD j false = ms'.getD j false) : canM L hs ms n = canM L hs ms' n := by
  have hx : L[n]? = some L[n] := List.getElem?_eq_getElem hn
  obtain ⟨w1, w2⟩ := hw n _ hx
  have hcm : L.getD n (0, 0, 0) = L[n] := by simp [List.getD_eq_getElem?_getD, hx]
  unfold canM
  rw [hcm]
  generalize L[n] = x at *
  simp only
  split
  · rfl
  · rename_i e9
    split
    · rename_i ea
      have := w1 (by rcases ea with e | e | e | e | e <;> omega) e9
      rw [h x.2.1.toNat (by omega)]
    · split
      · rename_i eb
        have h1 := w1 (by rcases eb with e | e | e <;> omega) e9
        have h2 := w2 eb
        rw [h x.2.1.toNat (by omega), h x.2.2.toNat (by omega)]
      · rfl
theorem mk_indep {hs : List Bool} (hw : WFL L) : ∀ (m i : Nat) (ms ms' : List Bool), i + m = L.length → ms.length = L.length → ms'.length = L.length → (∀ j, j < i → ms.getD j false = ms'.getD j false) → mkFrom L hs m i ms = mkFrom L hs m i ms' := by
  intro m
  induction m with
  | zero =>
    intro i ms ms' him h1 h2 h
    show ms = ms'
    exact le_eq (h1.trans h2.symm) (fun j hj => by
      by_cases hji : j < i
      · rw [← h j hji]; exact hj
      · rw [List.getD_eq_getElem?_getD, List.getElem?_eq_none (by omega)] at hj; cases hj) (fun j hj => by
      by_cases hji : j < i
      · rw [h j hji]; exact hj
      · rw [List.getD_eq_getElem?_getD, List.getElem?_eq_none (by omega)] at hj; cases hj)
  | succ m ih =>
    intro i ms ms' him h1 h2 h
    rw [mkFrom, mkFrom, can_same hw (by omega) h]
    refine ih (i + 1) _ _ (by omega) (by simp; exact h1) (by simp; exact h2) fun j hj => ?_
    rw [set_get, set_get]
    by_cases e : i = j
    · rw [if_pos ⟨e, by omega⟩, if_pos ⟨e, by omega⟩]
    · rw [if_neg (fun e' => e e'.1), if_neg (fun e' => e e'.1)]
      exact h j (by omega)
theorem mk_Z {hs ms : List Bool} (hw : WFL L) (hl : ms.length = L.length) : mkFrom L hs L.length 0 ms = mkZ L hs := mk_indep hw _ _ _ _ (by omega) hl (by simp) fun j hj => by omega
theorem mkZ_mono {hs hs' : List Bool} (h : le hs hs') : le (mkZ L hs) (mkZ L hs') := mk_mono h _ _ _ _ rfl le.rfl'
theorem mkZ_len (hs : List Bool) : (mkZ L hs).length = L.length := by rw [mkFrom_len]; simp
/-- What is worked out stays. -/
theorem mk_keep {hs : List Bool} : ∀ (m i : Nat) (ms : List Bool) (j : Nat), j < i → (mkFrom L hs m i ms).getD j false = ms.getD j false := by
  intro m
  induction m with
  | zero => intro i ms j _; rfl
  | succ m ih =>
    intro i ms j hj
    rw [mkFrom, ih (i + 1) _ j (by omega), set_get, if_neg (fun e => by omega)]
theorem mk_has {hs : List Bool} : ∀ (m i : Nat) (ms : List Bool) (j : Nat), i ≤ j → j < i + m → i + m ≤ ms.length → hs.getD j false = true → (mkFrom L hs m i ms).getD j false = true := by
  intro m
  induction m with
  | zero => intro i ms j h1 h2; omega
  | succ m ih =>
    intro i ms j h1 h2 h3 hj
    rw [mkFrom]
    by_cases e : i = j
    · subst e
      rw [mk_keep _ _ _ _ (by omega), set_get, if_pos ⟨rfl, by omega⟩]
      exact has_can hj
    · exact ih (i + 1) _ j (by omega) (by omega) (by simp; omega) hj
theorem mkZ_has {hs : List Bool} (hl : hs.length = L.length) : le hs (mkZ L hs) := fun j hj => by
  have : j < hs.length := by
    by_cases h : j < hs.length
    · exact h
    · rw [List.getD_eq_getElem?_getD, List.getElem?_eq_none (by omega)] at hj; cases hj
  exact mk_has _ _ _ _ (by omega) (by omega) (by simp) hj
theorem op_mono {ms ms' : List Bool} (h : le ms ms') {n : Nat} (ho : (opM L ms n).2 = true) : (opM L ms' n).2 = true ∧ (opM L ms' n).1 = (opM L ms n).1 := by
  unfold opM at *
  simp only at *
  by_cases e : (L.getD n (0, 0, 0)).1 = 4
  · rw [if_pos e] at ho
    rw [if_pos e, if_pos e]; exact ⟨h _ ho, rfl⟩
  rw [if_neg e] at ho
  rw [if_neg e, if_neg e]
  by_cases e5 : (L.getD n (0, 0, 0)).1 = 5
  · rw [if_pos e5] at ho
    rw [if_pos e5, if_pos e5]; exact ⟨h _ ho, rfl⟩
  rw [if_neg e5] at ho
  rw [if_neg e5, if_neg e5]
  by_cases e8 : (L.getD n (0, 0, 0)).1 = 8
  · rw [if_pos e8]; exact ⟨rfl, rfl⟩
  · rw [if_neg e8] at ho; cases ho
def ClosedK (L : List T3) (hs : List Bool) : Prop := ∀ n, n < L.length → hs.getD n false = true → (opM L (mkZ L hs) n).2 = true → hs.getD (opM L (mkZ L hs) n).1.toNat false = true
/-- The least that is closed and has all of P. -/
structure Clo (L : List T3) (P : Nat → Prop) (hs : List Bool) : Prop where
  len : hs.length = L.length
  ge : ∀ j, P j → hs.getD j false = true
  cl : ClosedK L hs
  least : ∀ C : List Bool, ClosedK L C → (∀ j, P j → C.getD j false = true) → le hs C
theorem Clo.uniq {P : Nat → Prop} {a b : List Bool} (h : Clo L P a) (k : Clo L P b) : a = b := le_eq (h.len.trans k.len.symm) (h.least b k.cl k.ge) (k.least a h.cl h.ge)
theorem Clo.congr {P Q : Nat → Prop} {a : List Bool} (h : Clo L P a) (e : ∀ j, P j ↔ Q j) : Clo L Q a := ⟨h.len, fun j hj => h.ge j ((e j).2 hj), h.cl, fun C hC hq => h.least C hC fun j hj => hq j ((e j).1 hj)⟩
theorem Clo.self {P : Nat → Prop} {a : List Bool} (h : Clo L P a) : Clo L (fun j => a.getD j false = true) a := ⟨h.len, fun _ hj => hj, h.cl, fun _ _ hq j hj => hq j hj⟩
theorem Clo.more {P Q : Nat → Prop} {a b : List Bool} (h : Clo L P a) (k : Clo L (fun j => a.getD j false = true ∨ Q j) b) : Clo L (fun j => P j ∨ Q j) b :=
  ⟨k.len, fun j hj => k.ge j (hj.imp (h.ge j) id), k.cl, fun C hC hq => k.least C hC fun j hj => hj.elim (fun e => h.least C hC (fun j hj => hq j (.inl hj)) j e) (fun e => hq j (.inr e))⟩
/-- A step of what is opened stays within what is closed. -/
theorem step_in {hs C : List Bool} {n : Nat} {ms : List Bool} (hC : ClosedK L C) (hn : n < L.length) (h : le hs C) (hm : le ms (mkZ L C)) (h1 : hs.getD n false = true) (h2 : (opM L ms n).2 = true) : C.getD (opM L ms n).1.toNat false = true := by
  obtain ⟨o1, o2⟩ := op_mono hm h2
  rw [← o2]
  exact hC n hn (h n h1) o1
theorem sw_props {ms : List Bool} : ∀ (m i : Nat) (hs : List Bool) (f : Bool), i + m = L.length → le hs (swFrom L ms m i hs f).1 ∧ (f = true → (swFrom L ms m i hs f).2 = true) ∧ ((swFrom L ms m i hs f).2 = false → (swFrom L ms m i hs f).1 = hs ∧ ∀ j, i ≤ j → j < L.length → hs.getD j false = true → (opM L ms j).2 = true → hs.getD (opM L ms j).1.toNat false = true) ∧
    (∀ C, ClosedK L C → le ms (mkZ L C) → le hs C → le (swFrom L ms m i hs f).1 C) := by
  intro m
  induction m with
  | zero => intro i hs f him; exact ⟨le.rfl', fun h => h, fun _ => ⟨rfl, fun j h1 h2 => by omega⟩, fun C _ _ h => h⟩
  | succ m ih =>
    intro i hs f him
    rw [swFrom]
    split
    · rename_i hc
      simp only [Bool.and_eq_true, Bool.not_eq_true'] at hc
      obtain ⟨⟨c1, c2⟩, c3⟩ := hc
      obtain ⟨q1, q2, q3, q4⟩ := ih (i + 1) (hs.set (opM L ms i).1.toNat true) true (by omega)
      refine ⟨le_set.trans q1, fun _ => q2 rfl, fun e => (by rw [q2 rfl] at e; cases e), fun C hC hm h => q4 C hC hm (set_le h (step_in hC (by omega) h hm c1 c2))⟩
    · rename_i hc
      obtain ⟨q1, q2, q3, q4⟩ := ih (i + 1) hs f (by omega)
      refine ⟨q1, q2, fun e => ⟨(q3 e).1, fun j h1 h2 h3 h4 => ?_⟩, q4⟩
      by_cases hij : i = j
      · subst hij
        simp only [h3, h4, Bool.true_and, Bool.not_eq_true', Bool.not_eq_false] at hc
        exact hc
      · exact (q3 e).2 j (by omega) h2 h3 h4
theorem rounds_clo (hw : WFL L) {hs ms hs' ms' : List Bool} (h : Rounds L hs ms hs' ms') : hs.length = L.length → ms.length = L.length → hs'.length = L.length ∧ ms' = mkZ L hs' ∧ le hs hs' ∧ ClosedK L hs' ∧ ∀ C, ClosedK L C → le hs C → le hs' C := by
  induction h with
  | @stop hs ms h =>
    intro l1 l2
    simp only [roundM] at h ⊢
    rw [mk_Z hw l2] at h ⊢
    obtain ⟨q1, q2, q3, q4⟩ := sw_props (L := L) (ms := mkZ L hs) L.length 0 hs false (by omega)
    obtain ⟨e1, e2⟩ := q3 h
    rw [e1]
    exact ⟨l1, rfl, le.rfl', fun n hn h1 h2 => e2 n (by omega) hn h1 h2, fun C _ h => h⟩
  | @more hs ms hs' ms' h r ih =>
    intro l1 l2
    have hms : (roundM L hs ms).2.1 = mkZ L hs := by simp only [roundM]; exact mk_Z hw l2
    have hhs : (roundM L hs ms).1 = (swFrom L (mkZ L hs) L.length 0 hs false).1 := by simp only [roundM]; rw [mk_Z hw l2]
    obtain ⟨q1, q2, q3, q4⟩ := sw_props (L := L) (ms := mkZ L hs) L.length 0 hs false (by omega)
    rw [← hhs] at q1 q4
    obtain ⟨r1, r2, r3, r4, r5⟩ := ih (by rw [hhs, swFrom_len]; exact l1) (by rw [hms]; exact mkZ_len _)
    exact ⟨r1, r2, q1.trans r3, r4, fun C hC h => r5 C hC (q4 C hC (mkZ_mono h) h)⟩
theorem moreF_pos {hs ms : List Bool} (hw : WFL L) : ∀ (m i : Nat) (b : Int), i + m ≤ L.length → (0 ≤ b ∨ ∃ j, i ≤ j ∧ j < i + m ∧ (hs.getD j false && (opM L ms j).2 && !(hs.getD (opM L ms j).1.toNat false)) = true) → 0 ≤ moreF L hs ms m i b := by
  intro m
  induction m with
  | zero => intro i b _ h; rcases h with h | ⟨j, h1, h2, _⟩; exact h; omega
  | succ m ih =>
    intro i b him h
    rw [moreF]
    refine ih (i + 1) _ (by omega) ?_
    split
    · rename_i hc
      simp only [Bool.and_eq_true] at hc
      exact .inl (op_in hw (by omega) hc.1.2).1
    · rename_i hc
      rcases h with h | ⟨j, h1, h2, h3⟩
      · exact .inl h
      · by_cases e : i = j
        · subst e; exact absurd h3 hc
        · exact .inr ⟨j, by omega, by omega, h3⟩
theorem rkn_clo (hw : WFL L) {hs hs' : List Bool} (h : RKn L hs hs') : le hs hs' ∧ ClosedK L hs' ∧ ∀ C, ClosedK L C → le hs C → le hs' C := by
  induction h with
  | @stop hs h =>
    refine ⟨le.rfl', fun n hn h1 h2 => ?_, fun C _ h => h⟩
    cases hc : hs.getD (opM L (mkZ L hs) n).1.toNat false with
    | true => rfl
    | false =>
      have := moreF_pos (hs := hs) (ms := mkZ L hs) hw L.length 0 (-1) (by omega) (.inr ⟨n, by omega, by omega, by rw [h1, h2, hc]; rfl⟩)
      exact absurd h (by unfold moreZ; omega)
  | @more hs hs' h r ih =>
    obtain ⟨j, m1, m2, m3, m4, m5, m6, m7⟩ := moreZ_in hw h
    obtain ⟨r1, r2, r3⟩ := ih
    exact ⟨le_set.trans r1, r2, fun C hC hh => r3 C hC (set_le hh (by rw [m5]; exact step_in hC m1 hh (mkZ_mono hh) m2 m3))⟩
/-- Numbers of a list. -/
def inG (g : List Int) (j : Nat) : Prop := ∃ x ∈ g, x.toNat = j
theorem setAll_get {n : Nat} : ∀ (g : List Int) (hs : List Bool), hs.length = n → inR n g = true → ∀ j, (setAll hs g).getD j false = true ↔ hs.getD j false = true ∨ inG g j := by
  intro g
  induction g with
  | nil => intro hs _ _ j; simp [setAll, inG]
  | cons x g ih =>
    intro hs hl hin j
    have hin2 : (0 ≤ x ∧ x < n) ∧ inR n g = true := by have h := hin; simp only [inR, List.all_cons, Bool.and_eq_true, decide_eq_true_eq] at h; exact h
    have e : setAll hs (x :: g) = setAll (hs.set x.toNat true) g := rfl
    rw [e, ih _ (by simp; exact hl) hin2.2 j, set_get]
    constructor
    · rintro (h | ⟨y, h1, h2⟩)
      · split at h
        · rename_i e; exact .inr ⟨x, by simp, e.1⟩
        · exact .inl h
      · exact .inr ⟨y, by simp [h1], h2⟩
    · rintro (h | ⟨y, h1, h2⟩)
      · left; split; rfl; exact h
      · rcases List.mem_cons.1 h1 with rfl | h1
        · left; rw [if_pos ⟨h2, by omega⟩]
        · exact .inr ⟨y, h1, h2⟩
theorem clo_of {G : List Bool} {P : Nat → Prop} {hs : List Bool} (hG : ∀ j, G.getD j false = true ↔ P j) (hl : hs.length = L.length) (h : le G hs ∧ ClosedK L hs ∧ ∀ C, ClosedK L C → le G C → le hs C) : Clo L P hs :=
  ⟨hl, fun j hj => h.1 j ((hG j).2 hj), h.2.1, fun C hC hq => h.2.2 C hC fun j hj => hq j ((hG j).1 hj)⟩
theorem clo_from (hw : WFL L) {g : List Int} {hs ms : List Bool} (hin : inR L.length g = true) (h : Rounds L (setAll (zeros L.length) g) (zeros L.length) hs ms) : Clo L (inG g) hs ∧ ms = mkZ L hs := by
  obtain ⟨r1, r2, r3⟩ := rounds_clo hw h (by rw [setAll_len]; simp) (by simp)
  refine ⟨clo_of (G := setAll (zeros L.length) g) (fun j => ?_) r1 r3, r2⟩
  rw [setAll_get g _ (by simp) hin j, zerosb_get]; simp
theorem clo_more (hw : WFL L) {P : Nat → Prop} {g : List Int} {hs ms hs' ms' : List Bool} (hc : Clo L P hs) (hm : ms.length = L.length) (hin : inR L.length g = true) (h : Rounds L (setAll hs g) ms hs' ms') : Clo L (fun j => P j ∨ inG g j) hs' ∧ ms' = mkZ L hs' ∧ le hs hs' := by
  obtain ⟨r1, r2, r3⟩ := rounds_clo hw h (by rw [setAll_len]; exact hc.len) hm
  have hG := fun j => setAll_get g hs hc.len hin j
  exact ⟨hc.more (clo_of hG r1 r3), r2, le.trans (fun j hj => (hG j).2 (.inl hj)) r3.1⟩
theorem clo_known (hw : WFL L) {g : List Int} {hs : List Bool} (hin : inR L.length g = true) (hl : hs.length = L.length) (h : RKn L (setAll (zeros L.length) g) hs) : Clo L (inG g) hs := by
  refine clo_of (G := setAll (zeros L.length) g) (fun j => ?_) hl (rkn_clo hw h)
  rw [setAll_get g _ (by simp) hin j, zerosb_get]; simp
/-- The numbers of a list of those that are true. -/
theorem lstF_mem : ∀ (l : List Bool) (i : Nat) (j : Nat), (∃ x ∈ lstF i l, x.toNat = j) ↔ i ≤ j ∧ l.getD (j - i) false = true := by
  intro l
  induction l with
  | nil => intro i j; simp [lstF]
  | cons b l ih =>
    intro i j
    have key : (∃ x ∈ lstF (i + 1) l, x.toNat = j) ↔ i < j ∧ (b :: l).getD (j - i) false = true := by
      rw [ih (i + 1) j]
      constructor
      · rintro ⟨h1, h2⟩
        refine ⟨by omega, ?_⟩
        rw [show j - i = (j - (i + 1)) + 1 from by omega, List.getD_cons_succ]; exact h2
      · rintro ⟨h1, h2⟩
        refine ⟨by omega, ?_⟩
        rw [show j - i = (j - (i + 1)) + 1 from by omega, List.getD_cons_succ] at h2; exact h2
    rw [lstF]
    cases b with
    | true =>
      simp only [if_true, List.mem_cons, exists_eq_or_imp]
      rw [key]
      constructor
      · rintro (h | ⟨h1, h2⟩)
        · have : j = i := by omega
          subst this; simp
        · exact ⟨by omega, h2⟩
      · rintro ⟨h1, h2⟩
        by_cases e : j = i
        · left; omega
        · exact .inr ⟨by omega, h2⟩
    | false =>
      simp only [Bool.false_eq_true, if_false]
      rw [key]
      constructor
      · rintro ⟨h1, h2⟩; exact ⟨by omega, h2⟩
      · rintro ⟨h1, h2⟩
        by_cases e : j = i
        · subst e; simp at h2
        · exact ⟨by omega, h2⟩
theorem lstK_in {hs : List Bool} (j : Nat) : inG (lstK hs) j ↔ hs.getD j false = true := by
  have := lstF_mem hs 0 j
  simpa [inG] using this
theorem lstF_range : ∀ (l : List Bool) (i n : Nat), i + l.length ≤ n → inR n (lstF i l) = true := by
  intro l
  induction l with
  | nil => intro i n _; rfl
  | cons b l ih =>
    intro i n h
    rw [List.length_cons] at h
    rw [lstF]
    have := ih (i + 1) n (by omega)
    cases b with
    | true =>
      simp only [if_true, inR, List.all_cons, Bool.and_eq_true, decide_eq_true_eq]
      exact ⟨by omega, this⟩
    | false => exact this
end
end Go.Proofs.Ytnfehkjkmlbceaa.Sx

/- What is known, in memory: the contracts in short; the chapter's example. -/
namespace Go.Proofs.Ytnfehkjkmlbceaa.Sx
open HP
section
variable {W : World} {E : Env} {H : Heap} {Γ : List HP}
def knP (k : Nat) (L : List T3) (hs : List Bool) : HP := HP.ex fun x : AV × Nat × Nat => knI k L hs (mkZ L hs) x.1 x.2.1 x.2.2
theorem p_has (hE : EnvK E) {k : Nat} {L : List T3} {hs : List Bool} (h : Holds H (knP k L hs :: Γ)) (n : Int) : go W E 28 [.ptr (some ⟨.own k, 0⟩), .int .i64 n] H = some (.bool (hasK hs n), H) := by
  obtain ⟨x, h⟩ := h.ex
  exact k_has hE h n
theorem p_can (hE : EnvK E) {k : Nat} {L : List T3} {hs : List Bool} (h : Holds H (knP k L hs :: Γ)) (n : Int) : go W E 29 [.ptr (some ⟨.own k, 0⟩), .int .i64 n] H = some (.bool (hasK (mkZ L hs) n), H) := by
  obtain ⟨x, h⟩ := h.ex
  exact k_canp hE h n
theorem p_count (hE : EnvK E) {k : Nat} {L : List T3} {hs : List Bool} (h : Holds H (knP k L hs :: Γ)) (hb : L.length < 256) : go W E 30 [.ptr (some ⟨.own k, 0⟩)] H = some (.tup [.int .i64 (cnt hs), .int .i64 (cnt (mkZ L hs))], H) := by
  obtain ⟨x, h⟩ := h.ex
  exact k_count hE h (by omega)
theorem p_list (hE : EnvK E) {k : Nat} {L : List T3} {hs : List Bool} (h : Holds H (knP k L hs :: Γ)) (hb : L.length < 256) : ∃ v H', go W E 32 [.ptr (some ⟨.own k, 0⟩)] H = some (v, H') ∧ Holds H' (isP W (lstK hs) v :: knP k L hs :: Γ) := by
  obtain ⟨x, h⟩ := h.ex
  obtain ⟨v, H', e, h2⟩ := k_list (W := W) hE h (by omega)
  exact ⟨v, H', e, (Holds.ex' (F := fun x : AV × Nat × Nat => knI k L hs (mkZ L hs) x.1 x.2.1 x.2.2) x (h2.ord [1])).ord [1]⟩
theorem p_more (hE : EnvK E) {k : Nat} {L : List T3} {hs : List Bool} {P : Nat → Prop} {g : List Int} {gv : AV} (h : Holds H (knP k L hs :: isP W g gv :: Γ)) (hw : WFL L) (hw4 : W4 L) (hb : L.length < 256) (hg : g.length < 65536) (hc : Clo L P hs) :
    (inR L.length g = false → ∃ H', go W E 33 [.ptr (some ⟨.own k, 0⟩), gv] H = some (.int .i64 2, H') ∧ Holds H' (knP k L hs :: isP W g gv :: Γ)) ∧
    (inR L.length g = true → ∃ hs', Clo L (fun j => P j ∨ inG g j) hs' ∧ le hs hs' ∧ ∃ H', go W E 33 [.ptr (some ⟨.own k, 0⟩), gv] H = some (.int .i64 0, H') ∧ Holds H' (knP k L hs' :: isP W g gv :: Γ)) := by
  obtain ⟨x, h⟩ := h.ex
  obtain ⟨m1, m2⟩ := k_more hE h hw hw4 (by omega) hg
  constructor
  · intro hin
    obtain ⟨H', e, h2⟩ := m1 hin
    exact ⟨H', e, Holds.ex' (F := fun x : AV × Nat × Nat => knI k L hs (mkZ L hs) x.1 x.2.1 x.2.2) x h2⟩
  · intro hin
    obtain ⟨hs', ms', hR, H', e, h2⟩ := m2 hin
    obtain ⟨c1, c2, c3⟩ := clo_more hw hc (mkZ_len hs) hin hR
    subst c2
    exact ⟨hs', c1, c3, H', e, Holds.ex' (F := fun x : AV × Nat × Nat => knI k L hs' (mkZ L hs') x.1 x.2.1 x.2.2) x h2⟩
theorem p_from (hE : EnvK E) {p : Nat} {S : MS} {g : List Int} {gv : AV} (h : Holds H (storeP W p S :: isP W g gv :: Γ)) (hw : WFL S.L) (hw4 : W4 S.L) (hb : S.L.length < 256) (hg : g.length < 65536) :
    (inR S.L.length g = false → ∃ H', go W E 23 [.ptr (some ⟨.own p, 0⟩), gv] H = some (.tup [.ptr none, .int .i64 2], H') ∧ Holds H' (storeP W p S :: isP W g gv :: Γ)) ∧
    (inR S.L.length g = true → ∃ x : Nat × List Bool, ∃ H', go W E 23 [.ptr (some ⟨.own p, 0⟩), gv] H = some (.tup [.ptr (some ⟨.own x.1, 0⟩), .int .i64 0], H') ∧ Holds H' (HP.pure (Clo S.L (inG g) x.2) :: knP x.1 S.L x.2 :: storeP W p S :: isP W g gv :: Γ)) := by
  obtain ⟨m1, m2⟩ := k_from hE h hw hw4 hb hg
  refine ⟨m1, fun hin => ?_⟩
  obtain ⟨⟨k, vl, jh, jm, hs, ms⟩, H', e, h2⟩ := m2 hin
  obtain ⟨hR, h3⟩ := h2.pure
  obtain ⟨c1, c2⟩ := clo_from hw hin hR
  simp only at c2 h3
  subst c2
  exact ⟨⟨k, hs⟩, H', e, Holds.pure' c1 (Holds.ex' (F := fun x : AV × Nat × Nat => knI k S.L hs (mkZ S.L hs) x.1 x.2.1 x.2.2) (vl, jh, jm) h3)⟩
def La : List T3 := [(1, 2, 0), (1, 3, 0), (5, 0, 1)]
theorem La_wf : WFL La := by
  intro i x hx
  match i with
  | 0 => simp [La] at hx; subst hx; simp
  | 1 => simp [La] at hx; subst hx; simp
  | 2 => simp [La] at hx; subst hx; simp
  | n + 3 => simp [La] at hx
theorem La_w4 : W4 La := by
  intro i x hx
  match i with
  | 0 => simp [La] at hx; subst hx; simp
  | 1 => simp [La] at hx; subst hx; simp
  | 2 => simp [La] at hx; subst hx; simp
  | n + 3 => simp [La] at hx
theorem La_one {hs : List Bool} (h : Clo La (inG [2]) hs) : hs.getD 1 false = false := by
  have hC : ClosedK La [false, false, true] := by
    intro n hn
    have hn : n < 3 := hn
    match n with
    | 0 => decide
    | 1 => decide
    | 2 => decide
  have := h.least [false, false, true] hC (fun j hj => by
    obtain ⟨x, h1, h2⟩ := hj
    simp at h1; subst h1
    have : j = 2 := by omega
    subst this; rfl) 1
  cases hb : hs.getD 1 false with
  | false => rfl
  | true => exact absurd (this hb) (by decide)
theorem La_two {hs : List Bool} (h : Clo La (inG [2, 0]) hs) : hs = [true, true, true] := by
  have h2 := h.ge 2 ⟨2, by simp, rfl⟩
  have h0 := h.ge 0 ⟨0, by simp, rfl⟩
  have h1 := h.cl 2 (by decide) h2
  have hl : hs.length = 3 := h.len
  match hs, hl with
  | [a, b, c], _ =>
    simp only [List.getD_cons_zero, List.getD_cons_succ] at h0 h2
    subst h0 h2
    cases b
    · exact absurd (h1 (by decide)) (by decide)
    · rfl
theorem fn_of {n : Nat} {g : List Int} (h : inR n g = true) : ∀ x ∈ g, 0 ≤ x ∧ x < n := fun x hx => by
  have := List.all_eq_true.1 h x hx
  simpa using this
theorem blk_is {l : List Int} {j : Nat} {t : TypeId} {cap : Cap} (h : Holds H (blk j (ints l) t :: Γ)) : Holds H (isP W l (.sl (some ⟨.own j, 0⟩) l.length cap) :: Γ) := h.imp fun fp hp => by
  have hp : fp = [j] ∧ H.get j = some (.cells (.lst (ints l)) t none) := hp
  rw [hp.1]
  exact Is.own j t cap hp.2
theorem l_awake15 (hE : EnvK E) (h : Holds H Γ) : ∃ H', go W E 22 [] H = some (.bool true, H') ∧ Holds H' Γ := by
  apply Ends.out
  show Fin (fun r : AV × Heap => r.1 = .bool true ∧ Holds r.2 Γ) _
  rw [go_code hE.f22 (by simp [sf22])]
  simp only [sf22, ↓sxp, sxq, ↓reduceIte, Nat.reduceBEq, Nat.reduceLT, evP, evX, evR, blkOf, evA, storeA, Nat.reduceEqDiff, resL, resV, oneOrTup, Int.reduceEq, Int.reduceLT, Int.reduceLE, Int.reduceNeg, Int.reduceAdd, Int.reduceSub, Int.reduceMul, Int.reduceToNat, Nat.reduceAdd, noUnk, AV.cells, reduceCtorEq, Nat.reduceLeDiff, Cells.get, Cells.getN, Nat.reduceMul, ↓bnd_assoc]
  obtain ⟨p, H1, e1, h1⟩ := s_new (W := W) hE.t h
  obtain ⟨H2, e2, h2⟩ := s_draw' hE.t inv0 h1 2 (by simp [S0])
  have i1 := (inv0.draw 2).2.1
  have d1 : (drawM S0 2).1 = 0 ∧ (drawM S0 2).2.1 = 0 ∧ (drawM S0 2).2.2.L = [(1, 2, 0)] ∧ (drawM (drawM S0 2).2.2 3).1 = 1 ∧ (drawM (drawM S0 2).2.2 3).2.1 = 0 ∧ (drawM (drawM S0 2).2.2 3).2.2.L = [(1, 2, 0), (1, 3, 0)] ∧ (putM (drawM (drawM S0 2).2.2 3).2.2 (5, 0, 1)).1 = 2 ∧ (putM (drawM (drawM S0 2).2.2 3).2.2 (5, 0, 1)).2.1 = 0 ∧ (putM (drawM (drawM S0 2).2.2 3).2.2 (5, 0, 1)).2.2.L = La := by
    refine ⟨?_, ?_, ?_, ?_, ?_, ?_, ?_, ?_, ?_⟩ <;> rfl
  generalize drawM S0 2 = r1 at *
  obtain ⟨n1, o1, S1⟩ := r1
  simp only at d1 i1 e2 h2
  obtain ⟨rfl, rfl, d3, d⟩ := d1
  obtain ⟨H3, e3, h3⟩ := s_draw' hE.t i1 h2 3 (by rw [d3]; decide)
  generalize drawM S1 3 = r2 at *
  obtain ⟨n2, o2, S2⟩ := r2
  simp only at d e3 h3
  obtain ⟨rfl, rfl, d4, d⟩ := d
  obtain ⟨H4, e4, h4⟩ := s_put hE.t h3 (5, 0, 1) (by rw [d4]; decide)
  generalize putM S2 (5, 0, 1) = r3 at *
  obtain ⟨n3, o3, S3⟩ := r3
  simp only at d e4 h4
  obtain ⟨rfl, rfl, d5⟩ := d
  simp only [c3] at e4
  have hwf : WFL S3.L := by rw [d5]; exact La_wf
  have hw4 : W4 S3.L := by rw [d5]; exact La_w4
  have hlen : S3.L.length < 256 := by rw [d5]; decide
  simp only [e1, e2, e3, e4, ↓sxp, sxq, ↓reduceIte, Nat.reduceBEq, Nat.reduceLT, evP, evX, evR, blkOf, evA, storeA, Nat.reduceEqDiff, resL, resV, oneOrTup, Int.reduceEq, Int.reduceLT, Int.reduceLE, Int.reduceNeg, Int.reduceAdd, Int.reduceSub, Int.reduceMul, Int.reduceToNat, Nat.reduceAdd, noUnk, AV.cells, reduceCtorEq, Nat.reduceLeDiff, Cells.get, Cells.getN, Nat.reduceMul, ↓bnd_assoc]
  have q5 : Holds _ (isP W [2] (.sl (some ⟨.own H4.next, 0⟩) 1 (.exact 1)) :: storeP W p S3 :: Γ) := blk_is (h4.push (c := ints [2]) (t := 3))
  refine Fin.callE _ _ ((p_from hE (q5.ord [1]) hwf hw4 hlen (by decide)).2 (by rw [d5]; decide)) fun x H6 h6 => ?_
  obtain ⟨k, hs⟩ := x
  obtain ⟨hc, h7⟩ := h6.pure
  simp only at hc h7
  rw [d5] at hc h7
  have hone := La_one hc
  simp only [↓sxp, sxq, ↓reduceIte, Nat.reduceBEq, Nat.reduceLT, evP, evX, evR, blkOf, evA, storeA, Nat.reduceEqDiff, resL, resV, oneOrTup, Int.reduceEq, Int.reduceLT, Int.reduceLE, Int.reduceNeg, Int.reduceAdd, Int.reduceSub, Int.reduceMul, Int.reduceToNat, Nat.reduceAdd, noUnk, AV.cells, reduceCtorEq, Nat.reduceLeDiff, Cells.get, Cells.getN, Nat.reduceMul, ↓bnd_assoc]
  have q8 : Holds _ (isP W [2, 0] (.sl (some ⟨.own H6.next, 0⟩) 2 (.exact 2)) :: knP k La hs :: storeP W p S3 :: Γ) := blk_is (((h7.push (c := ints [2, 0]) (t := 3)).rm 3))
  refine Fin.callE _ _ ((p_from hE (q8.ord [2]) hwf hw4 hlen (by decide)).2 (by rw [d5]; decide)) fun x H9 h9 => ?_
  obtain ⟨k2, hs2⟩ := x
  obtain ⟨hc2, q10⟩ := h9.pure
  simp only at hc2 q10
  rw [d5] at hc2 q10
  have htwo := La_two hc2
  subst htwo
  have q11 : Holds H9 (knP k2 La [true, true, true] :: knP k La hs :: Γ) := ((q10.rm 1).rm 1).ord [0, 0]
  have f1 := p_has (W := W) hE (q11.ord [1]) 1
  have f2 := p_has (W := W) hE q11 1
  rw [show hasK hs 1 = false from by simp [hasK]; intro _; simpa [List.getD_eq_getElem?_getD] using hone] at f1
  rw [show hasK [true, true, true] 1 = true from rfl] at f2
  simp only [f1, f2, ↓sxp, sxq, ↓reduceIte, Nat.reduceBEq, Nat.reduceLT, evP, evX, evR, blkOf, evA, storeA, Nat.reduceEqDiff, resL, resV, oneOrTup, Int.reduceEq, Int.reduceLT, Int.reduceLE, Int.reduceNeg, Int.reduceAdd, Int.reduceSub, Int.reduceMul, Int.reduceToNat, Nat.reduceAdd, noUnk, AV.cells, reduceCtorEq, Nat.reduceLeDiff, Cells.get, Cells.getN, Nat.reduceMul, ↓bnd_assoc]
  refine Fin.callE _ _ (p_list hE q11 (by decide)) fun v H12 h12 => ?_
  obtain ⟨ids, his⟩ := h12.is_get
  have hl := his.len
  rw [show ((lstK [true, true, true]).length : Int) = 3 from rfl] at hl
  simp only [hl, ↓sxp, sxq, ↓reduceIte, Nat.reduceBEq, Nat.reduceLT, evP, evX, evR, blkOf, evA, storeA, Nat.reduceEqDiff, resL, resV, oneOrTup, Int.reduceEq, Int.reduceLT, Int.reduceLE, Int.reduceNeg, Int.reduceAdd, Int.reduceSub, Int.reduceMul, Int.reduceToNat, Nat.reduceAdd, noUnk, AV.cells, reduceCtorEq, Nat.reduceLeDiff, Cells.get, Cells.getN, Nat.reduceMul, ↓bnd_assoc]
  exact Fin.ret ⟨rfl, h12.tail.tail.tail⟩
end
end Go.Proofs.Ytnfehkjkmlbceaa.Sx

