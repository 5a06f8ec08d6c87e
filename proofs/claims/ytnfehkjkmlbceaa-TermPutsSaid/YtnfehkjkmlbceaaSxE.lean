/- The statement Rows.TermPutsSaid: proved by a second, deterministic reading of the program that is sound for every order of evaluation and every capacity; no condition beyond the given row. -/
import Derived.Test.YtnfehkjkmlbceaaSxD
import Derived.Test.YtnfehkjkmlbceaaSxB
import Derived.ProofKit
import Derived.Below
import Derived.ChangeSame
import Derived.ReadAgain
import Derived.ChangeSlices
import Derived.Deep.Slices
import Derived.Test.YtnfehkjkmlbceaaSxC
import Derived.Test.YtnfehkjkmlbceaaChecked
import Derived.KernelRfl
import Derived.Test.YtnfehkjkmlbceaaRows
/- TermPuts: the loop over what the document has. -/
namespace Go.Proofs.Ytnfehkjkmlbceaa.Sx
open HP
section
variable {W : World} {E : Env} {H : Heap} {Γ : List HP}
theorem hasM_in {L : List T3} {i : Nat} {x : T3} (h : L[i]? = some x) (k : Int) : hasM L (i : Int) k = (decide (k = 0) || decide (x.1 = k)) := by
  have hi := (List.getElem?_eq_some_iff.1 h).1
  have h1 : (0 : Int) ≤ i := by omega
  have h2 : (i : Int) < L.length := by omega
  have h3 : L.getD (i : Int).toNat (0, 0, 0) = x := by simp [List.getD_eq_getElem?_getD, h]
  simp only [hasM, h1, h2, h3, decide_true, Bool.true_and]
theorem getM_in {S : MS} {i : Nat} {x : T3} (h : S.L[i]? = some x) : getM S (i : Int) = x := by
  simp only [getM, hasM_in h]
  simp [List.getD_eq_getElem?_getD, h]
theorem puts_loop2 {p q bw bn br : Nat} {S : MS} {B : List (List UInt8)} {vl vb : AV} {fb : List AV} {df : List Nat} (hE : EnvT E) (hi : Inv S B) (hL : S.L.length ≤ 30) : ∀ (m i : Nat) (A : Tm) (H : Heap), i + m = S.L.length → getX A 2 = .ptr (some ⟨.own br, 0⟩) → getX A 3 = .ptr (some ⟨.own p, 0⟩) → getX A 4 = .ptr (some ⟨.own bw, 0⟩) → getX A 7 = .ptr (some ⟨.own bn, 0⟩) → getX A 81 = vl → getX A 82 = .int .i64 S.L.length → getX A 83 = .int .i64 i →
    Holds H (storeP W p S :: refI W q S.L B vl vb fb :: blk bw [.ptr (some ⟨.own q, 0⟩)] 27 :: Γ) →
    ∃ lv A' H', run W E (.loop lp3_2) ⟨A, df, none⟩ H = some (lv, ⟨A', df, none⟩, H') ∧ (lv = .exit 4 ∧ getX A' 2 = .ptr (some ⟨.own br, 0⟩) ∧ getX A' 3 = .ptr (some ⟨.own p, 0⟩) ∧ getX A' 4 = .ptr (some ⟨.own bw, 0⟩) ∧ getX A' 7 = .ptr (some ⟨.own bn, 0⟩) ∧
      Holds H' (storeP W p S :: refI W q S.L B vl vb fb :: blk bw [.ptr (some ⟨.own q, 0⟩)] 27 :: Γ)) := by
  have hlp : ∀ f H, run W E lp3_2 f H = run W E lp3_2 f H := fun _ _ => rfl
  conv at hlp => enter [f, H, 2]; unfold lp3_2
  have hBl : B.length = S.T.length := by rw [← hi.t]; simp
  intro m
  induction m with
  | zero =>
    intro i A H him h2 h3 h4 h7 h81 h82 h83 h
    have : i = S.L.length := by omega
    subst this
    have hlt : ¬ (S.L.length : Int) < S.L.length := by omega
    rw [run_loop]
    simp only [hlp, h82, h83, hlt, ↓sxp, sxq, ↓reduceIte, Nat.reduceBEq, Nat.reduceLT, evP, evX, evR, blkOf, evA, storeA, Nat.reduceEqDiff, resL, resV, oneOrTup, Int.reduceEq, Int.reduceLT, Int.reduceLE, Int.reduceNeg, Int.reduceAdd, Int.reduceSub, Int.reduceMul, Int.reduceToNat, Nat.reduceAdd, noUnk, AV.cells, reduceCtorEq, Nat.reduceLeDiff, Cells.get, Cells.getN, Nat.reduceMul, ↓bnd_assoc]
    exact ⟨_, _, _, rfl, rfl, by simp only [h2, ↓sxp, sxq, ↓reduceIte, Nat.reduceBEq, Nat.reduceLT, evP, evX, evR, blkOf, evA, storeA, Nat.reduceEqDiff, resL, resV, oneOrTup, Int.reduceEq, Int.reduceLT, Int.reduceLE, Int.reduceNeg, Int.reduceAdd, Int.reduceSub, Int.reduceMul, Int.reduceToNat, Nat.reduceAdd, noUnk, AV.cells, reduceCtorEq, Nat.reduceLeDiff, Cells.get, Cells.getN, Nat.reduceMul, ↓bnd_assoc], by simp only [h3, ↓sxp, sxq, ↓reduceIte, Nat.reduceBEq, Nat.reduceLT, evP, evX, evR, blkOf, evA, storeA, Nat.reduceEqDiff, resL, resV, oneOrTup, Int.reduceEq, Int.reduceLT, Int.reduceLE, Int.reduceNeg, Int.reduceAdd, Int.reduceSub, Int.reduceMul, Int.reduceToNat, Nat.reduceAdd, noUnk, AV.cells, reduceCtorEq, Nat.reduceLeDiff, Cells.get, Cells.getN, Nat.reduceMul, ↓bnd_assoc], by simp only [h4, ↓sxp, sxq, ↓reduceIte, Nat.reduceBEq, Nat.reduceLT, evP, evX, evR, blkOf, evA, storeA, Nat.reduceEqDiff, resL, resV, oneOrTup, Int.reduceEq, Int.reduceLT, Int.reduceLE, Int.reduceNeg, Int.reduceAdd, Int.reduceSub, Int.reduceMul, Int.reduceToNat, Nat.reduceAdd, noUnk, AV.cells, reduceCtorEq, Nat.reduceLeDiff, Cells.get, Cells.getN, Nat.reduceMul, ↓bnd_assoc], by simp only [h7, ↓sxp, sxq, ↓reduceIte, Nat.reduceBEq, Nat.reduceLT, evP, evX, evR, blkOf, evA, storeA, Nat.reduceEqDiff, resL, resV, oneOrTup, Int.reduceEq, Int.reduceLT, Int.reduceLE, Int.reduceNeg, Int.reduceAdd, Int.reduceSub, Int.reduceMul, Int.reduceToNat, Nat.reduceAdd, noUnk, AV.cells, reduceCtorEq, Nat.reduceLeDiff, Cells.get, Cells.getN, Nat.reduceMul, ↓bnd_assoc], h⟩
  | succ m ih =>
    intro i A H him a2 a3 a4 a7 a81 a82 a83 h
    obtain ⟨al, cl, ab, cb', rfl, rfl, ho, hq, hl, hbb⟩ := refI_facts (h.ord [1])
    obtain ⟨j, l', rfl, hg⟩ := hl (by omega)
    have hlt : (i : Int) < S.L.length := by omega
    have hi0 : (0 : Int) ≤ i ∧ (i : Int) < S.L.length := by omega
    have hx : S.L[i]? = some S.L[i] := List.getElem?_eq_getElem (by omega)
    have hg3 := getN3 hx
    have hh0 := hasM_in hx 0
    have hh9 := hasM_in hx 9
    have hgm := getM_in hx
    have hnt := hi.nt S.L[i] (List.getElem_mem _)
    have hbm : bytesM S (i : Int) = if S.L[i].1 = 9 then ((S.T.map (·.1))[S.L[i].2.1.toNat]?).getD [] else [] := by
      simp only [bytesM, hh9]
      simp [List.getD_eq_getElem?_getD, hx]
    have hA : hasM S.L (i : Int) 9 = true → 0 ≤ (S.L.getD (i : Int).toNat (0, 0, 0)).2.1 ∧ (S.L.getD (i : Int).toNat (0, 0, 0)).2.1 < S.T.length := fun hk => by
      rw [hh9] at hk
      have h9 : S.L[i].1 = 9 := by simpa using hk
      have := hnt h9
      have e : S.L.getD (i : Int).toNat (0, 0, 0) = S.L[i] := by simp [List.getD_eq_getElem?_getD, hx]
      rw [e]; exact ⟨this.1, this.2.1⟩
    have hB : ∀ b ∈ S.T, b.1.length ≤ 1048576 := fun b hb => by have := hi.bl b hb; omega
    generalize S.L[i] = x at *
    have hx0 := hx
    obtain ⟨k, u, w⟩ := x
    simp only at hh9 hbm hnt
    have heq := eqL3 (k, u, w) (k, u, w)
    have hwr : IntKind.i64.wrap ((i : Int) + 1) = ((i + 1 : Nat) : Int) := by rw [w64 (by omega)]; simp
    simp only [c3, decide_true, Bool.true_or] at heq hg3 hh0
    apply Fin.ex3
    rw [run_loop]
    simp only [hlp, a3, a81, a82, a83, hlt, hi0, and_self, ↓hg, ↓hg3, Int.toNat_natCast, ↓sxp, sxq, ↓reduceIte, Nat.reduceBEq, Nat.reduceLT, evP, evX, evR, blkOf, evA, storeA, Nat.reduceEqDiff, resL, resV, oneOrTup, Int.reduceEq, Int.reduceLT, Int.reduceLE, Int.reduceNeg, Int.reduceAdd, Int.reduceSub, Int.reduceMul, Int.reduceToNat, Nat.reduceAdd, noUnk, AV.cells, reduceCtorEq, Nat.reduceLeDiff, Cells.get, Cells.getN, Nat.reduceMul, ↓bnd_assoc]
    refine Fin.write [.int .i64 k, .int .i64 u, .int .i64 w] (h.push) rfl (by simp) rfl fun H1 h1 => ?_
    refine Fin.call (s_get hE (h1.ord [1]) i) fun H2 h2' => ?_
    rw [hgm, hh0]
    simp only [c3, ↓sxp, sxq, ↓reduceIte, Nat.reduceBEq, Nat.reduceLT, evP, evX, evR, blkOf, evA, storeA, Nat.reduceEqDiff, resL, resV, oneOrTup, Int.reduceEq, Int.reduceLT, Int.reduceLE, Int.reduceNeg, Int.reduceAdd, Int.reduceSub, Int.reduceMul, Int.reduceToNat, Nat.reduceAdd, noUnk, AV.cells, reduceCtorEq, Nat.reduceLeDiff, Cells.get, Cells.getN, Nat.reduceMul, ↓bnd_assoc]
    refine Fin.write [.int .i64 k, .int .i64 u, .int .i64 w] (h2'.push) rfl (by simp) rfl fun H3 h3' => ?_
    refine Fin.callE _ _ (s_bytes hE (h3'.ord [1]) i hA hB) fun bv H4 h4 => ?_
    have h4 : Holds H4 (by_ W (bytesM S (i : Int)) bv :: storeP W p S :: blk H2.next [.int .i64 k, .int .i64 u, .int .i64 w] 33 :: blk H.next [.int .i64 k, .int .i64 u, .int .i64 w] 33 :: refI W q S.L B (.sl (some ⟨.own j, 0⟩) S.L.length cl) (.sl ab B.length cb') fb :: blk bw [.ptr (some ⟨.own q, 0⟩)] 27 :: Γ) := h4
    have g1 := (h4.ord [3]).get
    have g2 := (h4.ord [2]).get
    have gw := (h4.ord [5]).get
    have hsz : sizeM S.L (i : Int) = (szs S.L).getD i 0 := by simp only [sizeM, hasM_in hx0, Int.toNat_natCast]; simp
    by_cases e9 : k = 9
    · subst e9
      simp only [if_true] at hbm
      obtain ⟨n0, n1, n2⟩ := hnt rfl
      obtain ⟨al', cl', ab', cb'', e5, e6, ho4, hq4, hl4, hbb4⟩ := refI_facts (h4.ord [4])
      obtain ⟨j3, l3, e7, hg4⟩ := hbb4 (by omega)
      cases e6
      subst e7
      obtain ⟨wv, hwv, how⟩ := ho4.get (i := u.toNat) (by omega)
      have hu0 : 0 ≤ u ∧ u < B.length := by omega
      have hbq : bytesM S (i : Int) = B[u.toNat]'(by omega) := by
        rw [hbm, hi.t, List.getElem?_eq_getElem (by omega)]; rfl
      have hlen : (bytesM S (i : Int)).length < 4611686018427387904 := by
        have := hi.bl' _ (List.getElem_mem (show u.toNat < B.length by omega)); rw [hbq]; omega
      rw [← hbq] at how
      have h5 := (h4.bump 9).bump 33
      obtain ⟨ids, hby⟩ := h5.by_get
      simp only [a4, ↓g1, ↓g2, ↓gw, ↓hq4, ↓hg4, hwv, hu0, and_self, hh9, heq, ↓sxp, sxq, ↓reduceIte, Nat.reduceBEq, Nat.reduceLT, evP, evX, evR, blkOf, evA, storeA, Nat.reduceEqDiff, resL, resV, oneOrTup, Int.reduceEq, Int.reduceLT, Int.reduceLE, Int.reduceNeg, Int.reduceAdd, Int.reduceSub, Int.reduceMul, Int.reduceToNat, Nat.reduceAdd, noUnk, AV.cells, reduceCtorEq, Nat.reduceLeDiff, Cells.get, Cells.getN, Nat.reduceMul, ↓bnd_assoc]
      refine Fin.call (w_same hE h5 hby (how _) hlen) fun H6 h6 => ?_
      simp only [decide_true, ↓sxp, sxq, ↓reduceIte, Nat.reduceBEq, Nat.reduceLT, evP, evX, evR, blkOf, evA, storeA, Nat.reduceEqDiff, resL, resV, oneOrTup, Int.reduceEq, Int.reduceLT, Int.reduceLE, Int.reduceNeg, Int.reduceAdd, Int.reduceSub, Int.reduceMul, Int.reduceToNat, Nat.reduceAdd, noUnk, AV.cells, reduceCtorEq, Nat.reduceLeDiff, Cells.get, Cells.getN, Nat.reduceMul, ↓bnd_assoc]
      by_cases e12 : (i : Int) < 12
      · simp only [a3, e12, ↓sxp, sxq, ↓reduceIte, Nat.reduceBEq, Nat.reduceLT, evP, evX, evR, blkOf, evA, storeA, Nat.reduceEqDiff, resL, resV, oneOrTup, Int.reduceEq, Int.reduceLT, Int.reduceLE, Int.reduceNeg, Int.reduceAdd, Int.reduceSub, Int.reduceMul, Int.reduceToNat, Nat.reduceAdd, noUnk, AV.cells, reduceCtorEq, Nat.reduceLeDiff, Cells.get, Cells.getN, Nat.reduceMul, ↓bnd_assoc]
        refine Fin.call (s_size hE (h6.ord [1]) i (by omega) hi.wf) fun H7 h7 => ?_
        have gw6 := (h6.ord [5]).get
        have gw7 := (h7.ord [5]).get
        simp only [a4, ↓gw6, ↓gw7, ↓sxp, sxq, ↓reduceIte, Nat.reduceBEq, Nat.reduceLT, evP, evX, evR, blkOf, evA, storeA, Nat.reduceEqDiff, resL, resV, oneOrTup, Int.reduceEq, Int.reduceLT, Int.reduceLE, Int.reduceNeg, Int.reduceAdd, Int.reduceSub, Int.reduceMul, Int.reduceToNat, Nat.reduceAdd, noUnk, AV.cells, reduceCtorEq, Nat.reduceLeDiff, Cells.get, Cells.getN, Nat.reduceMul, ↓bnd_assoc]
        refine Fin.call (r_size hE refI_like hi.wf i _ _ (by omega) (by omega) (h7.ord [4])) fun H8 h8 => ?_
        simp only [hsz, a83, hwr, ↓sxp, sxq, ↓reduceIte, Nat.reduceBEq, Nat.reduceLT, evP, evX, evR, blkOf, evA, storeA, Nat.reduceEqDiff, resL, resV, oneOrTup, Int.reduceEq, Int.reduceLT, Int.reduceLE, Int.reduceNeg, Int.reduceAdd, Int.reduceSub, Int.reduceMul, Int.reduceToNat, Nat.reduceAdd, noUnk, AV.cells, reduceCtorEq, Nat.reduceLeDiff, Cells.get, Cells.getN, Nat.reduceMul, ↓bnd_assoc]
        refine Fin.of3 (ih (i + 1) _ _ (by omega) (by simp only [a2, ↓sxp, sxq, ↓reduceIte, Nat.reduceBEq, Nat.reduceLT, evP, evX, evR, blkOf, evA, storeA, Nat.reduceEqDiff, resL, resV, oneOrTup, Int.reduceEq, Int.reduceLT, Int.reduceLE, Int.reduceNeg, Int.reduceAdd, Int.reduceSub, Int.reduceMul, Int.reduceToNat, Nat.reduceAdd, noUnk, AV.cells, reduceCtorEq, Nat.reduceLeDiff, Cells.get, Cells.getN, Nat.reduceMul, ↓bnd_assoc]) (by simp only [a3, ↓sxp, sxq, ↓reduceIte, Nat.reduceBEq, Nat.reduceLT, evP, evX, evR, blkOf, evA, storeA, Nat.reduceEqDiff, resL, resV, oneOrTup, Int.reduceEq, Int.reduceLT, Int.reduceLE, Int.reduceNeg, Int.reduceAdd, Int.reduceSub, Int.reduceMul, Int.reduceToNat, Nat.reduceAdd, noUnk, AV.cells, reduceCtorEq, Nat.reduceLeDiff, Cells.get, Cells.getN, Nat.reduceMul, ↓bnd_assoc]) (by simp only [a4, ↓sxp, sxq, ↓reduceIte, Nat.reduceBEq, Nat.reduceLT, evP, evX, evR, blkOf, evA, storeA, Nat.reduceEqDiff, resL, resV, oneOrTup, Int.reduceEq, Int.reduceLT, Int.reduceLE, Int.reduceNeg, Int.reduceAdd, Int.reduceSub, Int.reduceMul, Int.reduceToNat, Nat.reduceAdd, noUnk, AV.cells, reduceCtorEq, Nat.reduceLeDiff, Cells.get, Cells.getN, Nat.reduceMul, ↓bnd_assoc]) (by simp only [a7, ↓sxp, sxq, ↓reduceIte, Nat.reduceBEq, Nat.reduceLT, evP, evX, evR, blkOf, evA, storeA, Nat.reduceEqDiff, resL, resV, oneOrTup, Int.reduceEq, Int.reduceLT, Int.reduceLE, Int.reduceNeg, Int.reduceAdd, Int.reduceSub, Int.reduceMul, Int.reduceToNat, Nat.reduceAdd, noUnk, AV.cells, reduceCtorEq, Nat.reduceLeDiff, Cells.get, Cells.getN, Nat.reduceMul, ↓bnd_assoc]) (by simp only [a81, ↓sxp, sxq, ↓reduceIte, Nat.reduceBEq, Nat.reduceLT, evP, evX, evR, blkOf, evA, storeA, Nat.reduceEqDiff, resL, resV, oneOrTup, Int.reduceEq, Int.reduceLT, Int.reduceLE, Int.reduceNeg, Int.reduceAdd, Int.reduceSub, Int.reduceMul, Int.reduceToNat, Nat.reduceAdd, noUnk, AV.cells, reduceCtorEq, Nat.reduceLeDiff, Cells.get, Cells.getN, Nat.reduceMul, ↓bnd_assoc]) (by simp only [a82, ↓sxp, sxq, ↓reduceIte, Nat.reduceBEq, Nat.reduceLT, evP, evX, evR, blkOf, evA, storeA, Nat.reduceEqDiff, resL, resV, oneOrTup, Int.reduceEq, Int.reduceLT, Int.reduceLE, Int.reduceNeg, Int.reduceAdd, Int.reduceSub, Int.reduceMul, Int.reduceToNat, Nat.reduceAdd, noUnk, AV.cells, reduceCtorEq, Nat.reduceLeDiff, Cells.get, Cells.getN, Nat.reduceMul, ↓bnd_assoc]) (by simp only [↓sxp, sxq, ↓reduceIte, Nat.reduceBEq, Nat.reduceLT, evP, evX, evR, blkOf, evA, storeA, Nat.reduceEqDiff, resL, resV, oneOrTup, Int.reduceEq, Int.reduceLT, Int.reduceLE, Int.reduceNeg, Int.reduceAdd, Int.reduceSub, Int.reduceMul, Int.reduceToNat, Nat.reduceAdd, noUnk, AV.cells, reduceCtorEq, Nat.reduceLeDiff, Cells.get, Cells.getN, Nat.reduceMul, ↓bnd_assoc]) ((((h8.rm 4).rm 3).rm 2).ord [1, 0])) fun _ _ _ h => h
      · simp only [e12, a83, hwr, ↓sxp, sxq, ↓reduceIte, Nat.reduceBEq, Nat.reduceLT, evP, evX, evR, blkOf, evA, storeA, Nat.reduceEqDiff, resL, resV, oneOrTup, Int.reduceEq, Int.reduceLT, Int.reduceLE, Int.reduceNeg, Int.reduceAdd, Int.reduceSub, Int.reduceMul, Int.reduceToNat, Nat.reduceAdd, noUnk, AV.cells, reduceCtorEq, Nat.reduceLeDiff, Cells.get, Cells.getN, Nat.reduceMul, ↓bnd_assoc]
        refine Fin.of3 (ih (i + 1) _ _ (by omega) (by simp only [a2, ↓sxp, sxq, ↓reduceIte, Nat.reduceBEq, Nat.reduceLT, evP, evX, evR, blkOf, evA, storeA, Nat.reduceEqDiff, resL, resV, oneOrTup, Int.reduceEq, Int.reduceLT, Int.reduceLE, Int.reduceNeg, Int.reduceAdd, Int.reduceSub, Int.reduceMul, Int.reduceToNat, Nat.reduceAdd, noUnk, AV.cells, reduceCtorEq, Nat.reduceLeDiff, Cells.get, Cells.getN, Nat.reduceMul, ↓bnd_assoc]) (by simp only [a3, ↓sxp, sxq, ↓reduceIte, Nat.reduceBEq, Nat.reduceLT, evP, evX, evR, blkOf, evA, storeA, Nat.reduceEqDiff, resL, resV, oneOrTup, Int.reduceEq, Int.reduceLT, Int.reduceLE, Int.reduceNeg, Int.reduceAdd, Int.reduceSub, Int.reduceMul, Int.reduceToNat, Nat.reduceAdd, noUnk, AV.cells, reduceCtorEq, Nat.reduceLeDiff, Cells.get, Cells.getN, Nat.reduceMul, ↓bnd_assoc]) (by simp only [a4, ↓sxp, sxq, ↓reduceIte, Nat.reduceBEq, Nat.reduceLT, evP, evX, evR, blkOf, evA, storeA, Nat.reduceEqDiff, resL, resV, oneOrTup, Int.reduceEq, Int.reduceLT, Int.reduceLE, Int.reduceNeg, Int.reduceAdd, Int.reduceSub, Int.reduceMul, Int.reduceToNat, Nat.reduceAdd, noUnk, AV.cells, reduceCtorEq, Nat.reduceLeDiff, Cells.get, Cells.getN, Nat.reduceMul, ↓bnd_assoc]) (by simp only [a7, ↓sxp, sxq, ↓reduceIte, Nat.reduceBEq, Nat.reduceLT, evP, evX, evR, blkOf, evA, storeA, Nat.reduceEqDiff, resL, resV, oneOrTup, Int.reduceEq, Int.reduceLT, Int.reduceLE, Int.reduceNeg, Int.reduceAdd, Int.reduceSub, Int.reduceMul, Int.reduceToNat, Nat.reduceAdd, noUnk, AV.cells, reduceCtorEq, Nat.reduceLeDiff, Cells.get, Cells.getN, Nat.reduceMul, ↓bnd_assoc]) (by simp only [a81, ↓sxp, sxq, ↓reduceIte, Nat.reduceBEq, Nat.reduceLT, evP, evX, evR, blkOf, evA, storeA, Nat.reduceEqDiff, resL, resV, oneOrTup, Int.reduceEq, Int.reduceLT, Int.reduceLE, Int.reduceNeg, Int.reduceAdd, Int.reduceSub, Int.reduceMul, Int.reduceToNat, Nat.reduceAdd, noUnk, AV.cells, reduceCtorEq, Nat.reduceLeDiff, Cells.get, Cells.getN, Nat.reduceMul, ↓bnd_assoc]) (by simp only [a82, ↓sxp, sxq, ↓reduceIte, Nat.reduceBEq, Nat.reduceLT, evP, evX, evR, blkOf, evA, storeA, Nat.reduceEqDiff, resL, resV, oneOrTup, Int.reduceEq, Int.reduceLT, Int.reduceLE, Int.reduceNeg, Int.reduceAdd, Int.reduceSub, Int.reduceMul, Int.reduceToNat, Nat.reduceAdd, noUnk, AV.cells, reduceCtorEq, Nat.reduceLeDiff, Cells.get, Cells.getN, Nat.reduceMul, ↓bnd_assoc]) (by simp only [↓sxp, sxq, ↓reduceIte, Nat.reduceBEq, Nat.reduceLT, evP, evX, evR, blkOf, evA, storeA, Nat.reduceEqDiff, resL, resV, oneOrTup, Int.reduceEq, Int.reduceLT, Int.reduceLE, Int.reduceNeg, Int.reduceAdd, Int.reduceSub, Int.reduceMul, Int.reduceToNat, Nat.reduceAdd, noUnk, AV.cells, reduceCtorEq, Nat.reduceLeDiff, Cells.get, Cells.getN, Nat.reduceMul, ↓bnd_assoc]) ((((h6.rm 3).rm 2).rm 0))) fun _ _ _ h => h
    · have hbq : bytesM S (i : Int) = [] := by rw [hbm, if_neg e9]
      have how : OldBy W (bytesM S (i : Int)) (.sl none 0 (.exact 0)) := by rw [hbq]; exact fun H => .nil rfl
      have hlen : (bytesM S (i : Int)).length < 4611686018427387904 := by rw [hbq]; simp
      have h5 := h4.bump 33
      obtain ⟨ids, hby⟩ := h5.by_get
      have e9' : decide (k = 9) = false := by simp [e9]
      have e90 : decide ((9 : Int) = 0) = false := rfl
      rw [e9', e90] at hh9
      simp only [a4, ↓g1, ↓g2, ↓gw, and_self, hh9, e9, heq, ↓sxp, sxq, ↓reduceIte, Nat.reduceBEq, Nat.reduceLT, evP, evX, evR, blkOf, evA, storeA, Nat.reduceEqDiff, resL, resV, oneOrTup, Int.reduceEq, Int.reduceLT, Int.reduceLE, Int.reduceNeg, Int.reduceAdd, Int.reduceSub, Int.reduceMul, Int.reduceToNat, Nat.reduceAdd, noUnk, AV.cells, reduceCtorEq, Nat.reduceLeDiff, Cells.get, Cells.getN, Nat.reduceMul, ↓bnd_assoc]
      refine Fin.call (w_same hE h5 hby (how _) hlen) fun H6 h6 => ?_
      simp only [decide_true, ↓sxp, sxq, ↓reduceIte, Nat.reduceBEq, Nat.reduceLT, evP, evX, evR, blkOf, evA, storeA, Nat.reduceEqDiff, resL, resV, oneOrTup, Int.reduceEq, Int.reduceLT, Int.reduceLE, Int.reduceNeg, Int.reduceAdd, Int.reduceSub, Int.reduceMul, Int.reduceToNat, Nat.reduceAdd, noUnk, AV.cells, reduceCtorEq, Nat.reduceLeDiff, Cells.get, Cells.getN, Nat.reduceMul, ↓bnd_assoc]
      by_cases e12 : (i : Int) < 12
      · simp only [a3, e12, ↓sxp, sxq, ↓reduceIte, Nat.reduceBEq, Nat.reduceLT, evP, evX, evR, blkOf, evA, storeA, Nat.reduceEqDiff, resL, resV, oneOrTup, Int.reduceEq, Int.reduceLT, Int.reduceLE, Int.reduceNeg, Int.reduceAdd, Int.reduceSub, Int.reduceMul, Int.reduceToNat, Nat.reduceAdd, noUnk, AV.cells, reduceCtorEq, Nat.reduceLeDiff, Cells.get, Cells.getN, Nat.reduceMul, ↓bnd_assoc]
        refine Fin.call (s_size hE (h6.ord [1]) i (by omega) hi.wf) fun H7 h7 => ?_
        have gw6 := (h6.ord [5]).get
        have gw7 := (h7.ord [5]).get
        simp only [a4, ↓gw6, ↓gw7, ↓sxp, sxq, ↓reduceIte, Nat.reduceBEq, Nat.reduceLT, evP, evX, evR, blkOf, evA, storeA, Nat.reduceEqDiff, resL, resV, oneOrTup, Int.reduceEq, Int.reduceLT, Int.reduceLE, Int.reduceNeg, Int.reduceAdd, Int.reduceSub, Int.reduceMul, Int.reduceToNat, Nat.reduceAdd, noUnk, AV.cells, reduceCtorEq, Nat.reduceLeDiff, Cells.get, Cells.getN, Nat.reduceMul, ↓bnd_assoc]
        refine Fin.call (r_size hE refI_like hi.wf i _ _ (by omega) (by omega) (h7.ord [4])) fun H8 h8 => ?_
        simp only [hsz, a83, hwr, ↓sxp, sxq, ↓reduceIte, Nat.reduceBEq, Nat.reduceLT, evP, evX, evR, blkOf, evA, storeA, Nat.reduceEqDiff, resL, resV, oneOrTup, Int.reduceEq, Int.reduceLT, Int.reduceLE, Int.reduceNeg, Int.reduceAdd, Int.reduceSub, Int.reduceMul, Int.reduceToNat, Nat.reduceAdd, noUnk, AV.cells, reduceCtorEq, Nat.reduceLeDiff, Cells.get, Cells.getN, Nat.reduceMul, ↓bnd_assoc]
        refine Fin.of3 (ih (i + 1) _ _ (by omega) (by simp only [a2, ↓sxp, sxq, ↓reduceIte, Nat.reduceBEq, Nat.reduceLT, evP, evX, evR, blkOf, evA, storeA, Nat.reduceEqDiff, resL, resV, oneOrTup, Int.reduceEq, Int.reduceLT, Int.reduceLE, Int.reduceNeg, Int.reduceAdd, Int.reduceSub, Int.reduceMul, Int.reduceToNat, Nat.reduceAdd, noUnk, AV.cells, reduceCtorEq, Nat.reduceLeDiff, Cells.get, Cells.getN, Nat.reduceMul, ↓bnd_assoc]) (by simp only [a3, ↓sxp, sxq, ↓reduceIte, Nat.reduceBEq, Nat.reduceLT, evP, evX, evR, blkOf, evA, storeA, Nat.reduceEqDiff, resL, resV, oneOrTup, Int.reduceEq, Int.reduceLT, Int.reduceLE, Int.reduceNeg, Int.reduceAdd, Int.reduceSub, Int.reduceMul, Int.reduceToNat, Nat.reduceAdd, noUnk, AV.cells, reduceCtorEq, Nat.reduceLeDiff, Cells.get, Cells.getN, Nat.reduceMul, ↓bnd_assoc]) (by simp only [a4, ↓sxp, sxq, ↓reduceIte, Nat.reduceBEq, Nat.reduceLT, evP, evX, evR, blkOf, evA, storeA, Nat.reduceEqDiff, resL, resV, oneOrTup, Int.reduceEq, Int.reduceLT, Int.reduceLE, Int.reduceNeg, Int.reduceAdd, Int.reduceSub, Int.reduceMul, Int.reduceToNat, Nat.reduceAdd, noUnk, AV.cells, reduceCtorEq, Nat.reduceLeDiff, Cells.get, Cells.getN, Nat.reduceMul, ↓bnd_assoc]) (by simp only [a7, ↓sxp, sxq, ↓reduceIte, Nat.reduceBEq, Nat.reduceLT, evP, evX, evR, blkOf, evA, storeA, Nat.reduceEqDiff, resL, resV, oneOrTup, Int.reduceEq, Int.reduceLT, Int.reduceLE, Int.reduceNeg, Int.reduceAdd, Int.reduceSub, Int.reduceMul, Int.reduceToNat, Nat.reduceAdd, noUnk, AV.cells, reduceCtorEq, Nat.reduceLeDiff, Cells.get, Cells.getN, Nat.reduceMul, ↓bnd_assoc]) (by simp only [a81, ↓sxp, sxq, ↓reduceIte, Nat.reduceBEq, Nat.reduceLT, evP, evX, evR, blkOf, evA, storeA, Nat.reduceEqDiff, resL, resV, oneOrTup, Int.reduceEq, Int.reduceLT, Int.reduceLE, Int.reduceNeg, Int.reduceAdd, Int.reduceSub, Int.reduceMul, Int.reduceToNat, Nat.reduceAdd, noUnk, AV.cells, reduceCtorEq, Nat.reduceLeDiff, Cells.get, Cells.getN, Nat.reduceMul, ↓bnd_assoc]) (by simp only [a82, ↓sxp, sxq, ↓reduceIte, Nat.reduceBEq, Nat.reduceLT, evP, evX, evR, blkOf, evA, storeA, Nat.reduceEqDiff, resL, resV, oneOrTup, Int.reduceEq, Int.reduceLT, Int.reduceLE, Int.reduceNeg, Int.reduceAdd, Int.reduceSub, Int.reduceMul, Int.reduceToNat, Nat.reduceAdd, noUnk, AV.cells, reduceCtorEq, Nat.reduceLeDiff, Cells.get, Cells.getN, Nat.reduceMul, ↓bnd_assoc]) (by simp only [↓sxp, sxq, ↓reduceIte, Nat.reduceBEq, Nat.reduceLT, evP, evX, evR, blkOf, evA, storeA, Nat.reduceEqDiff, resL, resV, oneOrTup, Int.reduceEq, Int.reduceLT, Int.reduceLE, Int.reduceNeg, Int.reduceAdd, Int.reduceSub, Int.reduceMul, Int.reduceToNat, Nat.reduceAdd, noUnk, AV.cells, reduceCtorEq, Nat.reduceLeDiff, Cells.get, Cells.getN, Nat.reduceMul, ↓bnd_assoc]) ((((h8.rm 4).rm 3).rm 2).ord [1, 0])) fun _ _ _ h => h
      · simp only [e12, a83, hwr, ↓sxp, sxq, ↓reduceIte, Nat.reduceBEq, Nat.reduceLT, evP, evX, evR, blkOf, evA, storeA, Nat.reduceEqDiff, resL, resV, oneOrTup, Int.reduceEq, Int.reduceLT, Int.reduceLE, Int.reduceNeg, Int.reduceAdd, Int.reduceSub, Int.reduceMul, Int.reduceToNat, Nat.reduceAdd, noUnk, AV.cells, reduceCtorEq, Nat.reduceLeDiff, Cells.get, Cells.getN, Nat.reduceMul, ↓bnd_assoc]
        refine Fin.of3 (ih (i + 1) _ _ (by omega) (by simp only [a2, ↓sxp, sxq, ↓reduceIte, Nat.reduceBEq, Nat.reduceLT, evP, evX, evR, blkOf, evA, storeA, Nat.reduceEqDiff, resL, resV, oneOrTup, Int.reduceEq, Int.reduceLT, Int.reduceLE, Int.reduceNeg, Int.reduceAdd, Int.reduceSub, Int.reduceMul, Int.reduceToNat, Nat.reduceAdd, noUnk, AV.cells, reduceCtorEq, Nat.reduceLeDiff, Cells.get, Cells.getN, Nat.reduceMul, ↓bnd_assoc]) (by simp only [a3, ↓sxp, sxq, ↓reduceIte, Nat.reduceBEq, Nat.reduceLT, evP, evX, evR, blkOf, evA, storeA, Nat.reduceEqDiff, resL, resV, oneOrTup, Int.reduceEq, Int.reduceLT, Int.reduceLE, Int.reduceNeg, Int.reduceAdd, Int.reduceSub, Int.reduceMul, Int.reduceToNat, Nat.reduceAdd, noUnk, AV.cells, reduceCtorEq, Nat.reduceLeDiff, Cells.get, Cells.getN, Nat.reduceMul, ↓bnd_assoc]) (by simp only [a4, ↓sxp, sxq, ↓reduceIte, Nat.reduceBEq, Nat.reduceLT, evP, evX, evR, blkOf, evA, storeA, Nat.reduceEqDiff, resL, resV, oneOrTup, Int.reduceEq, Int.reduceLT, Int.reduceLE, Int.reduceNeg, Int.reduceAdd, Int.reduceSub, Int.reduceMul, Int.reduceToNat, Nat.reduceAdd, noUnk, AV.cells, reduceCtorEq, Nat.reduceLeDiff, Cells.get, Cells.getN, Nat.reduceMul, ↓bnd_assoc]) (by simp only [a7, ↓sxp, sxq, ↓reduceIte, Nat.reduceBEq, Nat.reduceLT, evP, evX, evR, blkOf, evA, storeA, Nat.reduceEqDiff, resL, resV, oneOrTup, Int.reduceEq, Int.reduceLT, Int.reduceLE, Int.reduceNeg, Int.reduceAdd, Int.reduceSub, Int.reduceMul, Int.reduceToNat, Nat.reduceAdd, noUnk, AV.cells, reduceCtorEq, Nat.reduceLeDiff, Cells.get, Cells.getN, Nat.reduceMul, ↓bnd_assoc]) (by simp only [a81, ↓sxp, sxq, ↓reduceIte, Nat.reduceBEq, Nat.reduceLT, evP, evX, evR, blkOf, evA, storeA, Nat.reduceEqDiff, resL, resV, oneOrTup, Int.reduceEq, Int.reduceLT, Int.reduceLE, Int.reduceNeg, Int.reduceAdd, Int.reduceSub, Int.reduceMul, Int.reduceToNat, Nat.reduceAdd, noUnk, AV.cells, reduceCtorEq, Nat.reduceLeDiff, Cells.get, Cells.getN, Nat.reduceMul, ↓bnd_assoc]) (by simp only [a82, ↓sxp, sxq, ↓reduceIte, Nat.reduceBEq, Nat.reduceLT, evP, evX, evR, blkOf, evA, storeA, Nat.reduceEqDiff, resL, resV, oneOrTup, Int.reduceEq, Int.reduceLT, Int.reduceLE, Int.reduceNeg, Int.reduceAdd, Int.reduceSub, Int.reduceMul, Int.reduceToNat, Nat.reduceAdd, noUnk, AV.cells, reduceCtorEq, Nat.reduceLeDiff, Cells.get, Cells.getN, Nat.reduceMul, ↓bnd_assoc]) (by simp only [↓sxp, sxq, ↓reduceIte, Nat.reduceBEq, Nat.reduceLT, evP, evX, evR, blkOf, evA, storeA, Nat.reduceEqDiff, resL, resV, oneOrTup, Int.reduceEq, Int.reduceLT, Int.reduceLE, Int.reduceNeg, Int.reduceAdd, Int.reduceSub, Int.reduceMul, Int.reduceToNat, Nat.reduceAdd, noUnk, AV.cells, reduceCtorEq, Nat.reduceLeDiff, Cells.get, Cells.getN, Nat.reduceMul, ↓bnd_assoc]) ((((h6.rm 3).rm 2).rm 0))) fun _ _ _ h => h
end
end Go.Proofs.Ytnfehkjkmlbceaa.Sx

/- TermPuts, whole: in the second reading. -/
namespace Go.Proofs.Ytnfehkjkmlbceaa.Sx
open HP
section
variable {W : World} {E : Env}
theorem inv0 : Inv S0 [] := ⟨rfl, rfl, fun i x h => by simp [S0] at h, fun k hk => by
    have : S0.N.getD k 0 = 0 := by
      match k, hk with
      | 0, _ => rfl
      | 1, _ => rfl
      | 2, _ => rfl
      | 3, _ => rfl
      | 4, _ => rfl
    omega, fun k w _ _ h => by simp [S0] at h, fun k h1 hk => .inl (by
      match k, hk with
      | 0, _ => rfl
      | 1, _ => rfl
      | 2, _ => rfl
      | 3, _ => rfl
      | 4, _ => rfl), fun i hi => by simp [S0] at hi, fun x hx => by simp [S0] at hx, fun b hb => by simp [S0] at hb⟩
theorem law_puts (hE : EnvT E) (h3 : E 3 = some (.code sf3)) {ds : List Do1} {v : AV} (hv : Dos W ds v) : ∃ H', go W E 3 [v] ⟨0, .e, .e⟩ = some (.bool true, H') := by
  suffices Fin (fun r => r.1 = .bool true) (go W E 3 [v] ⟨0, .e, .e⟩) by
    obtain ⟨⟨r, H'⟩, e, hr⟩ := this
    simp only at hr
    subst hr
    exact ⟨H', e⟩
  have hl : lenV v = some (.int .i64 ds.length) := hv.2.1
  rw [go_code h3 (by simp [sf3])]
  have q1 : Holds _ [blk 0 [.bool false] 4] := (Holds.nil HWf.empty).push (c := [.bool false]) (t := 4)
  simp only [sf3, ↓sxp, sxq, ↓reduceIte, Nat.reduceBEq, Nat.reduceLT, evP, evX, evR, blkOf, evA, storeA, Nat.reduceEqDiff, resL, resV, oneOrTup, Int.reduceEq, Int.reduceLT, Int.reduceLE, Int.reduceNeg, Int.reduceAdd, Int.reduceSub, Int.reduceMul, Int.reduceToNat, Nat.reduceAdd, noUnk, AV.cells, reduceCtorEq, Nat.reduceLeDiff, Cells.get, Cells.getN, Nat.reduceMul, ↓bnd_assoc]
  refine Fin.call (l_awake hE q1) fun H1 q1 => ?_
  simp only [↓sxp, sxq, ↓reduceIte, Nat.reduceBEq, Nat.reduceLT, evP, evX, evR, blkOf, evA, storeA, Nat.reduceEqDiff, resL, resV, oneOrTup, Int.reduceEq, Int.reduceLT, Int.reduceLE, Int.reduceNeg, Int.reduceAdd, Int.reduceSub, Int.reduceMul, Int.reduceToNat, Nat.reduceAdd, noUnk, AV.cells, reduceCtorEq, Nat.reduceLeDiff, Cells.get, Cells.getN, Nat.reduceMul, ↓bnd_assoc]
  refine Fin.call (l_few hE hv q1) fun H2 q2 => ?_
  cases hfw : (fewL ds && decide (ds.length ≤ 30)) with
  | false =>
    simp only [↓sxp, sxq, ↓reduceIte, Nat.reduceBEq, Nat.reduceLT, evP, evX, evR, blkOf, evA, storeA, Nat.reduceEqDiff, resL, resV, oneOrTup, Int.reduceEq, Int.reduceLT, Int.reduceLE, Int.reduceNeg, Int.reduceAdd, Int.reduceSub, Int.reduceMul, Int.reduceToNat, Nat.reduceAdd, noUnk, AV.cells, reduceCtorEq, Nat.reduceLeDiff, Cells.get, Cells.getN, Nat.reduceMul, ↓bnd_assoc]
    refine Fin.write [.bool true] q2 rfl (by simp) rfl fun H3 q3 => ?_
    have g3 := q3.get
    simp only [↓g3, ↓sxp, sxq, ↓reduceIte, Nat.reduceBEq, Nat.reduceLT, evP, evX, evR, blkOf, evA, storeA, Nat.reduceEqDiff, resL, resV, oneOrTup, Int.reduceEq, Int.reduceLT, Int.reduceLE, Int.reduceNeg, Int.reduceAdd, Int.reduceSub, Int.reduceMul, Int.reduceToNat, Nat.reduceAdd, noUnk, AV.cells, reduceCtorEq, Nat.reduceLeDiff, Cells.get, Cells.getN, Nat.reduceMul, ↓bnd_assoc]
    exact Fin.ret rfl
  | true =>
    obtain ⟨hf1, hf2⟩ := Bool.and_eq_true_iff.1 hfw
    have hf2 : ds.length ≤ 30 := by simpa using hf2
    simp only [↓sxp, sxq, ↓reduceIte, Nat.reduceBEq, Nat.reduceLT, evP, evX, evR, blkOf, evA, storeA, Nat.reduceEqDiff, resL, resV, oneOrTup, Int.reduceEq, Int.reduceLT, Int.reduceLE, Int.reduceNeg, Int.reduceAdd, Int.reduceSub, Int.reduceMul, Int.reduceToNat, Nat.reduceAdd, noUnk, AV.cells, reduceCtorEq, Nat.reduceLeDiff, Cells.get, Cells.getN, Nat.reduceMul, ↓bnd_assoc]
    refine Fin.callE _ _ (s_new (W := W) hE q2) fun p H3 q3 => ?_
    have q4 := (q3.push (c := [.sl none 0 (.exact 0), .sl none 0 (.exact 0)]) (t := 31)).push (c := [.ptr none]) (t := 27)
    simp only [push_next] at q4
    simp only [hl, ↓sxp, sxq, ↓reduceIte, Nat.reduceBEq, Nat.reduceLT, evP, evX, evR, blkOf, evA, storeA, Nat.reduceEqDiff, resL, resV, oneOrTup, Int.reduceEq, Int.reduceLT, Int.reduceLE, Int.reduceNeg, Int.reduceAdd, Int.reduceSub, Int.reduceMul, Int.reduceToNat, Nat.reduceAdd, noUnk, AV.cells, reduceCtorEq, Nat.reduceLeDiff, Cells.get, Cells.getN, Nat.reduceMul, ↓bnd_assoc]
    generalize H3.next = q at *
    refine Fin.write [.ptr (some ⟨.own q, 0⟩)] q4 rfl (by simp) rfl fun H4 q5 => ?_
    generalize q + 1 = bw at *
    have q6 := refP_shut (W := W) (L := []) (B := []) .nil ((((q5.ord [1]).row_nil (ty := 34) (es := 1)).row_nil (ty := 33) (es := 3)).ord [2, 0, 0])
    refine Fin.loop (puts_loop (br := 0) (bw := bw) (p := p) (q := q) (Γ := []) hE hv hf1 hf2 ds.length 0 _ _ S0 [] (by omega) (by simp only [↓sxp, sxq, ↓reduceIte, Nat.reduceBEq, Nat.reduceLT, evP, evX, evR, blkOf, evA, storeA, Nat.reduceEqDiff, resL, resV, oneOrTup, Int.reduceEq, Int.reduceLT, Int.reduceLE, Int.reduceNeg, Int.reduceAdd, Int.reduceSub, Int.reduceMul, Int.reduceToNat, Nat.reduceAdd, noUnk, AV.cells, reduceCtorEq, Nat.reduceLeDiff, Cells.get, Cells.getN, Nat.reduceMul, ↓bnd_assoc]) (by simp only [↓sxp, sxq, ↓reduceIte, Nat.reduceBEq, Nat.reduceLT, evP, evX, evR, blkOf, evA, storeA, Nat.reduceEqDiff, resL, resV, oneOrTup, Int.reduceEq, Int.reduceLT, Int.reduceLE, Int.reduceNeg, Int.reduceAdd, Int.reduceSub, Int.reduceMul, Int.reduceToNat, Nat.reduceAdd, noUnk, AV.cells, reduceCtorEq, Nat.reduceLeDiff, Cells.get, Cells.getN, Nat.reduceMul, ↓bnd_assoc]) (by simp only [↓sxp, sxq, ↓reduceIte, Nat.reduceBEq, Nat.reduceLT, evP, evX, evR, blkOf, evA, storeA, Nat.reduceEqDiff, resL, resV, oneOrTup, Int.reduceEq, Int.reduceLT, Int.reduceLE, Int.reduceNeg, Int.reduceAdd, Int.reduceSub, Int.reduceMul, Int.reduceToNat, Nat.reduceAdd, noUnk, AV.cells, reduceCtorEq, Nat.reduceLeDiff, Cells.get, Cells.getN, Nat.reduceMul, ↓bnd_assoc]) (by simp only [↓sxp, sxq, ↓reduceIte, Nat.reduceBEq, Nat.reduceLT, evP, evX, evR, blkOf, evA, storeA, Nat.reduceEqDiff, resL, resV, oneOrTup, Int.reduceEq, Int.reduceLT, Int.reduceLE, Int.reduceNeg, Int.reduceAdd, Int.reduceSub, Int.reduceMul, Int.reduceToNat, Nat.reduceAdd, noUnk, AV.cells, reduceCtorEq, Nat.reduceLeDiff, Cells.get, Cells.getN, Nat.reduceMul, ↓bnd_assoc]) (by simp only [↓sxp, sxq, ↓reduceIte, Nat.reduceBEq, Nat.reduceLT, evP, evX, evR, blkOf, evA, storeA, Nat.reduceEqDiff, resL, resV, oneOrTup, Int.reduceEq, Int.reduceLT, Int.reduceLE, Int.reduceNeg, Int.reduceAdd, Int.reduceSub, Int.reduceMul, Int.reduceToNat, Nat.reduceAdd, noUnk, AV.cells, reduceCtorEq, Nat.reduceLeDiff, Cells.get, Cells.getN, Nat.reduceMul, ↓bnd_assoc]) (by simp only [↓sxp, sxq, ↓reduceIte, Nat.reduceBEq, Nat.reduceLT, evP, evX, evR, blkOf, evA, storeA, Nat.reduceEqDiff, resL, resV, oneOrTup, Int.reduceEq, Int.reduceLT, Int.reduceLE, Int.reduceNeg, Int.reduceAdd, Int.reduceSub, Int.reduceMul, Int.reduceToNat, Nat.reduceAdd, noUnk, AV.cells, reduceCtorEq, Nat.reduceLeDiff, Cells.get, Cells.getN, Nat.reduceMul, ↓bnd_assoc]; rfl) inv0 (by simp [S0]) (by simp [S0]) (q6.ord [2, 0, 0])) fun lv A H5 ⟨hlv, a2, a3, a4, S, B, hi, hL, hT, q7⟩ => ?_
    subst hlv
    have hBl : B.length = S.T.length := by rw [← hi.t]; simp
    simp only [↓sxp, sxq, ↓reduceIte, Nat.reduceBEq, Nat.reduceLT, evP, evX, evR, blkOf, evA, storeA, Nat.reduceEqDiff, resL, resV, oneOrTup, Int.reduceEq, Int.reduceLT, Int.reduceLE, Int.reduceNeg, Int.reduceAdd, Int.reduceSub, Int.reduceMul, Int.reduceToNat, Nat.reduceAdd, noUnk, AV.cells, reduceCtorEq, Nat.reduceLeDiff, Cells.get, Cells.getN, Nat.reduceMul, ↓bnd_assoc]
    refine Fin.write [.int .i64 0] (q7.push (c := [.int .i64 0]) (t := 3)) rfl (by simp) rfl fun H6 q8 => ?_
    generalize H5.next = bn at *
    have q9 := q8.push (c := [.ptr (some ⟨.own p, 0⟩)]) (t := 25)
    simp only [a3, s_all hE, ↓sxp, sxq, ↓reduceIte, Nat.reduceBEq, Nat.reduceLT, evP, evX, evR, blkOf, evA, storeA, Nat.reduceEqDiff, resL, resV, oneOrTup, Int.reduceEq, Int.reduceLT, Int.reduceLE, Int.reduceNeg, Int.reduceAdd, Int.reduceSub, Int.reduceMul, Int.reduceToNat, Nat.reduceAdd, noUnk, AV.cells, reduceCtorEq, Nat.reduceLeDiff, Cells.get, Cells.getN, Nat.reduceMul, ↓bnd_assoc]
    refine Fin.range (bx := H6.next) (fun i => refP W q S.L B :: blk bw [.ptr (some ⟨.own q, 0⟩)] 27 :: blk bn [.int .i64 i] 3 :: blk 0 [.bool false] 4 :: []) (fun y => [HP.pure False]) hE (by omega) (by simp only [↓sxp, sxq, ↓reduceIte, Nat.reduceBEq, Nat.reduceLT, evP, evX, evR, blkOf, evA, storeA, Nat.reduceEqDiff, resL, resV, oneOrTup, Int.reduceEq, Int.reduceLT, Int.reduceLE, Int.reduceNeg, Int.reduceAdd, Int.reduceSub, Int.reduceMul, Int.reduceToNat, Nat.reduceAdd, noUnk, AV.cells, reduceCtorEq, Nat.reduceLeDiff, Cells.get, Cells.getN, Nat.reduceMul, ↓bnd_assoc]) (q9.ord [2, 0, 1, 1]) (fun l d i x hx => puts_round (by simp only [a4, ↓sxp, sxq, ↓reduceIte, Nat.reduceBEq, Nat.reduceLT, evP, evX, evR, blkOf, evA, storeA, Nat.reduceEqDiff, resL, resV, oneOrTup, Int.reduceEq, Int.reduceLT, Int.reduceLE, Int.reduceNeg, Int.reduceAdd, Int.reduceSub, Int.reduceMul, Int.reduceToNat, Nat.reduceAdd, noUnk, AV.cells, reduceCtorEq, Nat.reduceLeDiff, Cells.get, Cells.getN, Nat.reduceMul, ↓bnd_assoc]) (by simp only [↓sxp, sxq, ↓reduceIte, Nat.reduceBEq, Nat.reduceLT, evP, evX, evR, blkOf, evA, storeA, Nat.reduceEqDiff, resL, resV, oneOrTup, Int.reduceEq, Int.reduceLT, Int.reduceLE, Int.reduceNeg, Int.reduceAdd, Int.reduceSub, Int.reduceMul, Int.reduceToNat, Nat.reduceAdd, noUnk, AV.cells, reduceCtorEq, Nat.reduceLeDiff, Cells.get, Cells.getN, Nat.reduceMul, ↓bnd_assoc]) (by omega) i x hx) ?_ ?_
    · intro d H7 q10
      obtain ⟨vl, vb, fb, q11⟩ := refP_I (q10.ord [3])
      obtain ⟨al, cl, ab, cb', e1, e2, ho, hq, hl', hbb⟩ := refI_facts q11
      have gw := (q11.ord [4]).get
      have hvl : lenV vl = some (.int .i64 S.L.length) := by subst e1; rfl
      simp only [a4, ↓gw, ↓hq, hvl, ↓sxp, sxq, ↓reduceIte, Nat.reduceBEq, Nat.reduceLT, evP, evX, evR, blkOf, evA, storeA, Nat.reduceEqDiff, resL, resV, oneOrTup, Int.reduceEq, Int.reduceLT, Int.reduceLE, Int.reduceNeg, Int.reduceAdd, Int.reduceSub, Int.reduceMul, Int.reduceToNat, Nat.reduceAdd, noUnk, AV.cells, reduceCtorEq, Nat.reduceLeDiff, Cells.get, Cells.getN, Nat.reduceMul, ↓bnd_assoc]
      refine Fin.loop (puts_loop2 (br := 0) (bw := bw) (bn := bn) (p := p) (q := q) (vl := vl) (vb := vb) (fb := fb) hE hi hL S.L.length 0 _ _ (by omega) (by simp only [a2, ↓sxp, sxq, ↓reduceIte, Nat.reduceBEq, Nat.reduceLT, evP, evX, evR, blkOf, evA, storeA, Nat.reduceEqDiff, resL, resV, oneOrTup, Int.reduceEq, Int.reduceLT, Int.reduceLE, Int.reduceNeg, Int.reduceAdd, Int.reduceSub, Int.reduceMul, Int.reduceToNat, Nat.reduceAdd, noUnk, AV.cells, reduceCtorEq, Nat.reduceLeDiff, Cells.get, Cells.getN, Nat.reduceMul, ↓bnd_assoc]) (by simp only [a3, ↓sxp, sxq, ↓reduceIte, Nat.reduceBEq, Nat.reduceLT, evP, evX, evR, blkOf, evA, storeA, Nat.reduceEqDiff, resL, resV, oneOrTup, Int.reduceEq, Int.reduceLT, Int.reduceLE, Int.reduceNeg, Int.reduceAdd, Int.reduceSub, Int.reduceMul, Int.reduceToNat, Nat.reduceAdd, noUnk, AV.cells, reduceCtorEq, Nat.reduceLeDiff, Cells.get, Cells.getN, Nat.reduceMul, ↓bnd_assoc]) (by simp only [a4, ↓sxp, sxq, ↓reduceIte, Nat.reduceBEq, Nat.reduceLT, evP, evX, evR, blkOf, evA, storeA, Nat.reduceEqDiff, resL, resV, oneOrTup, Int.reduceEq, Int.reduceLT, Int.reduceLE, Int.reduceNeg, Int.reduceAdd, Int.reduceSub, Int.reduceMul, Int.reduceToNat, Nat.reduceAdd, noUnk, AV.cells, reduceCtorEq, Nat.reduceLeDiff, Cells.get, Cells.getN, Nat.reduceMul, ↓bnd_assoc]) (by simp only [↓sxp, sxq, ↓reduceIte, Nat.reduceBEq, Nat.reduceLT, evP, evX, evR, blkOf, evA, storeA, Nat.reduceEqDiff, resL, resV, oneOrTup, Int.reduceEq, Int.reduceLT, Int.reduceLE, Int.reduceNeg, Int.reduceAdd, Int.reduceSub, Int.reduceMul, Int.reduceToNat, Nat.reduceAdd, noUnk, AV.cells, reduceCtorEq, Nat.reduceLeDiff, Cells.get, Cells.getN, Nat.reduceMul, ↓bnd_assoc]) (by simp only [↓sxp, sxq, ↓reduceIte, Nat.reduceBEq, Nat.reduceLT, evP, evX, evR, blkOf, evA, storeA, Nat.reduceEqDiff, resL, resV, oneOrTup, Int.reduceEq, Int.reduceLT, Int.reduceLE, Int.reduceNeg, Int.reduceAdd, Int.reduceSub, Int.reduceMul, Int.reduceToNat, Nat.reduceAdd, noUnk, AV.cells, reduceCtorEq, Nat.reduceLeDiff, Cells.get, Cells.getN, Nat.reduceMul, ↓bnd_assoc]) (by simp only [↓sxp, sxq, ↓reduceIte, Nat.reduceBEq, Nat.reduceLT, evP, evX, evR, blkOf, evA, storeA, Nat.reduceEqDiff, resL, resV, oneOrTup, Int.reduceEq, Int.reduceLT, Int.reduceLE, Int.reduceNeg, Int.reduceAdd, Int.reduceSub, Int.reduceMul, Int.reduceToNat, Nat.reduceAdd, noUnk, AV.cells, reduceCtorEq, Nat.reduceLeDiff, Cells.get, Cells.getN, Nat.reduceMul, ↓bnd_assoc]) (by simp only [↓sxp, sxq, ↓reduceIte, Nat.reduceBEq, Nat.reduceLT, evP, evX, evR, blkOf, evA, storeA, Nat.reduceEqDiff, resL, resV, oneOrTup, Int.reduceEq, Int.reduceLT, Int.reduceLE, Int.reduceNeg, Int.reduceAdd, Int.reduceSub, Int.reduceMul, Int.reduceToNat, Nat.reduceAdd, noUnk, AV.cells, reduceCtorEq, Nat.reduceLeDiff, Cells.get, Cells.getN, Nat.reduceMul, ↓bnd_assoc]; rfl) (q11.ord [2, 0, 2])) fun lv A' H8 ⟨hlv, b2, b3, b4, b7, q12⟩ => ?_
      subst hlv
      obtain ⟨al, cl, ab, cb', e1, e2, ho, hq, hl', hbb⟩ := refI_facts (q12.ord [1])
      have gw8 := (q12.ord [2]).get
      simp only [b3, b4, ↓gw8, ↓hq, hvl, ↓sxp, sxq, ↓reduceIte, Nat.reduceBEq, Nat.reduceLT, evP, evX, evR, blkOf, evA, storeA, Nat.reduceEqDiff, resL, resV, oneOrTup, Int.reduceEq, Int.reduceLT, Int.reduceLE, Int.reduceNeg, Int.reduceAdd, Int.reduceSub, Int.reduceMul, Int.reduceToNat, Nat.reduceAdd, noUnk, AV.cells, reduceCtorEq, Nat.reduceLeDiff, Cells.get, Cells.getN, Nat.reduceMul, ↓bnd_assoc]
      refine Fin.call (s_get hE q12 S.L.length) fun H9 q13 => ?_
      have hno : hasM S.L (S.L.length : Int) 0 = false := by simp [hasM]
      have hgm : getM S (S.L.length : Int) = (0, 0, 0) := by simp [getM, hno]
      rw [hno, hgm]
      simp only [c3, ↓sxp, sxq, ↓reduceIte, Nat.reduceBEq, Nat.reduceLT, evP, evX, evR, blkOf, evA, storeA, Nat.reduceEqDiff, resL, resV, oneOrTup, Int.reduceEq, Int.reduceLT, Int.reduceLE, Int.reduceNeg, Int.reduceAdd, Int.reduceSub, Int.reduceMul, Int.reduceToNat, Nat.reduceAdd, noUnk, AV.cells, reduceCtorEq, Nat.reduceLeDiff, Cells.get, Cells.getN, Nat.reduceMul, ↓bnd_assoc]
      refine Fin.write [.int .i64 0, .int .i64 0, .int .i64 0] q13.push rfl (by simp) rfl fun H10 q14 => ?_
      obtain ⟨al, cl, ab, cb', e1, e2, ho, hq, hl', hbb⟩ := refI_facts (q14.ord [2])
      have gw10 := (q14.ord [3]).get
      have gn10 := (q14.ord [6]).get
      simp only [b3, b4, b7, ↓gw10, ↓gn10, ↓hq, hvl, ↓sxp, sxq, ↓reduceIte, Nat.reduceBEq, Nat.reduceLT, evP, evX, evR, blkOf, evA, storeA, Nat.reduceEqDiff, resL, resV, oneOrTup, Int.reduceEq, Int.reduceLT, Int.reduceLE, Int.reduceNeg, Int.reduceAdd, Int.reduceSub, Int.reduceMul, Int.reduceToNat, Nat.reduceAdd, noUnk, AV.cells, reduceCtorEq, Nat.reduceLeDiff, Cells.get, Cells.getN, Nat.reduceMul, ↓bnd_assoc]
      refine Fin.call (s_size hE ((q14.bump 17).ord [1]) (-1) (by omega) hi.wf) fun H11 q15 => ?_
      have hsz : sizeM S.L (-1) = 0 := by simp [sizeM, hasM]
      rw [hsz]
      simp only [b2, ↓sxp, sxq, ↓reduceIte, Nat.reduceBEq, Nat.reduceLT, evP, evX, evR, blkOf, evA, storeA, Nat.reduceEqDiff, resL, resV, oneOrTup, Int.reduceEq, Int.reduceLT, Int.reduceLE, Int.reduceNeg, Int.reduceAdd, Int.reduceSub, Int.reduceMul, Int.reduceToNat, Nat.reduceAdd, noUnk, AV.cells, reduceCtorEq, Nat.reduceLeDiff, Cells.get, Cells.getN, Nat.reduceMul, ↓bnd_assoc]
      refine Fin.write [.bool true] (q15.ord [7]) rfl (by simp) rfl fun H12 q16 => ?_
      have gd := (q16.ord [5]).geto
      have gr := (((q16.ord [5]).seto (o' := .deferred false) rfl).ord [1]).get
      simp only [↓finish_one gd, ↓gr, b2, ↓sxp, sxq, ↓reduceIte, Nat.reduceBEq, Nat.reduceLT, evP, evX, evR, blkOf, evA, storeA, Nat.reduceEqDiff, resL, resV, oneOrTup, Int.reduceEq, Int.reduceLT, Int.reduceLE, Int.reduceNeg, Int.reduceAdd, Int.reduceSub, Int.reduceMul, Int.reduceToNat, Nat.reduceAdd, noUnk, AV.cells, reduceCtorEq, Nat.reduceLeDiff, Cells.get, Cells.getN, Nat.reduceMul, ↓bnd_assoc]
      exact Fin.ret rfl
    · intro y d H7 hy q10
      exact absurd (q10.ord [3]).pure.1 id
end
end Go.Proofs.Ytnfehkjkmlbceaa.Sx

/- From the second reading to a row. -/
namespace Go.Proofs.Ytnfehkjkmlbceaa.Sx
open Go.RowKit Go.WideShapes Go.ChangeShapes
section
variable {H : Type} {enc' : TypeId × Value → H} {P : Program}
theorem post_of_below' {f : Func} {s : ChangeSpec} {apart fresh handsOn again : Bool} {W W' : World} {args : Array Value} {v : Value} {ds gs : List (DataW H)} {before pa pv : List MemPlace}
    (hW : DataW.Whole enc' P f.params.toList s.vars apart W args.toList ds gs before)
    (hres : ∀ (b : Nat) (sp : Nat → Bool) (hd : Bool), DataW.TrodAll enc' P W' b sp hd f.resultTypes.toList (v.resultList f.resultTypes.size) (s.fn H (ds ++ gs)).results [])
    (hargs : ∀ sp : Nat → Bool, (∀ p ∈ before, sp p.block = true) → DataW.TrodAll enc' P W' 0 sp true f.params.toList args.toList (s.fn H (ds ++ gs)).args pa)
    (hvars : ∀ sp : Nat → Bool, (∀ p ∈ before, sp p.block = true) → DataW.TrodVars enc' P W' sp s.vars (s.fn H (ds ++ gs)).vars pv)
    (hps : before = pa ++ pv) (hb : Below W.heap.size W W')
    (hok : ∀ (j : Nat) (t : TypeId) (r : Value), f.resultTypes[j]? = some t → (v.resultList f.resultTypes.size)[j]? = some r → Value.okWide P W' .any 0 t r) :
    s.post enc' P f apart fresh handsOn again W args v W' := by
  have hlt : ∀ p ∈ before, p.block < W.heap.size := fun p hp => hW.lt p hp
  have hold : ∀ p ∈ before, (fun b => decide (b < W.heap.size)) p.block = true := fun p hp => by simpa using hlt p hp
  refine ⟨ds, gs, before, [], pa, pv, hW, hres _ _ _, hargs _ hold, hvars _ hold, World.keptBut_mono (fun p hp => ⟨hp, ?_⟩) (hb.frame (· ∈ before)), fun _ => ?_⟩
  · rw [hps, List.mem_append] at hp
    exact Or.inr hp
  · obtain ⟨_, _, _, _, _, hz, hn⟩ := hW
    refine ⟨hok, _, _, ([] ++ pa) ++ pv, ⟨[] ++ pa, pv, trodAll_append (hargs _ (fun _ _ => rfl)) (hres _ _ _), hvars _ (fun _ _ => rfl), rfl, ?_, ?_⟩, ?_⟩
    · intro b off hp
      have hin : MemPlace.cell b off ∈ before := by rw [hps]; simpa using hp
      rw [hb.frozen (hlt _ hin)]
      exact hz b off hin
    · intro ha
      have := hn ha
      rw [hps] at this
      simpa using this
    · intro p hp _
      rw [hps]
      simpa using hp

/-- What the second reading answers, the call answers, and leaves all that was there as it was. -/
theorem calls_true {W : World} {E : Env} (hE : EnvOk P W E) {f : FuncId} {avs : List AV} {args : Array Value} (ha : VRL ⟨fun _ => none, fun _ => 0⟩ avs args.toList) (hg : ∃ H', go W E f avs ⟨0, .e, .e⟩ = some (.bool true, H')) :
    Calls P f args W fun e W' => e = .returned (.bool true) ∧ Below W.heap.size W W' := by
  obtain ⟨H', hg⟩ := hg
  intro cs
  obtain ⟨_, h⟩ := go_sound W E hE f avs ⟨0, .e, .e⟩ _ _ hg _ W args (HR.start W) ha
  obtain ⟨μ', w', fr, v', hs, hl, hf, hr, _, hv⟩ := h cs
  cases hv
  exact ⟨.returned (.bool true), w', fr, ⟨rfl, hr.os, hr.tape, hr.output, hr.size, hr.old⟩, hs, hf, hl⟩

theorem args_stay (hl : laidOutB P = true) {W W' : World} (hb : Below W.heap.size W W') : ∀ {ts : List TypeId} {vs : List Value} {ds : List (DataW H)} {ps : List MemPlace}, ts.all (fun t => P.readableRec t && decide (t < P.types.size)) = true → DataW.TrodAll enc' P W 0 (fun _ => true) true ts vs ds ps → (∀ p ∈ ps, p.block < W.heap.size) →
    ∀ sp : Nat → Bool, (∀ p ∈ ps, sp p.block = true) → DataW.TrodAll enc' P W' 0 sp true ts vs ds ps
  | [], [], [], _, _, h, _ => fun _ _ => h
  | [], [], _ :: _, _, _, h, _ => h.elim
  | [], _ :: _, _, _, _, h, _ => h.elim
  | _ :: _, [], _, _, _, h, _ => h.elim
  | _ :: _, _ :: _, [], _, _, h, _ => h.elim
  | t :: ts, v :: vs, d :: ds, ps, ht, ⟨p, q, h1, h2, e⟩, hlt => fun sp hsp => by
    simp only [List.all_cons, Bool.and_eq_true, decide_eq_true_eq] at ht
    exact ⟨p, q, WideElems.Trod_stays hl ht.1.1 ht.1.2 h1 (fun x hx => hb.same (hlt x (by rw [e]; exact List.mem_append_left _ hx))) (fun x hx => hsp x (by rw [e]; exact List.mem_append_left _ hx)),
      args_stay hl hb ht.2 h2 (fun x hx => hlt x (by rw [e]; exact List.mem_append_right _ hx)) sp (fun x hx => hsp x (by rw [e]; exact List.mem_append_right _ hx)), e⟩
theorem trodAll_length {W : World} {base : Nat} {sp : Nat → Bool} {hd : Bool} : ∀ {ts : List TypeId} {vs : List Value} {ds : List (DataW H)} {ps : List MemPlace}, DataW.TrodAll enc' P W base sp hd ts vs ds ps → ds.length = ts.length
  | [], [], [], _, _ => rfl
  | [], [], _ :: _, _, h => h.elim
  | [], _ :: _, _, _, h => h.elim
  | _ :: _, [], _, _, h => h.elim
  | _ :: _, _ :: _, [], _, h => h.elim
  | _ :: _, _ :: _, _ :: _, _, ⟨_, _, _, h2, _⟩ => by simp [trodAll_length h2]
/-- A law whose call, in the second reading, answers true at all that can be read. -/
theorem law_lifted {C : Checked} {os : Os} {f : FuncId} {fn : Func} {s : ChangeSpec} {apart fresh handsOn again : Bool} {tb : TypeId}
    (own : ownKnob C.prog.godebug = none) (started : os.Started) (noInit : C.prog.inits.idxOf? f = none) (hfn : C.prog.funcs[f]? = some fn)
    (witness : ∃ (w : World) (tape : Tape) (i : Input), w.os = os ∧ (w.forCall tape i).Shaped C.prog ∧ i.vars = [] ∧ Input.okWide C.prog (w.forCall tape i) .any w.heap.size f i ∧
      s.pre6 enc' C.prog fn [] apart (w.forCall tape i).memory i.args ∧ ({} : Assume).holds C.prog (lone (Frame.enter C.prog f i.args .normal) [] (w.forCall tape i)))
    (hl : laidOutB C.prog = true) (hts : fn.params.toList.all (fun t => C.prog.readableRec t && decide (t < C.prog.types.size)) = true) (hvars : s.vars = [])
    (hres : fn.resultTypes = #[tb]) (hb : C.prog.underlying tb = some .bool) (hspec : ∀ ds : List (DataW H), ds.length = fn.params.toList.length → s.fn H (ds ++ []) = { results := [.lit (.bool true)], args := ds })
    {E : World → Env} (hE : ∀ W, EnvOk C.prog W (E W))
    (law : ∀ (W : World) (base : Nat) (args : Array Value) (ds : List (DataW H)) (ps : List MemPlace), (∀ (j : Nat) t v, fn.params[j]? = some t → args[j]? = some v → Value.okWide C.prog W .any base t v) → DataW.TrodAll enc' C.prog W 0 (fun _ => true) true fn.params.toList args.toList ds ps →
      ∃ avs, VRL ⟨fun _ => none, fun _ => 0⟩ avs args.toList ∧ ∃ H', go W (E W) f avs ⟨0, .e, .e⟩ = some (.bool true, H')) :
    ReturnsInHanded {} C os f .any (s.pre6 enc' C.prog fn [] apart) (s.post enc' C.prog fn apart fresh handsOn again) := by
  refine returnsInHanded_of_change own started noInit hfn witness ?_
  intro W base args ds gs before hval hW _ _
  have hW' := hW
  obtain ⟨p, q, hA, hV, rfl, hfz, hnd⟩ := hW
  rw [hvars] at hV
  obtain ⟨rfl, rfl⟩ := trodVars_none hV
  obtain ⟨avs, h1, h2⟩ := law W base args ds p hval hA
  refine (calls_true (hE W) h1 h2).mono fun e W' ⟨he, hbel⟩ => ?_
  subst he
  have hs := hspec ds (trodAll_length hA)
  refine ⟨_, rfl, post_of_below' (pa := p) (pv := []) hW' (fun _ _ _ => ?_) (fun sp hsp => ?_) (fun sp _ => ?_) rfl hbel ?_⟩
  · rw [hs, hres]
    exact trodAll_mk1 (shut_bool hb true)
  · rw [hs]
    have hlt : ∀ x ∈ p, x.block < W.heap.size := fun x hx => hW'.lt x (by simpa using hx)
    exact args_stay hl hbel hts hA hlt sp (fun x hx => hsp x (by simpa using hx))
  · rw [hs, hvars]; rfl
  · exact ok_one hres rfl (by simp [Value.okWide, hb, Cell.okWide, Cell.ok])
end
section
variable {P : Program} {W : World} {H : Type} {enc' : TypeId × Value → H} {sp : Nat → Bool} {hd : Bool}
theorem getN_of {l : List AV} : ∀ (n off : Nat) (cs : List AV), cs.length = n → (∀ i, i < n → l[off + i]? = cs[i]?) → Cells.getN (.lst l) off n = some cs := by
  intro n
  induction n with
  | zero => intro off cs hc _; rw [List.eq_nil_of_length_eq_zero hc]; rfl
  | succ n ih =>
    intro off cs hc h
    cases cs with
    | nil => simp at hc
    | cons c cs =>
      have h0 := h 0 (by omega)
      simp only [Nat.add_zero, List.getElem?_cons_zero] at h0
      simp only [Cells.getN, Cells.get, h0]
      rw [ih (off + 1) cs (by simpa using hc) (fun i hi => by have := h (i + 1) (by omega); rw [show off + 1 + i = off + (i + 1) from by omega, this]; simp)]
theorem cells_old {a : Addr} {n base : Nat} {cs : List Value} (h : W.cells? base a n = some cs) (hn : 0 < n) : a.spot = none ∧ ∃ c, (∀ H, blkOf W H (.old a.block) = some c) ∧ c.getN a.off n = some (cs.map enc) := by
  obtain ⟨_, hlen, hc⟩ := World.cells?_some h
  have h0 := hc 0 hn
  have e0 : a.add 0 = a := by unfold Addr.add; cases a; simp
  rw [e0, List.getElem?_eq_getElem (by omega)] at h0
  have hsp := World.cell?_spot h0
  refine ⟨hsp, ?_⟩
  unfold World.cell? at h0
  cases hb : W.heap[a.block]? with
  | none => rw [hb] at h0; cases h0
  | some o =>
    cases o with
    | cells c t fz =>
      refine ⟨.lst (c.toList.map enc), fun H => by simp only [blkOf, hb], getN_of n a.off _ (by simpa using hlen) (fun i hi => ?_)⟩
      have hi' := hc i hi
      have hai : (a.add i).block = a.block ∧ (a.add i).off = a.off + i ∧ (a.add i).spot = none := by
        unfold Addr.add
        split
        · rename_i e; subst e; exact ⟨rfl, rfl, hsp⟩
        · simp_all
      unfold World.cell? at hi'
      rw [hai.1, hb, hai.2.1, hai.2.2] at hi'
      simp only [Option.isSome_none, Bool.false_eq_true, if_false] at hi'
      rw [List.getElem?_map, List.getElem?_map, ← hi']
      simp
    | _ => rw [hb] at h0; cases h0
end
end Go.Proofs.Ytnfehkjkmlbceaa.Sx

/- What is read of the arguments. -/
namespace Go.Proofs.Ytnfehkjkmlbceaa.Sx
section
variable {P : Program} {W : World} {H : Type} {enc' : TypeId × Value → H} {hd : Bool}
theorem bytes_in {e : TypeId} (he : P.underlying e = some (.int .u8)) {n : Nat} {cs : List Value} {x : DataW H × List MemPlace} (h : DataW.trod enc' P W 0 (fun _ => true) hd n e cs = some x) : ∃ b : UInt8, cs = [.int .u8 b.toNat] := by
  obtain ⟨k, rfl, _, hw⟩ := DataW.trod_int he h
  have hk : 0 ≤ k ∧ k ≤ 255 := by simpa [Lit.wf, IntKind.min, IntKind.max, IntKind.signed, IntKind.bits] using hw
  refine ⟨UInt8.ofNat k.toNat, ?_⟩
  have : ((UInt8.ofNat k.toNat).toNat : Int) = k := by
    rw [UInt8.toNat_ofNat']; omega
  rw [this]
/-- A list of bytes that can be read. -/
theorem by_old {t e : TypeId} (ht : P.underlying t = some (.slice e)) (he : P.underlying e = some (.int .u8)) (hc : P.cellsOf e = 1) {n : Nat} {cs : List Value} {x : DataW H × List MemPlace} (h : DataW.trod enc' P W 0 (fun _ => true) hd n t cs = some x) :
    ∃ v bs, cs = [v] ∧ OldBy W bs (enc v) ∧ bs.length ≤ maxLen := by
  rcases DataW.trod_slice ht h with ⟨rfl, rfl⟩ | ⟨a, len, cap, elems, rest, m, rfl, rfl, rfl, _, hlc, hm, hlen, hel, hsp, _⟩
  · exact ⟨_, [], rfl, fun H => .nil rfl, by simp⟩
  · obtain ⟨hrl, hre⟩ := hsp rfl
    by_cases h0 : cap = 0
    · subst h0
      have : len = 0 := by omega
      subst this
      exact ⟨_, [], rfl, fun H => by show By W H [] (enc (.slice (some a) 0 0)) []; exact .emp rfl, by simp⟩
    · have cell : ∀ i, i < cap → ∃ b : UInt8, W.cell? (a.add i) = some (.int .u8 b.toNat) := fun i hi => by
        have : ∃ cs' y, W.cells? 0 (a.add (i * P.cellsOf e)) (P.cellsOf e) = some cs' ∧ DataW.trod enc' P W 0 (fun _ => true) hd m e cs' = some y := by
          by_cases hil : i < len
          · have := hel i hil
            rw [List.getElem?_eq_getElem (by omega), Option.bind_eq_some_iff] at this
            obtain ⟨cs', h1, h2⟩ := this
            exact ⟨cs', _, h1, h2⟩
          · have := hre (i - len) (by omega)
            rw [List.getElem?_eq_getElem (by omega), Option.bind_eq_some_iff, show len + (i - len) = i from by omega] at this
            obtain ⟨cs', h1, h2⟩ := this
            exact ⟨cs', _, h1, h2⟩
        obtain ⟨cs', y, h1, h2⟩ := this
        obtain ⟨b, rfl⟩ := bytes_in he h2
        rw [hc, Nat.mul_one] at h1
        exact ⟨b, ChangeShapes.cell_of_cells?_one h1⟩
      obtain ⟨B, hB⟩ := Deep.choose_lt (α := UInt8) (p := fun i (b : UInt8) => W.cell? (a.add i) = some (.int .u8 b.toNat)) (n := cap) cell
      have hcl := cell 0 (by omega)
      obtain ⟨b0, hb0⟩ := hcl
      have e0 : a.add 0 = a := by unfold Addr.add; cases a; simp
      rw [e0] at hb0
      have hspot := World.cell?_spot hb0
      have hall : W.cells? 0 a cap = some ((List.range cap).map fun i => .int .u8 (B i).toNat) := by
        unfold World.cells?
        rw [if_pos (Nat.zero_le _)]
        exact ChangeShapes.mapM_range_of cap fun i hi => hB i hi
      obtain ⟨_, c, hblk, hg⟩ := cells_old hall (by omega)
      refine ⟨_, (List.range len).map B, rfl, fun H => ?_, by simp; omega⟩
      have henc : enc (.slice (some a) len cap) = .sl (some ⟨.old a.block, a.off⟩) len (.exact cap) := by
        obtain ⟨ab, ao, asp⟩ := a
        simp only at hspot
        subst hspot
        cases cap with
        | zero => exact absurd rfl h0
        | succ c => cases len <;> rfl
      rw [henc]
      have hg2 : c.getN a.off len = some (cb ((List.range len).map B)) := by
        have key : ∀ (k j : Nat) (l : List AV), c.getN j (k + 0) = c.getN j k := fun _ _ _ => rfl
        have hget := (Cells.getN_get hg).2
        have : ∀ (k o : Nat) (l : List AV), l.length = k → (∀ i, i < k → c.get (o + i) = l[i]?) → c.getN o k = some l := by
          intro k
          induction k with
          | zero => intro o l hl _; rw [List.eq_nil_of_length_eq_zero hl]; rfl
          | succ k ih =>
            intro o l hl h
            cases l with
            | nil => simp at hl
            | cons y l =>
              have h0 := h 0 (by omega)
              simp only [Nat.add_zero, List.getElem?_cons_zero] at h0
              simp only [Cells.getN, h0]
              rw [ih (o + 1) l (by simpa using hl) (fun i hi => by have := h (i + 1) (by omega); rw [show o + 1 + i = o + (i + 1) from by omega, this]; simp)]
        refine this len a.off _ (by simp [cb]) (fun i hi => ?_)
        rw [hget i (by omega)]
        simp only [cb, List.getElem?_map, List.getElem?_range hi, List.getElem?_range (show i < cap by omega), Option.map_some, enc]
      have hlen' : ((List.range len).map B).length = len := by simp
      have := By.old (W := W) (H := H) (bs := (List.range len).map B) a.block a.off (.exact cap) c (hblk H) (by rw [hlen']; exact hg2)
      rw [hlen'] at this
      exact this
end
end Go.Proofs.Ytnfehkjkmlbceaa.Sx

/- The seat's functions are what they were compiled to. -/
namespace Go.Proofs.Ytnfehkjkmlbceaa.Sx
open Go.Proofs
theorem hc3 : compFn Try.prog 3 = some sf3 := by kernel_rfl
theorem hc4 : compFn Try.prog 4 = some sf4 := by kernel_rfl
theorem hc5 : compFn Try.prog 5 = some sf5 := by kernel_rfl
theorem hc6 : compFn Try.prog 6 = some sf6 := by kernel_rfl
theorem hc7 : compFn Try.prog 7 = some sf7 := by kernel_rfl
theorem hc8 : compFn Try.prog 8 = some sf8 := by kernel_rfl
theorem hc9 : compFn Try.prog 9 = some sf9 := by kernel_rfl
theorem hc10 : compFn Try.prog 10 = some sf10 := by kernel_rfl
theorem hc11 : compFn Try.prog 11 = some sf11 := by kernel_rfl
theorem hc12 : compFn Try.prog 12 = some sf12 := by kernel_rfl
theorem hc13 : compFn Try.prog 13 = some sf13 := by kernel_rfl
theorem hc14 : compFn Try.prog 14 = some sf14 := by kernel_rfl
theorem hc15 : compFn Try.prog 15 = some sf15 := by kernel_rfl
theorem hc16 : compFn Try.prog 16 = some sf16 := by kernel_rfl
theorem hc17 : compFn Try.prog 17 = some sf17 := by kernel_rfl
theorem hc18 : compFn Try.prog 18 = some sf18 := by kernel_rfl
theorem hc19 : compFn Try.prog 19 = some sf19 := by kernel_rfl
theorem hc20 : compFn Try.prog 20 = some sf20 := by kernel_rfl
theorem hc21 : compFn Try.prog 21 = some sf21 := by kernel_rfl
theorem hc22 : compFn Try.prog 22 = some sf22 := by kernel_rfl
theorem hc23 : compFn Try.prog 23 = some sf23 := by kernel_rfl
theorem hc24 : compFn Try.prog 24 = some sf24 := by kernel_rfl
theorem hc25 : compFn Try.prog 25 = some sf25 := by kernel_rfl
theorem hc26 : compFn Try.prog 26 = some sf26 := by kernel_rfl
theorem hc27 : compFn Try.prog 27 = some sf27 := by kernel_rfl
theorem hc28 : compFn Try.prog 28 = some sf28 := by kernel_rfl
theorem hc29 : compFn Try.prog 29 = some sf29 := by kernel_rfl
theorem hc30 : compFn Try.prog 30 = some sf30 := by kernel_rfl
theorem hc31 : compFn Try.prog 31 = some sf31 := by kernel_rfl
theorem hc32 : compFn Try.prog 32 = some sf32 := by kernel_rfl
theorem hc33 : compFn Try.prog 33 = some sf33 := by kernel_rfl
theorem hc34 : compFn Try.prog 34 = some sf34 := by kernel_rfl
theorem hc35 : compFn Try.prog 35 = some sf35 := by kernel_rfl
theorem hc36 : compFn Try.prog 36 = some sf36 := by kernel_rfl
theorem hc37 : compFn Try.prog 37 = some sf37 := by kernel_rfl
theorem hc38 : compFn Try.prog 38 = some sf38 := by kernel_rfl
theorem hc39 : compFn Try.prog 39 = some sf39 := by kernel_rfl
theorem hc40 : compFn Try.prog 40 = some sf40 := by kernel_rfl
theorem hc41 : compFn Try.prog 41 = some sf41 := by kernel_rfl
theorem hc42 : compFn Try.prog 42 = some sf42 := by kernel_rfl
theorem hc43 : compFn Try.prog 43 = some sf43 := by kernel_rfl
theorem hc44 : compFn Try.prog 44 = some sf44 := by kernel_rfl
theorem hc45 : compFn Try.prog 45 = some sf45 := by kernel_rfl
theorem hc46 : compFn Try.prog 46 = some sf46 := by kernel_rfl
theorem hc47 : compFn Try.prog 47 = some sf47 := by kernel_rfl
theorem hc48 : compFn Try.prog 48 = some sf48 := by kernel_rfl
theorem hc49 : compFn Try.prog 49 = some sf49 := by kernel_rfl
theorem hc50 : compFn Try.prog 50 = some sf50 := by kernel_rfl
theorem hc51 : compFn Try.prog 51 = some sf51 := by kernel_rfl
def envF : Env := fun f => match f with
  | 3 => some (.code sf3)
  | 4 => some (.code sf4)
  | 5 => some (.code sf5)
  | 6 => some (.code sf6)
  | 7 => some (.code sf7)
  | 8 => some (.code sf8)
  | 9 => some (.code sf9)
  | 10 => some (.code sf10)
  | 11 => some (.code sf11)
  | 12 => some (.code sf12)
  | 13 => some (.code sf13)
  | 14 => some (.code sf14)
  | 15 => some (.code sf15)
  | 16 => some (.code sf16)
  | 17 => some (.code sf17)
  | 18 => some (.code sf18)
  | 19 => some (.code sf19)
  | 20 => some (.code sf20)
  | 21 => some (.code sf21)
  | 22 => some (.code sf22)
  | 23 => some (.code sf23)
  | 24 => some (.code sf24)
  | 25 => some (.code sf25)
  | 26 => some (.code sf26)
  | 27 => some (.code sf27)
  | 28 => some (.code sf28)
  | 29 => some (.code sf29)
  | 30 => some (.code sf30)
  | 31 => some (.code sf31)
  | 32 => some (.code sf32)
  | 33 => some (.code sf33)
  | 34 => some (.code sf34)
  | 35 => some (.code sf35)
  | 36 => some (.code sf36)
  | 37 => some (.code sf37)
  | 38 => some (.code sf38)
  | 39 => some (.code sf39)
  | 40 => some (.code sf40)
  | 41 => some (.code sf41)
  | 42 => some (.code sf42)
  | 43 => some (.code sf43)
  | 44 => some (.code sf44)
  | 45 => some (.code sf45)
  | 46 => some (.code sf46)
  | 47 => some (.code sf47)
  | 48 => some (.code sf48)
  | 49 => some (.code sf49)
  | 50 => some (.code sf50)
  | 51 => some (.code sf51)
  | _ => none
theorem envF_ok (W : World) : EnvOk Try.prog W envF := by
  intro f e h
  unfold envF at h
  split at h
  · cases h; exact hc3
  · cases h; exact hc4
  · cases h; exact hc5
  · cases h; exact hc6
  · cases h; exact hc7
  · cases h; exact hc8
  · cases h; exact hc9
  · cases h; exact hc10
  · cases h; exact hc11
  · cases h; exact hc12
  · cases h; exact hc13
  · cases h; exact hc14
  · cases h; exact hc15
  · cases h; exact hc16
  · cases h; exact hc17
  · cases h; exact hc18
  · cases h; exact hc19
  · cases h; exact hc20
  · cases h; exact hc21
  · cases h; exact hc22
  · cases h; exact hc23
  · cases h; exact hc24
  · cases h; exact hc25
  · cases h; exact hc26
  · cases h; exact hc27
  · cases h; exact hc28
  · cases h; exact hc29
  · cases h; exact hc30
  · cases h; exact hc31
  · cases h; exact hc32
  · cases h; exact hc33
  · cases h; exact hc34
  · cases h; exact hc35
  · cases h; exact hc36
  · cases h; exact hc37
  · cases h; exact hc38
  · cases h; exact hc39
  · cases h; exact hc40
  · cases h; exact hc41
  · cases h; exact hc42
  · cases h; exact hc43
  · cases h; exact hc44
  · cases h; exact hc45
  · cases h; exact hc46
  · cases h; exact hc47
  · cases h; exact hc48
  · cases h; exact hc49
  · cases h; exact hc50
  · cases h; exact hc51
  · cases h
end Go.Proofs.Ytnfehkjkmlbceaa.Sx

/- TermPuts: the row. -/
namespace Go.Proofs.Ytnfehkjkmlbceaa.Sx
open Go.Proofs
section
variable {W : World} {H : Type} {enc' : TypeId × Value → H} {hd : Bool}
theorem cells36 : Try.prog.cellsOf 36 = 6 := by kernel_rfl
theorem cells33 : Try.prog.cellsOf 33 = 3 := by kernel_rfl
theorem cells34 : Try.prog.cellsOf 34 = 1 := by kernel_rfl
theorem cells3 : Try.prog.cellsOf 3 = 1 := by kernel_rfl
theorem cells5 : Try.prog.cellsOf 5 = 1 := by kernel_rfl
theorem do_in {n : Nat} {cs : List Value} {x : DataW H × List MemPlace} (h : DataW.trod enc' Try.prog W 0 (fun _ => true) hd n 36 cs = some x) : ∃ (d : Do1) (w : AV), cs.map enc = doC d w ∧ OldBy W d.b w := by
  obtain ⟨xs, m, rfl, _, hl, hxl, hf⟩ := DataW.trod_struct Try.underlying36 h
  rw [cells36] at hl
  match cs, hl with
  | [c0, c1, c2, c3, c4, c5], _ =>
    have hx : xs.length = 4 := hxl
    match xs, hx with
    | [x0, x1, x2, x3], _ =>
      have f0 : DataW.trod enc' Try.prog W 0 (fun _ => true) hd m 3 (List.take (Try.prog.cellsOf 3) (List.drop 0 [c0, c1, c2, c3, c4, c5])) = some x0 := hf 0 _ rfl
      rw [cells3] at f0
      have f1 : DataW.trod enc' Try.prog W 0 (fun _ => true) hd m 3 (List.take (Try.prog.cellsOf 3) (List.drop 1 [c0, c1, c2, c3, c4, c5])) = some x1 := hf 1 _ rfl
      rw [cells3] at f1
      have f2 : DataW.trod enc' Try.prog W 0 (fun _ => true) hd m 33 (List.take (Try.prog.cellsOf 33) (List.drop 2 [c0, c1, c2, c3, c4, c5])) = some x2 := hf 2 _ rfl
      rw [cells33] at f2
      have f3 : DataW.trod enc' Try.prog W 0 (fun _ => true) hd m 34 (List.take (Try.prog.cellsOf 34) (List.drop 5 [c0, c1, c2, c3, c4, c5])) = some x3 := hf 3 _ rfl
      rw [cells34] at f3
      simp only [List.drop_zero, List.drop_succ_cons, List.take_succ_cons, List.take_zero] at f0 f1 f2 f3
      obtain ⟨k, e0, _, _⟩ := DataW.trod_int Try.underlying3 f0
      obtain ⟨n', e1, _, _⟩ := DataW.trod_int Try.underlying3 f1
      obtain ⟨ys, m2, _, _, _, hyl, hg⟩ := DataW.trod_struct Try.underlying33 f2
      have hy : ys.length = 3 := hyl
      match ys, hy with
      | [y0, y1, y2], _ =>
        have g0 : DataW.trod enc' Try.prog W 0 (fun _ => true) hd m2 3 (List.take (Try.prog.cellsOf 3) (List.drop 0 [c2, c3, c4])) = some y0 := hg 0 _ rfl
        rw [cells3] at g0
        have g1 : DataW.trod enc' Try.prog W 0 (fun _ => true) hd m2 3 (List.take (Try.prog.cellsOf 3) (List.drop 1 [c2, c3, c4])) = some y1 := hg 1 _ rfl
        rw [cells3] at g1
        have g2 : DataW.trod enc' Try.prog W 0 (fun _ => true) hd m2 3 (List.take (Try.prog.cellsOf 3) (List.drop 2 [c2, c3, c4])) = some y2 := hg 2 _ rfl
        rw [cells3] at g2
        simp only [List.drop_zero, List.drop_succ_cons, List.take_succ_cons, List.take_zero] at g0 g1 g2
        obtain ⟨t1, e2, _, _⟩ := DataW.trod_int Try.underlying3 g0
        obtain ⟨t2, e3, _, _⟩ := DataW.trod_int Try.underlying3 g1
        obtain ⟨t3, e4, _, _⟩ := DataW.trod_int Try.underlying3 g2
        obtain ⟨v, bs, e5, hv, _⟩ := by_old Try.underlying34 Try.underlying5 cells5 f3
        simp only [List.cons.injEq, and_true] at e0 e1 e2 e3 e4 e5
        subst e0 e1 e2 e3 e4 e5
        exact ⟨⟨k, n', (t1, t2, t3), bs⟩, enc c5, rfl, hv⟩
theorem dos_in {base : Nat} {v : Value} {d : DataW H} {ps : List MemPlace} (hv : Value.okWide Try.prog W .any base 22 v) (h : DataW.Trod enc' Try.prog W 0 (fun _ => true) hd 22 v d ps) : ∃ av ds, VR ⟨fun _ => none, fun _ => 0⟩ av v ∧ Dos W ds av := by
  obtain ⟨a0, len0, cap0, rfl⟩ := WideShapes.okWide_slice Try.underlying22 hv
  obtain ⟨n, h⟩ := h
  rcases DataW.trod_slice Try.underlying22 h with ⟨hc, _⟩ | ⟨a, len, cap, elems, rest, m, _, hc, _, _, hlc, hm, hlen, hel, _, _⟩
  · simp only [Value.cells, List.cons.injEq, Value.slice.injEq, and_true] at hc
    obtain ⟨rfl, rfl, rfl⟩ := hc
    exact ⟨.sl none 0 (.exact 0), [], .slN 0 0, by simp, rfl, fun i hi => by simp at hi⟩
  · simp only [Value.cells, List.cons.injEq, Value.slice.injEq, and_true] at hc
    obtain ⟨rfl, rfl, rfl⟩ := hc
    rw [cells36] at hel
    by_cases h0 : len0 = 0
    · subst h0
      exact ⟨.emp, [], .emp a cap0, by simp, rfl, fun i hi => by simp at hi⟩
    · have each : ∀ i, i < len0 → ∃ (dw : Do1 × AV), ∃ cs', W.cells? 0 (a.add (i * 6)) 6 = some cs' ∧ cs'.map enc = doC dw.1 dw.2 ∧ OldBy W dw.1.b dw.2 := fun i hi => by
        have := hel i hi
        rw [List.getElem?_eq_getElem (by omega), Option.bind_eq_some_iff] at this
        obtain ⟨cs', h1, h2⟩ := this
        obtain ⟨d, w, h3, h4⟩ := do_in h2
        exact ⟨(d, w), cs', h1, h3, h4⟩
      haveI : Inhabited (Do1 × AV) := ⟨(⟨0, 0, (0, 0, 0), []⟩, .unk)⟩
      obtain ⟨F, hF⟩ := Deep.choose_lt each
      obtain ⟨cs0, hc0, _, _⟩ := hF 0 (by omega)
      rw [Nat.zero_mul] at hc0
      obtain ⟨hsp, _⟩ := cells_old hc0 (by omega)
      have e0 : a.add 0 = a := by unfold Addr.add; cases a; simp
      rw [e0] at hsp
      obtain ⟨ab, ao, asp⟩ := a
      simp only at hsp
      subst hsp
      refine ⟨.sl (some ⟨.old ab, ao⟩) len0 (.exact cap0), (List.range len0).map fun i => (F i).1, .sl ⟨rfl, rfl, rfl⟩ rfl, ?_, ?_, fun i hi => ?_⟩
      · have : maxLen ≤ 9223372036854775807 := by decide
        simp; omega
      · simp [lenV]
      · have hi' : i < len0 := by simpa using hi
        obtain ⟨cs', h1, h2, h3⟩ := hF i hi'
        obtain ⟨hsp', c, hb, hg⟩ := cells_old h1 (by omega)
        have hoff : ((⟨ab, ao, none⟩ : Addr).add (i * 6)).off = ao + i * 6 ∧ ((⟨ab, ao, none⟩ : Addr).add (i * 6)).block = ab := by
          unfold Addr.add; split
          · rename_i e; rw [e]; exact ⟨rfl, rfl⟩
          · exact ⟨rfl, rfl⟩
        rw [hoff.1, h2] at hg
        rw [hoff.2] at hb
        have hir : (0 : Int) ≤ i ∧ (i : Int) < len0 := by omega
        have hgi : ((List.range len0).map fun i => (F i).1)[i] = (F i).1 := by simp
        rw [hgi]
        refine ⟨.ptr (some ⟨.old ab, ao + i * 6⟩), (F i).2, ?_, fun H => ?_, h3⟩
        · simp only [iaddrV, Int.toNat_natCast]
          rw [if_pos hir]
        · simp only [loadV, hb, hg]; rfl
end
open Go.RowKit Go.WideShapes Go.ChangeShapes
theorem Try.own' : ownKnob Try.prog.godebug = none := by kernel_rfl
theorem Try.laidOut' : laidOutB Try.prog = true := by kernel_rfl
theorem envT : EnvT envF := by constructor <;> rfl
set_option maxRecDepth 100000 in
theorem termPuts_lifted (os : Os) (started : os.Started) (H : Type) (enc' : TypeId × Value → H) :
    ReturnsInHanded {} Try.checked os 3 .any (Go.Proofs.Ytnfehkjkmlbceaa.Rows.termPutsSpec.pre6 enc' Try.prog Try.f3 Go.Proofs.Ytnfehkjkmlbceaa.Rows.termPutsRow.domain false) (Go.Proofs.Ytnfehkjkmlbceaa.Rows.termPutsSpec.post enc' Try.prog Try.f3 false true false false) := by
  refine law_lifted (C := Try.checked) Try.own' started (by kernel_rfl) Try.func3
    (ChangeSpec.witness6 (enc := enc') (C := Try.checked) false ⟨#[], #[.slice none 0 0], []⟩ 8 (by kernel_rfl) (by kernel_rfl) (by kernel_rfl) (by kernel_rfl))
    Try.laidOut' (by kernel_rfl) rfl rfl Try.underlying4 (fun ds hd => ?_) (E := fun _ => envF) envF_ok (fun W base args ds ps hval hA => ?_)
  · match ds, hd with
    | [d], _ => rfl
  · have hA' : DataW.TrodAll enc' Try.prog W 0 (fun _ => true) true [22] args.toList ds ps := hA
    obtain ⟨v0, d0, hv0, rfl, h0⟩ := trodAll_one hA'
    have hv : Value.okWide Try.prog W .any base 22 v0 := hval 0 22 v0 rfl (by rw [← Array.getElem?_toList, hv0]; rfl)
    obtain ⟨av, dd, h1, h2⟩ := dos_in hv h0
    refine ⟨[av], ?_, law_puts envT rfl h2⟩
    rw [hv0]
    exact .cons h1 .nil
theorem termPuts_holds : Go.Proofs.Ytnfehkjkmlbceaa.Rows.TermPutsSaid :=
  OpenClaim.holds_of_wide 3 Try.f3 rfl rfl rfl rfl rfl rfl rfl ⟨rfl, rfl, rfl, rfl, rfl⟩ rfl rfl rfl rfl rfl (by kernel_rfl) Try.func3 (by kernel_rfl)
    (of_decide_eq_true (by kernel_rfl)) (by unfold Func.isWrapper; first | (rw [if_pos (by decide +kernel)]; kernel_rfl) | (rw [if_neg (by decide +kernel)]; exact ⟨rfl, rfl⟩))
    (fun os started H enc _ => termPuts_lifted os started H enc)
end Go.Proofs.Ytnfehkjkmlbceaa.Sx

namespace Go.Proofs.Ytnfehkjkmlbceaa
theorem termPuts_holds : Rows.TermPutsSaid := Sx.termPuts_holds
end Go.Proofs.Ytnfehkjkmlbceaa
