/- The statement Rows.DeduceMoreSaid: proved by a second, deterministic reading of the program that is sound for every order of evaluation and every capacity; no condition beyond the given row. -/
import Derived.Test.YtnfehkjkmlbceaaTwF
import Derived.Test.YtnfehkjkmlbceaaTwE
/- DeduceFrom. -/
namespace Go.Proofs.Ytnfehkjkmlbceaa.Sx
open HP
section
variable {W : World} {E : Env} {H : Heap} {Γ : List HP}
theorem hasK_at {hs : List Bool} {i : Nat} (h : i < hs.length) : hasK hs (i : Int) = hs[i] := by
  simp [hasK, h, List.getD_eq_getElem?_getD]
end
end Go.Proofs.Ytnfehkjkmlbceaa.Sx

/- DeduceFrom, whole. -/
namespace Go.Proofs.Ytnfehkjkmlbceaa.Sx
open HP
section
variable {W : World} {E : Env} {H : Heap} {Γ : List HP}
theorem Holds.fresh {A : HP} (h : Holds H Γ) (ha : A.P H []) : Holds H (A :: Γ) := by
  obtain ⟨fp, hp⟩ := h.a
  exact ⟨h.wf, fp, [], fp, ha, hp, by simp, by simp⟩
end
end Go.Proofs.Ytnfehkjkmlbceaa.Sx

/- DeduceOpens, whole. -/
namespace Go.Proofs.Ytnfehkjkmlbceaa.Sx
open HP
section
variable {W : World} {E : Env} {H : Heap} {Γ : List HP}
theorem hasK_of {hs : List Bool} {w : Int} (h0 : 0 ≤ w) (h1 : w < hs.length) (h : hs.getD w.toNat false = true) : hasK hs w = true := by
  simp only [hasK, h, decide_eq_true h0, decide_eq_true h1]; rfl
theorem getM_at {S : MS} {i : Nat} {x : T3} (h : S.L[i]? = some x) : getM S (i : Int) = x := getM_in h
theorem opens_4 {L : List T3} (hw : WFL L) {n : Nat} {u w key : Int} {y : T3} (hx : L[n]? = some (4, u, w)) (hy : L[u.toNat]? = some y) (hk : key = y.2.1) {hs : List Bool} (hc : Clo L (inG [(n : Int), key]) hs) : hasK hs w = true := by
  have hn := (List.getElem?_eq_some_iff.1 hx).1
  obtain ⟨_, w2⟩ := hw n _ hx
  have hw0 := w2 (.inl rfl)
  simp only at hw0
  have e1 := hc.ge n ⟨n, by simp, by simp⟩
  have e2 := mkZ_has hc.len _ (hc.ge key.toNat ⟨key, by simp, rfl⟩)
  have hop : opM L (mkZ L hs) n = (w, true) := by
    unfold opM
    simp only [List.getD_eq_getElem?_getD, hx, Option.getD_some, if_true, hy]
    rw [hk, List.getD_eq_getElem?_getD] at e2
    rw [e2]
  have e3 := hc.cl n hn e1 (by rw [hop])
  rw [hop] at e3
  exact hasK_of hw0.1 (by rw [hc.len]; omega) e3
theorem opens_5 {L : List T3} (hw : WFL L) {n : Nat} {u w : Int} (hx : L[n]? = some (5, u, w)) {hs : List Bool} (hc : Clo L (inG [(n : Int), u]) hs) : hasK hs w = true := by
  have hn := (List.getElem?_eq_some_iff.1 hx).1
  obtain ⟨_, w2⟩ := hw n _ hx
  have hw0 := w2 (.inr (.inl rfl))
  simp only at hw0
  have e1 := hc.ge n ⟨n, by simp, by simp⟩
  have e2 := mkZ_has hc.len _ (hc.ge u.toNat ⟨u, by simp, rfl⟩)
  have hop : opM L (mkZ L hs) n = (w, true) := by
    unfold opM
    rw [List.getD_eq_getElem?_getD] at e2
    simp only [List.getD_eq_getElem?_getD, hx, Option.getD_some, if_true, e2]
    rfl
  have e3 := hc.cl n hn e1 (by rw [hop])
  rw [hop] at e3
  exact hasK_of hw0.1 (by rw [hc.len]; omega) e3
theorem law_opens (hE : EnvK E) (h7 : E 7 = some (.code sf7)) {ds : List Do1} {v : AV} (hv : Dos W ds v) (n : Int) : ∃ H', go W E 7 [v, .int .i64 n] ⟨0, .e, .e⟩ = some (.bool true, H') := by
  suffices Fin (fun r => r.1 = .bool true) (go W E 7 [v, .int .i64 n] ⟨0, .e, .e⟩) by
    obtain ⟨⟨r, H'⟩, e, hr⟩ := this
    simp only at hr
    subst hr
    exact ⟨H', e⟩
  rw [go_code h7 (by simp [sf7])]
  simp only [sf7, ↓sxp, sxq, ↓reduceIte, Nat.reduceBEq, Nat.reduceLT, evP, evX, evR, blkOf, evA, storeA, Nat.reduceEqDiff, resL, resV, oneOrTup, Int.reduceEq, Int.reduceLT, Int.reduceLE, Int.reduceNeg, Int.reduceAdd, Int.reduceSub, Int.reduceMul, Int.reduceToNat, Nat.reduceAdd, noUnk, AV.cells, reduceCtorEq, Nat.reduceLeDiff, Cells.get, Cells.getN, Nat.reduceMul, ↓bnd_assoc]
  refine Fin.call (l_awake15 hE (Holds.nil HWf.empty)) fun H1 q1 => ?_
  simp only [↓sxp, sxq, ↓reduceIte, Nat.reduceBEq, Nat.reduceLT, evP, evX, evR, blkOf, evA, storeA, Nat.reduceEqDiff, resL, resV, oneOrTup, Int.reduceEq, Int.reduceLT, Int.reduceLE, Int.reduceNeg, Int.reduceAdd, Int.reduceSub, Int.reduceMul, Int.reduceToNat, Nat.reduceAdd, noUnk, AV.cells, reduceCtorEq, Nat.reduceLeDiff, Cells.get, Cells.getN, Nat.reduceMul, ↓bnd_assoc]
  refine Fin.call (l_few hE.t hv q1) fun H3 q3 => ?_
  cases hfw : (fewL ds && decide (ds.length ≤ 30)) with
  | false =>
    simp only [↓sxp, sxq, ↓reduceIte, Nat.reduceBEq, Nat.reduceLT, evP, evX, evR, blkOf, evA, storeA, Nat.reduceEqDiff, resL, resV, oneOrTup, Int.reduceEq, Int.reduceLT, Int.reduceLE, Int.reduceNeg, Int.reduceAdd, Int.reduceSub, Int.reduceMul, Int.reduceToNat, Nat.reduceAdd, noUnk, AV.cells, reduceCtorEq, Nat.reduceLeDiff, Cells.get, Cells.getN, Nat.reduceMul, ↓bnd_assoc]
    exact Fin.ret rfl
  | true =>
    obtain ⟨hf1, hf2⟩ := Bool.and_eq_true_iff.1 hfw
    have hf2 : ds.length ≤ 30 := by simpa using hf2
    simp only [↓sxp, sxq, ↓reduceIte, Nat.reduceBEq, Nat.reduceLT, evP, evX, evR, blkOf, evA, storeA, Nat.reduceEqDiff, resL, resV, oneOrTup, Int.reduceEq, Int.reduceLT, Int.reduceLE, Int.reduceNeg, Int.reduceAdd, Int.reduceSub, Int.reduceMul, Int.reduceToNat, Nat.reduceAdd, noUnk, AV.cells, reduceCtorEq, Nat.reduceLeDiff, Cells.get, Cells.getN, Nat.reduceMul, ↓bnd_assoc]
    refine Fin.callE _ _ (l_made hE hv hf1 hf2 q3) fun x H4 q4 => ?_
    obtain ⟨p, S, vl⟩ := x
    obtain ⟨hgd, q5⟩ := q4.pure
    simp only at hgd q5
    have hw := hgd.wf
    have hw4 := hgd.w4
    have hS := hgd.len
    have hvl := (q5.ord [1]).row_len (by omega) (n := S.L.length) (flat3_len _)
    have hvl : lenV vl = some (.int .i64 (S.L.length : Int)) := by obtain ⟨a, c, rfl⟩ := hvl; rfl
    simp only [↓sxp, sxq, ↓reduceIte, Nat.reduceBEq, Nat.reduceLT, evP, evX, evR, blkOf, evA, storeA, Nat.reduceEqDiff, resL, resV, oneOrTup, Int.reduceEq, Int.reduceLT, Int.reduceLE, Int.reduceNeg, Int.reduceAdd, Int.reduceSub, Int.reduceMul, Int.reduceToNat, Nat.reduceAdd, noUnk, AV.cells, reduceCtorEq, Nat.reduceLeDiff, Cells.get, Cells.getN, Nat.reduceMul, ↓bnd_assoc]
    refine Fin.call (s_opens hE q5 n) fun H5 q6 => ?_
    simp only [↓sxp, sxq, ↓reduceIte, Nat.reduceBEq, Nat.reduceLT, evP, evX, evR, blkOf, evA, storeA, Nat.reduceEqDiff, resL, resV, oneOrTup, Int.reduceEq, Int.reduceLT, Int.reduceLE, Int.reduceNeg, Int.reduceAdd, Int.reduceSub, Int.reduceMul, Int.reduceToNat, Nat.reduceAdd, noUnk, AV.cells, reduceCtorEq, Nat.reduceLeDiff, Cells.get, Cells.getN, Nat.reduceMul, ↓bnd_assoc]
    by_cases h0 : n < 0
    · have hno : opensM S n = (0, 0, false) := by
        have : hasM S.L n 0 = false := by simp [hasM]; omega
        simp [opensM, getM, this]
      rw [hno]
      simp only [h0, ↓sxp, sxq, ↓reduceIte, Nat.reduceBEq, Nat.reduceLT, evP, evX, evR, blkOf, evA, storeA, Nat.reduceEqDiff, resL, resV, oneOrTup, Int.reduceEq, Int.reduceLT, Int.reduceLE, Int.reduceNeg, Int.reduceAdd, Int.reduceSub, Int.reduceMul, Int.reduceToNat, Nat.reduceAdd, noUnk, AV.cells, reduceCtorEq, Nat.reduceLeDiff, Cells.get, Cells.getN, Nat.reduceMul, ↓bnd_assoc]
      exact Fin.ret rfl
    by_cases h1 : (S.L.length : Int) ≤ n
    · have hno : opensM S n = (0, 0, false) := by
        have : hasM S.L n 0 = false := by simp [hasM]; omega
        simp [opensM, getM, this]
      rw [hno]
      simp only [h0, h1, hvl, ↓sxp, sxq, ↓reduceIte, Nat.reduceBEq, Nat.reduceLT, evP, evX, evR, blkOf, evA, storeA, Nat.reduceEqDiff, resL, resV, oneOrTup, Int.reduceEq, Int.reduceLT, Int.reduceLE, Int.reduceNeg, Int.reduceAdd, Int.reduceSub, Int.reduceMul, Int.reduceToNat, Nat.reduceAdd, noUnk, AV.cells, reduceCtorEq, Nat.reduceLeDiff, Cells.get, Cells.getN, Nat.reduceMul, ↓bnd_assoc]
      exact Fin.ret rfl
    obtain ⟨i, rfl⟩ := Int.eq_ofNat_of_zero_le (show 0 ≤ n by omega)
    have hi : i < S.L.length := by omega
    have hi0 : (0 : Int) ≤ i ∧ (i : Int) < S.L.length := by omega
    have hx : S.L[i]? = some S.L[i] := List.getElem?_eq_getElem hi
    obtain ⟨j, l, c, rfl, hg⟩ := (q6.ord [1]).row_get (by omega) (n := S.L.length) (flat3_len _) (by omega)
    obtain ⟨hf1, hf2, hf3⟩ := flat3_get hx
    obtain ⟨w1, w2⟩ := hw i _ hx
    have h4' := hw4 i _ hx
    have hgm := getM_at hx
    unfold opensM
    rw [hgm]
    generalize S.L[i] = x at *
    obtain ⟨kd, u, w⟩ := x
    simp only at hf1 hf2 hf3 w1 w2 h4' ⊢
    by_cases k4 : kd = 4
    · subst k4
      obtain ⟨y, hy, hy2⟩ := h4' rfl
      obtain ⟨u0, u1⟩ := w1 (by omega) (by omega)
      obtain ⟨v0, v1⟩ := w2 (.inl rfl)
      have hu0 : 0 ≤ u ∧ u < S.L.length := by omega
      have hyl := (List.getElem?_eq_some_iff.1 hy).1
      obtain ⟨y0, y1⟩ := (hw _ _ hy).1 (by omega) (by omega)
      obtain ⟨_, hfy, _⟩ := flat3_get hy
      have hgy : getM S u = y := by
        have := getM_at hy
        rwa [show ((u.toNat : Nat) : Int) = u from by omega] at this
      rw [hgy]
      simp only [h0, h1, hvl, hi0, hu0, and_self, ↓hg, hf1, hf2, hfy, Int.toNat_natCast, ↓sxp, sxq, ↓reduceIte, Nat.reduceBEq, Nat.reduceLT, evP, evX, evR, blkOf, evA, storeA, Nat.reduceEqDiff, resL, resV, oneOrTup, Int.reduceEq, Int.reduceLT, Int.reduceLE, Int.reduceNeg, Int.reduceAdd, Int.reduceSub, Int.reduceMul, Int.reduceToNat, Nat.reduceAdd, noUnk, AV.cells, reduceCtorEq, Nat.reduceLeDiff, Cells.get, Cells.getN, Nat.reduceMul, ↓bnd_assoc]
      have hin : inR S.L.length [(i : Int), y.2.1] = true := by
        simp only [inR, List.all_cons, List.all_nil, Bool.and_eq_true, decide_eq_true_eq]; exact ⟨hi0, ⟨by omega, by omega⟩, trivial⟩
      have q7 : Holds _ (isP W [(i : Int), y.2.1] (.sl (some ⟨.own H5.next, 0⟩) 2 (.exact 2)) :: storeP W p S :: row 33 3 (flat3 S.L) (.sl (some ⟨.own j, 0⟩) S.L.length c) :: []) := blk_is (q6.push (c := ints [(i : Int), y.2.1]) (t := 3))
      refine Fin.callE _ _ ((p_from hE (q7.ord [1]) hw hw4 (by omega) (by simp)).2 hin) fun x H6 q8 => ?_
      obtain ⟨k, hs⟩ := x
      obtain ⟨hc, q9⟩ := q8.pure
      simp only at hc q9
      have hh := opens_4 hw hx hy rfl hc
      have f1 := p_has (W := W) hE q9 w
      rw [hh] at f1
      obtain ⟨j', l', c', e', hg'⟩ := (q9.ord [3]).row_get (by omega) (n := S.L.length) (flat3_len _) (by omega)
      cases e'
      simp only [hi0, and_self, ↓hg', hf3, f1, Int.toNat_natCast, ↓sxp, sxq, ↓reduceIte, Nat.reduceBEq, Nat.reduceLT, evP, evX, evR, blkOf, evA, storeA, Nat.reduceEqDiff, resL, resV, oneOrTup, Int.reduceEq, Int.reduceLT, Int.reduceLE, Int.reduceNeg, Int.reduceAdd, Int.reduceSub, Int.reduceMul, Int.reduceToNat, Nat.reduceAdd, noUnk, AV.cells, reduceCtorEq, Nat.reduceLeDiff, Cells.get, Cells.getN, Nat.reduceMul, ↓bnd_assoc]
      exact Fin.ret rfl
    by_cases k5 : kd = 5
    · subst k5
      obtain ⟨u0, u1⟩ := w1 (by omega) (by omega)
      obtain ⟨v0, v1⟩ := w2 (.inr (.inl rfl))
      have hu0 : 0 ≤ u ∧ u < S.L.length := by omega
      simp only [h0, h1, hvl, hi0, hu0, and_self, ↓hg, hf1, hf2, Int.toNat_natCast, Int.reduceEq, ↓sxp, sxq, ↓reduceIte, Nat.reduceBEq, Nat.reduceLT, evP, evX, evR, blkOf, evA, storeA, Nat.reduceEqDiff, resL, resV, oneOrTup, Int.reduceEq, Int.reduceLT, Int.reduceLE, Int.reduceNeg, Int.reduceAdd, Int.reduceSub, Int.reduceMul, Int.reduceToNat, Nat.reduceAdd, noUnk, AV.cells, reduceCtorEq, Nat.reduceLeDiff, Cells.get, Cells.getN, Nat.reduceMul, ↓bnd_assoc]
      have hin : inR S.L.length [(i : Int), u] = true := by
        simp only [inR, List.all_cons, List.all_nil, Bool.and_eq_true, decide_eq_true_eq]; exact ⟨hi0, hu0, trivial⟩
      have q7 : Holds _ (isP W [(i : Int), u] (.sl (some ⟨.own H5.next, 0⟩) 2 (.exact 2)) :: storeP W p S :: row 33 3 (flat3 S.L) (.sl (some ⟨.own j, 0⟩) S.L.length c) :: []) := blk_is (q6.push (c := ints [(i : Int), u]) (t := 3))
      refine Fin.callE _ _ ((p_from hE (q7.ord [1]) hw hw4 (by omega) (by simp)).2 hin) fun x H6 q8 => ?_
      obtain ⟨k, hs⟩ := x
      obtain ⟨hc, q9⟩ := q8.pure
      simp only at hc q9
      have hh := opens_5 hw hx hc
      have f1 := p_has (W := W) hE q9 w
      rw [hh] at f1
      obtain ⟨j', l', c', e', hg'⟩ := (q9.ord [3]).row_get (by omega) (n := S.L.length) (flat3_len _) (by omega)
      cases e'
      simp only [hi0, and_self, ↓hg', hf3, f1, Int.toNat_natCast, ↓sxp, sxq, ↓reduceIte, Nat.reduceBEq, Nat.reduceLT, evP, evX, evR, blkOf, evA, storeA, Nat.reduceEqDiff, resL, resV, oneOrTup, Int.reduceEq, Int.reduceLT, Int.reduceLE, Int.reduceNeg, Int.reduceAdd, Int.reduceSub, Int.reduceMul, Int.reduceToNat, Nat.reduceAdd, noUnk, AV.cells, reduceCtorEq, Nat.reduceLeDiff, Cells.get, Cells.getN, Nat.reduceMul, ↓bnd_assoc]
      exact Fin.ret rfl
    · simp only [h0, h1, hvl, hi0, and_self, ↓hg, hf1, hf2, Int.toNat_natCast, k4, k5, ↓sxp, sxq, ↓reduceIte, Nat.reduceBEq, Nat.reduceLT, evP, evX, evR, blkOf, evA, storeA, Nat.reduceEqDiff, resL, resV, oneOrTup, Int.reduceEq, Int.reduceLT, Int.reduceLE, Int.reduceNeg, Int.reduceAdd, Int.reduceSub, Int.reduceMul, Int.reduceToNat, Nat.reduceAdd, noUnk, AV.cells, reduceCtorEq, Nat.reduceLeDiff, Cells.get, Cells.getN, Nat.reduceMul, ↓bnd_assoc]
      exact Fin.ret rfl
end
end Go.Proofs.Ytnfehkjkmlbceaa.Sx

/- DeduceMore: lists that are put together, the loops. -/
namespace Go.Proofs.Ytnfehkjkmlbceaa.Sx
open HP
section
variable {W : World} {E : Env} {H : Heap} {Γ : List HP}
theorem getN_lst (l : List AV) : Cells.getN (.lst l) 0 (l.length * 1) = some l := by rw [Nat.mul_one]; exact getN_all l
theorem Is.src {l : List Int} {v : AV} {ids : List Nat} (h : Is W H l v ids) : srcA W H 1 false v = some (l.length, ints l) := by
  cases h with
  | nil h => subst h; rfl
  | emp h => subst h; rfl
  | old r off cap c hb hg => simp only [srcA, hb, Nat.mul_one, hg]
  | own j t cap hb =>
    have := getN_lst (ints l)
    rw [List.length_map] at this
    simp only [srcA, blkOf, hb, this]
  | row j k t cap hb =>
    have := getN_lst (ints l)
    rw [List.length_map] at this
    simp only [srcA, blkOf, hb, this]
/-- A list that can be appended to: an empty one that was written out, or one that append made. -/
def apP (l : List Int) (v : AV) : HP := HP.ex fun o : Option Nat => match o with
  | some j => HP.all [HP.pure (l = [] ∧ v = .sl (some ⟨.own j, 0⟩) 0 (.exact 0)), blk j [] 3]
  | none => row 3 1 (ints l) v
theorem ap_is {l : List Int} {v : AV} (h : Holds H (apP l v :: Γ)) : Holds H (isP W l v :: Γ) := by
  obtain ⟨o, h⟩ := h.ex
  cases o with
  | none => exact row_is h
  | some j =>
    have h2 : Holds H (HP.pure (l = [] ∧ v = .sl (some ⟨.own j, 0⟩) 0 (.exact 0)) :: blk j [] 3 :: Γ) := h.opn
    obtain ⟨⟨rfl, rfl⟩, h3⟩ := h2.pure
    exact blk_is (l := []) h3
theorem ap_start {j : Nat} (h : Holds H (blk j [] 3 :: Γ)) : Holds H (apP [] (.sl (some ⟨.own j, 0⟩) 0 (.exact 0)) :: Γ) :=
  Holds.ex' (F := fun o : Option Nat => match o with
    | some i => HP.all [HP.pure ([] = ([] : List Int) ∧ (AV.sl (some ⟨.own j, 0⟩) 0 (.exact 0)) = .sl (some ⟨.own i, 0⟩) 0 (.exact 0)), blk i [] 3]
    | none => row 3 1 (ints []) (.sl (some ⟨.own j, 0⟩) 0 (.exact 0))) (some j)
    (Holds.cls [HP.pure ([] = ([] : List Int) ∧ (AV.sl (some ⟨.own j, 0⟩) 0 (.exact 0)) = .sl (some ⟨.own j, 0⟩) 0 (.exact 0)), blk j [] 3] (Holds.pure' ⟨rfl, rfl⟩ h))
theorem ap_row {l : List Int} {v : AV} (h : Holds H (row 3 1 (ints l) v :: Γ)) : Holds H (apP l v :: Γ) :=
  Holds.ex' (F := fun o : Option Nat => match o with
    | some j => HP.all [HP.pure (l = [] ∧ v = .sl (some ⟨.own j, 0⟩) 0 (.exact 0)), blk j [] 3]
    | none => row 3 1 (ints l) v) none h
theorem row_app0 {l : List Int} {v gv : AV} (h : Holds H (row 3 1 (ints l) v :: Γ)) (hs : srcA W H 1 false gv = some (0, [])) : appA W H 3 1 8 false v gv = some (v, H) := by
  obtain ⟨fp, f, g, a, b⟩ := h.a
  have a : Row H 3 1 (ints l) v f := a
  generalize ints l = fl at a
  cases a with
  | nil => simp only [appA, hs, and_self, if_true]
  | mk h0 hl hg hln => simp only [appA, hs]; simp
theorem ap_app {l g : List Int} {v gv : AV} (h : Holds H (apP l v :: isP W g gv :: Γ)) (hb : l.length + g.length ≤ 65536) :
    ∃ v' H', appA W H 3 1 8 false v gv = some (v', H') ∧ Holds H' (apP (l ++ g) v' :: isP W g gv :: Γ) := by
  obtain ⟨ids, hg⟩ := (h.ord [1]).is_get
  have hsrc := hg.src
  by_cases h0 : g = []
  · subst h0
    have hh := h
    obtain ⟨o, h⟩ := h.ex
    refine ⟨v, H, ?_, by rw [List.append_nil]; exact hh⟩
    cases o with
    | none => exact row_app0 h hsrc
    | some j =>
      have h2 : Holds H (HP.pure (l = [] ∧ v = .sl (some ⟨.own j, 0⟩) 0 (.exact 0)) :: blk j [] 3 :: isP W [] gv :: Γ) := h.opn
      obtain ⟨⟨rfl, rfl⟩, h3⟩ := h2.pure
      simp only [appA, hsrc]; simp
  · have hpos : 0 < g.length := List.length_pos_iff.2 h0
    have hone : (ints g).all oneC = true := by simp [oneC]
    obtain ⟨o, h⟩ := h.ex
    cases o with
    | none =>
      obtain ⟨v', H', e, h2⟩ := Holds.app (W := W) (bytes := 8) (os := false) (x := gv) (k := g.length) (n := l.length) (new := ints g) h (by omega) hsrc hpos (ints_len g) hone (ints_len l) (by omega)
      refine ⟨v', H', e, ap_row ?_⟩
      rw [show ints (l ++ g) = ints l ++ ints g from by simp [ints]]
      exact h2
    | some j =>
      have h2 : Holds H (HP.pure (l = [] ∧ v = .sl (some ⟨.own j, 0⟩) 0 (.exact 0)) :: blk j [] 3 :: isP W g gv :: Γ) := h.opn
      obtain ⟨⟨rfl, rfl⟩, h3⟩ := h2.pure
      obtain ⟨v', H', e, h4⟩ := Holds.app (W := W) (bytes := 8) (os := false) (x := gv) (k := g.length) (n := 0) (new := ints g) (h3.tail.row_nil (ty := 3) (es := 1)) (by omega) hsrc hpos (ints_len g) hone rfl (by omega)
      refine ⟨v', H', ?_, ap_row h4⟩
      have hj := h3.get
      rw [← e]
      have hb' : g.length * 8 ≤ 140737488355328 := by simp at hb; omega
      simp only [appA, hsrc, blkOf, hj]
      simp [Cells.getN, show ¬ g.length = 0 from by omega, h0]
theorem Fin.ap {α : Type} {R : α → Prop} {k : AV × Heap → Option α} {l g : List Int} {v gv : AV} (h : Holds H (apP l v :: isP W g gv :: Γ)) (hb : l.length + g.length ≤ 65536)
    (hk : ∀ v' H', Holds H' (apP (l ++ g) v' :: isP W g gv :: Γ) → Fin R (k (v', H'))) : Fin R (bnd (appA W H 3 1 8 false v gv) k) := by
  obtain ⟨v', H', e, h'⟩ := ap_app h hb
  rw [e, bnd_some]
  exact hk _ _ h'
theorem inR_mem {n : Nat} {g : List Int} (h : inR n g = true) {x : Int} (hx : x ∈ g) : inR n [x] = true := by
  have := fn_of h x hx
  simp only [inR, List.all_cons, List.all_nil, Bool.and_eq_true, decide_eq_true_eq]; exact ⟨this, trivial⟩
theorem inG_snoc {g : List Int} {x : Int} {P : Nat → Prop} (j : Nat) : ((P j ∨ inG g j) ∨ inG [x] j) ↔ (P j ∨ inG (g ++ [x]) j) := by
  constructor
  · rintro ((h | ⟨y, h1, h2⟩) | ⟨y, h1, h2⟩)
    · exact .inl h
    · exact .inr ⟨y, by simp [h1], h2⟩
    · exact .inr ⟨y, by simp at h1; simp [h1], h2⟩
  · rintro (h | ⟨y, h1, h2⟩)
    · exact .inl (.inl h)
    · rcases List.mem_append.1 h1 with h1 | h1
      · exact .inl (.inr ⟨y, h1, h2⟩)
      · exact .inr ⟨y, h1, h2⟩
/-- One by one, from the last to the first. -/
theorem more_back (hE : EnvK E) {k : Nat} {L : List T3} {df : List Nat} {g : List Int} {gv : AV} {P : Nat → Prop} (hw : WFL L) (hw4 : W4 L) (hb : L.length < 256) (hg : g.length < 65536) (hin : inR L.length g = true) : ∀ (m i : Nat) (A : Tm) (H : Heap) (hs : List Bool), i + m = g.length → Clo L (fun j => P j ∨ inG (g.reverse.take i) j) hs → getX A 1 = gv → getX A 18 = .ptr (some ⟨.own k, 0⟩) → getX A 130 = .int .i64 g.length → getX A 131 = .int .i64 i → Holds H (knP k L hs :: isP W g gv :: Γ) →
    ∃ lv A' H', run W E (.loop lp6_0) ⟨A, df, none⟩ H = some (lv, ⟨A', df, none⟩, H') ∧ (lv = .exit 0 ∧ (∀ r ∈ [1, 2, 6, 10, 12, 14, 16, 18], getX A' r = getX A r) ∧ ∃ hs', Clo L (fun j => P j ∨ inG g.reverse j) hs' ∧ Holds H' (knP k L hs' :: isP W g gv :: Γ)) := by
  have hlp : ∀ f H, run W E lp6_0 f H = run W E lp6_0 f H := fun _ _ => rfl
  conv at hlp => enter [f, H, 2]; unfold lp6_0
  intro m
  induction m with
  | zero =>
    intro i A H hs him hc a1 a18 a130 a131 h
    have : i = g.length := by omega
    subst this
    have hlt : ¬ (g.length : Int) < g.length := by omega
    rw [run_loop]
    simp only [hlp, a130, a131, hlt, ↓sxp, sxq, ↓reduceIte, Nat.reduceBEq, Nat.reduceLT, evP, evX, evR, blkOf, evA, storeA, Nat.reduceEqDiff, resL, resV, oneOrTup, Int.reduceEq, Int.reduceLT, Int.reduceLE, Int.reduceNeg, Int.reduceAdd, Int.reduceSub, Int.reduceMul, Int.reduceToNat, Nat.reduceAdd, noUnk, AV.cells, reduceCtorEq, Nat.reduceLeDiff, Cells.get, Cells.getN, Nat.reduceMul, ↓bnd_assoc]
    refine ⟨_, _, _, rfl, rfl, fun r hr => ?_, hs, ?_, h⟩
    · simp only [List.mem_cons, List.not_mem_nil, or_false] at hr
      rcases hr with rfl | rfl | rfl | rfl | rfl | rfl | rfl | rfl <;> simp only [↓sxp, sxq, ↓reduceIte, Nat.reduceBEq, Nat.reduceLT, evP, evX, evR, blkOf, evA, storeA, Nat.reduceEqDiff, resL, resV, oneOrTup, Int.reduceEq, Int.reduceLT, Int.reduceLE, Int.reduceNeg, Int.reduceAdd, Int.reduceSub, Int.reduceMul, Int.reduceToNat, Nat.reduceAdd, noUnk, AV.cells, reduceCtorEq, Nat.reduceLeDiff, Cells.get, Cells.getN, Nat.reduceMul, ↓bnd_assoc]
    · rw [List.take_of_length_le (by simp)] at hc; exact hc
  | succ m ih =>
    intro i A H hs him hc a1 a18 a130 a131 h
    have hlt : (i : Int) < g.length := by omega
    have hwr : IntKind.i64.wrap ((i : Int) + 1) = ((i + 1 : Nat) : Int) := by rw [w64 (by omega)]; simp
    have hw1 : IntKind.i64.wrap ((g.length : Int) - 1) = (g.length : Int) - 1 := w64 (by omega)
    have hw2 : IntKind.i64.wrap ((g.length : Int) - 1 - i) = ((g.length - 1 - i : Nat) : Int) := by rw [w64 (by omega)]; omega
    obtain ⟨ids, his⟩ := (h.ord [1]).is_get
    have hlg := his.len
    obtain ⟨p, e1, e2⟩ := his.at (i := g.length - 1 - i) (by omega)
    have hx : g.reverse.take (i + 1) = g.reverse.take i ++ [g[g.length - 1 - i]] := by
      rw [List.take_succ_eq_append_getElem (by simp; omega), List.getElem_reverse]
    have hin1 := inR_mem hin (List.getElem_mem (show g.length - 1 - i < g.length by omega))
    generalize g[g.length - 1 - i] = x at *
    have h2 : Holds _ (isP W [x] (.sl (some ⟨.own H.next, 0⟩) 1 (.exact 1)) :: knP k L hs :: isP W g gv :: Γ) := blk_is (h.push (c := ints [x]) (t := 3))
    obtain ⟨hs', c1, _, e⟩ := (p_more hE (h2.ord [1]) hw hw4 hb (by simp) hc).2 hin1
    apply Fin.ex3
    rw [run_loop]
    simp only [hlp, a1, a18, a130, a131, hlt, hlg, hw1, hw2, e1, e2, ↓sxp, sxq, ↓reduceIte, Nat.reduceBEq, Nat.reduceLT, evP, evX, evR, blkOf, evA, storeA, Nat.reduceEqDiff, resL, resV, oneOrTup, Int.reduceEq, Int.reduceLT, Int.reduceLE, Int.reduceNeg, Int.reduceAdd, Int.reduceSub, Int.reduceMul, Int.reduceToNat, Nat.reduceAdd, noUnk, AV.cells, reduceCtorEq, Nat.reduceLeDiff, Cells.get, Cells.getN, Nat.reduceMul, ↓bnd_assoc]
    refine Fin.call e fun H3 h3 => ?_
    simp only [a131, hwr, ↓sxp, sxq, ↓reduceIte, Nat.reduceBEq, Nat.reduceLT, evP, evX, evR, blkOf, evA, storeA, Nat.reduceEqDiff, resL, resV, oneOrTup, Int.reduceEq, Int.reduceLT, Int.reduceLE, Int.reduceNeg, Int.reduceAdd, Int.reduceSub, Int.reduceMul, Int.reduceToNat, Nat.reduceAdd, noUnk, AV.cells, reduceCtorEq, Nat.reduceLeDiff, Cells.get, Cells.getN, Nat.reduceMul, ↓bnd_assoc]
    exact Fin.of3 (ih (i + 1) _ _ hs' (by omega) (c1.congr fun j => by rw [hx]; exact inG_snoc j) (by simp only [a1, ↓sxp, sxq, ↓reduceIte, Nat.reduceBEq, Nat.reduceLT, evP, evX, evR, blkOf, evA, storeA, Nat.reduceEqDiff, resL, resV, oneOrTup, Int.reduceEq, Int.reduceLT, Int.reduceLE, Int.reduceNeg, Int.reduceAdd, Int.reduceSub, Int.reduceMul, Int.reduceToNat, Nat.reduceAdd, noUnk, AV.cells, reduceCtorEq, Nat.reduceLeDiff, Cells.get, Cells.getN, Nat.reduceMul, ↓bnd_assoc]) (by simp only [a18, ↓sxp, sxq, ↓reduceIte, Nat.reduceBEq, Nat.reduceLT, evP, evX, evR, blkOf, evA, storeA, Nat.reduceEqDiff, resL, resV, oneOrTup, Int.reduceEq, Int.reduceLT, Int.reduceLE, Int.reduceNeg, Int.reduceAdd, Int.reduceSub, Int.reduceMul, Int.reduceToNat, Nat.reduceAdd, noUnk, AV.cells, reduceCtorEq, Nat.reduceLeDiff, Cells.get, Cells.getN, Nat.reduceMul, ↓bnd_assoc]) (by simp only [a130, ↓sxp, sxq, ↓reduceIte, Nat.reduceBEq, Nat.reduceLT, evP, evX, evR, blkOf, evA, storeA, Nat.reduceEqDiff, resL, resV, oneOrTup, Int.reduceEq, Int.reduceLT, Int.reduceLE, Int.reduceNeg, Int.reduceAdd, Int.reduceSub, Int.reduceMul, Int.reduceToNat, Nat.reduceAdd, noUnk, AV.cells, reduceCtorEq, Nat.reduceLeDiff, Cells.get, Cells.getN, Nat.reduceMul, ↓bnd_assoc]) (by simp only [↓sxp, sxq, ↓reduceIte, Nat.reduceBEq, Nat.reduceLT, evP, evX, evR, blkOf, evA, storeA, Nat.reduceEqDiff, resL, resV, oneOrTup, Int.reduceEq, Int.reduceLT, Int.reduceLE, Int.reduceNeg, Int.reduceAdd, Int.reduceSub, Int.reduceMul, Int.reduceToNat, Nat.reduceAdd, noUnk, AV.cells, reduceCtorEq, Nat.reduceLeDiff, Cells.get, Cells.getN, Nat.reduceMul, ↓bnd_assoc]) (h3.rm 1)) fun lv A' H' ⟨r1, r2, r3⟩ => ⟨r1, fun r hr => (r2 r hr).trans (by
      simp only [List.mem_cons, List.not_mem_nil, or_false] at hr
      rcases hr with rfl | rfl | rfl | rfl | rfl | rfl | rfl | rfl <;> simp only [↓sxp, sxq, ↓reduceIte, Nat.reduceBEq, Nat.reduceLT, evP, evX, evR, blkOf, evA, storeA, Nat.reduceEqDiff, resL, resV, oneOrTup, Int.reduceEq, Int.reduceLT, Int.reduceLE, Int.reduceNeg, Int.reduceAdd, Int.reduceSub, Int.reduceMul, Int.reduceToNat, Nat.reduceAdd, noUnk, AV.cells, reduceCtorEq, Nat.reduceLeDiff, Cells.get, Cells.getN, Nat.reduceMul, ↓bnd_assoc]), r3⟩
end
end Go.Proofs.Ytnfehkjkmlbceaa.Sx

/- DeduceMore, whole. -/
namespace Go.Proofs.Ytnfehkjkmlbceaa.Sx
open HP
section
variable {W : World} {E : Env} {H : Heap} {Γ : List HP}
/-- One by one, from the first to the last. -/
theorem more_fwd (hE : EnvK E) {k : Nat} {L : List T3} {df : List Nat} {g : List Int} {gv : AV} {P : Nat → Prop} (hw : WFL L) (hw4 : W4 L) (hb : L.length < 256) (hg : g.length < 65536) (hin : inR L.length g = true) : ∀ (m i : Nat) (A : Tm) (H : Heap) (hs : List Bool), i + m = g.length → Clo L (fun j => P j ∨ inG (g.take i) j) hs → getX A 146 = gv → getX A 18 = .ptr (some ⟨.own k, 0⟩) → getX A 147 = .int .i64 g.length → getX A 148 = .int .i64 i → Holds H (knP k L hs :: isP W g gv :: Γ) →
    ∃ lv A' H', run W E (.loop lp6_1) ⟨A, df, none⟩ H = some (lv, ⟨A', df, none⟩, H') ∧ (lv = .exit 2 ∧ (∀ r ∈ [6, 10, 12, 14, 16, 18], getX A' r = getX A r) ∧ ∃ hs', Clo L (fun j => P j ∨ inG g j) hs' ∧ Holds H' (knP k L hs' :: isP W g gv :: Γ)) := by
  have hlp : ∀ f H, run W E lp6_1 f H = run W E lp6_1 f H := fun _ _ => rfl
  conv at hlp => enter [f, H, 2]; unfold lp6_1
  intro m
  induction m with
  | zero =>
    intro i A H hs him hc a146 a18 a147 a148 h
    have : i = g.length := by omega
    subst this
    have hlt : ¬ (g.length : Int) < g.length := by omega
    rw [run_loop]
    simp only [hlp, a147, a148, hlt, ↓sxp, sxq, ↓reduceIte, Nat.reduceBEq, Nat.reduceLT, evP, evX, evR, blkOf, evA, storeA, Nat.reduceEqDiff, resL, resV, oneOrTup, Int.reduceEq, Int.reduceLT, Int.reduceLE, Int.reduceNeg, Int.reduceAdd, Int.reduceSub, Int.reduceMul, Int.reduceToNat, Nat.reduceAdd, noUnk, AV.cells, reduceCtorEq, Nat.reduceLeDiff, Cells.get, Cells.getN, Nat.reduceMul, ↓bnd_assoc]
    refine ⟨_, _, _, rfl, rfl, fun r hr => ?_, hs, ?_, h⟩
    · simp only [List.mem_cons, List.not_mem_nil, or_false] at hr
      rcases hr with rfl | rfl | rfl | rfl | rfl | rfl <;> simp only [↓sxp, sxq, ↓reduceIte, Nat.reduceBEq, Nat.reduceLT, evP, evX, evR, blkOf, evA, storeA, Nat.reduceEqDiff, resL, resV, oneOrTup, Int.reduceEq, Int.reduceLT, Int.reduceLE, Int.reduceNeg, Int.reduceAdd, Int.reduceSub, Int.reduceMul, Int.reduceToNat, Nat.reduceAdd, noUnk, AV.cells, reduceCtorEq, Nat.reduceLeDiff, Cells.get, Cells.getN, Nat.reduceMul, ↓bnd_assoc]
    · rw [List.take_of_length_le (by omega)] at hc; exact hc
  | succ m ih =>
    intro i A H hs him hc a146 a18 a147 a148 h
    have hlt : (i : Int) < g.length := by omega
    have hwr : IntKind.i64.wrap ((i : Int) + 1) = ((i + 1 : Nat) : Int) := by rw [w64 (by omega)]; simp
    obtain ⟨ids, his⟩ := (h.ord [1]).is_get
    obtain ⟨p, e1, e2⟩ := his.at (i := i) (by omega)
    have hx : g.take (i + 1) = g.take i ++ [g[i]] := List.take_succ_eq_append_getElem (by omega)
    have hin1 := inR_mem hin (List.getElem_mem (show i < g.length by omega))
    generalize g[i] = x at *
    have h2 : Holds _ (isP W [x] (.sl (some ⟨.own H.next, 0⟩) 1 (.exact 1)) :: knP k L hs :: isP W g gv :: Γ) := blk_is (h.push (c := ints [x]) (t := 3))
    obtain ⟨hs', c1, _, e⟩ := (p_more hE (h2.ord [1]) hw hw4 hb (by simp) hc).2 hin1
    apply Fin.ex3
    rw [run_loop]
    simp only [hlp, a146, a18, a147, a148, hlt, e1, e2, ↓sxp, sxq, ↓reduceIte, Nat.reduceBEq, Nat.reduceLT, evP, evX, evR, blkOf, evA, storeA, Nat.reduceEqDiff, resL, resV, oneOrTup, Int.reduceEq, Int.reduceLT, Int.reduceLE, Int.reduceNeg, Int.reduceAdd, Int.reduceSub, Int.reduceMul, Int.reduceToNat, Nat.reduceAdd, noUnk, AV.cells, reduceCtorEq, Nat.reduceLeDiff, Cells.get, Cells.getN, Nat.reduceMul, ↓bnd_assoc]
    refine Fin.call e fun H3 h3 => ?_
    simp only [a148, hwr, ↓sxp, sxq, ↓reduceIte, Nat.reduceBEq, Nat.reduceLT, evP, evX, evR, blkOf, evA, storeA, Nat.reduceEqDiff, resL, resV, oneOrTup, Int.reduceEq, Int.reduceLT, Int.reduceLE, Int.reduceNeg, Int.reduceAdd, Int.reduceSub, Int.reduceMul, Int.reduceToNat, Nat.reduceAdd, noUnk, AV.cells, reduceCtorEq, Nat.reduceLeDiff, Cells.get, Cells.getN, Nat.reduceMul, ↓bnd_assoc]
    exact Fin.of3 (ih (i + 1) _ _ hs' (by omega) (c1.congr fun j => by rw [hx]; exact inG_snoc j) (by simp only [a146, ↓sxp, sxq, ↓reduceIte, Nat.reduceBEq, Nat.reduceLT, evP, evX, evR, blkOf, evA, storeA, Nat.reduceEqDiff, resL, resV, oneOrTup, Int.reduceEq, Int.reduceLT, Int.reduceLE, Int.reduceNeg, Int.reduceAdd, Int.reduceSub, Int.reduceMul, Int.reduceToNat, Nat.reduceAdd, noUnk, AV.cells, reduceCtorEq, Nat.reduceLeDiff, Cells.get, Cells.getN, Nat.reduceMul, ↓bnd_assoc]) (by simp only [a18, ↓sxp, sxq, ↓reduceIte, Nat.reduceBEq, Nat.reduceLT, evP, evX, evR, blkOf, evA, storeA, Nat.reduceEqDiff, resL, resV, oneOrTup, Int.reduceEq, Int.reduceLT, Int.reduceLE, Int.reduceNeg, Int.reduceAdd, Int.reduceSub, Int.reduceMul, Int.reduceToNat, Nat.reduceAdd, noUnk, AV.cells, reduceCtorEq, Nat.reduceLeDiff, Cells.get, Cells.getN, Nat.reduceMul, ↓bnd_assoc]) (by simp only [a147, ↓sxp, sxq, ↓reduceIte, Nat.reduceBEq, Nat.reduceLT, evP, evX, evR, blkOf, evA, storeA, Nat.reduceEqDiff, resL, resV, oneOrTup, Int.reduceEq, Int.reduceLT, Int.reduceLE, Int.reduceNeg, Int.reduceAdd, Int.reduceSub, Int.reduceMul, Int.reduceToNat, Nat.reduceAdd, noUnk, AV.cells, reduceCtorEq, Nat.reduceLeDiff, Cells.get, Cells.getN, Nat.reduceMul, ↓bnd_assoc]) (by simp only [↓sxp, sxq, ↓reduceIte, Nat.reduceBEq, Nat.reduceLT, evP, evX, evR, blkOf, evA, storeA, Nat.reduceEqDiff, resL, resV, oneOrTup, Int.reduceEq, Int.reduceLT, Int.reduceLE, Int.reduceNeg, Int.reduceAdd, Int.reduceSub, Int.reduceMul, Int.reduceToNat, Nat.reduceAdd, noUnk, AV.cells, reduceCtorEq, Nat.reduceLeDiff, Cells.get, Cells.getN, Nat.reduceMul, ↓bnd_assoc]) (h3.rm 1)) fun lv A' H' ⟨r1, r2, r3⟩ => ⟨r1, fun r hr => (r2 r hr).trans (by
      simp only [List.mem_cons, List.not_mem_nil, or_false] at hr
      rcases hr with rfl | rfl | rfl | rfl | rfl | rfl <;> simp only [↓sxp, sxq, ↓reduceIte, Nat.reduceBEq, Nat.reduceLT, evP, evX, evR, blkOf, evA, storeA, Nat.reduceEqDiff, resL, resV, oneOrTup, Int.reduceEq, Int.reduceLT, Int.reduceLE, Int.reduceNeg, Int.reduceAdd, Int.reduceSub, Int.reduceMul, Int.reduceToNat, Nat.reduceAdd, noUnk, AV.cells, reduceCtorEq, Nat.reduceLeDiff, Cells.get, Cells.getN, Nat.reduceMul, ↓bnd_assoc]), r3⟩
theorem was_loop (hE : EnvK E) {k : Nat} {L : List T3} {hs : List Bool} {df : List Nat} {g : List Int} {gv : AV} (hg : g.length < 65536) (hh : ∀ x ∈ g, hasK hs x = true ∧ hasK (mkZ L hs) x = true) : ∀ (m i : Nat) (A : Tm) (H : Heap), i + m = g.length → getX A 190 = gv → getX A 12 = .ptr (some ⟨.own k, 0⟩) → getX A 191 = .int .i64 g.length → getX A 192 = .int .i64 i → Holds H (knP k L hs :: isP W g gv :: Γ) →
    ∃ lv A' H', run W E (.loop lp6_2) ⟨A, df, none⟩ H = some (lv, ⟨A', df, none⟩, H') ∧ lv = .exit 4 := by
  have hlp : ∀ f H, run W E lp6_2 f H = run W E lp6_2 f H := fun _ _ => rfl
  conv at hlp => enter [f, H, 2]; unfold lp6_2
  intro m
  induction m with
  | zero =>
    intro i A H him a190 a12 a191 a192 h
    have : i = g.length := by omega
    subst this
    have hlt : ¬ (g.length : Int) < g.length := by omega
    rw [run_loop]
    simp only [hlp, a191, a192, hlt, ↓sxp, sxq, ↓reduceIte, Nat.reduceBEq, Nat.reduceLT, evP, evX, evR, blkOf, evA, storeA, Nat.reduceEqDiff, resL, resV, oneOrTup, Int.reduceEq, Int.reduceLT, Int.reduceLE, Int.reduceNeg, Int.reduceAdd, Int.reduceSub, Int.reduceMul, Int.reduceToNat, Nat.reduceAdd, noUnk, AV.cells, reduceCtorEq, Nat.reduceLeDiff, Cells.get, Cells.getN, Nat.reduceMul, ↓bnd_assoc]
    exact ⟨_, _, _, rfl, rfl⟩
  | succ m ih =>
    intro i A H him a190 a12 a191 a192 h
    have hlt : (i : Int) < g.length := by omega
    have hwr : IntKind.i64.wrap ((i : Int) + 1) = ((i + 1 : Nat) : Int) := by rw [w64 (by omega)]; simp
    obtain ⟨ids, his⟩ := (h.ord [1]).is_get
    obtain ⟨p, e1, e2⟩ := his.at (i := i) (by omega)
    obtain ⟨h1, h2⟩ := hh _ (List.getElem_mem (show i < g.length by omega))
    generalize g[i] = x at *
    have f1 := p_has (W := W) hE h x
    have f2 := p_can (W := W) hE h x
    rw [h1] at f1
    rw [h2] at f2
    rw [run_loop]
    simp only [hlp, a190, a12, a191, a192, hlt, e1, e2, f1, f2, hwr, ↓sxp, sxq, ↓reduceIte, Nat.reduceBEq, Nat.reduceLT, evP, evX, evR, blkOf, evA, storeA, Nat.reduceEqDiff, resL, resV, oneOrTup, Int.reduceEq, Int.reduceLT, Int.reduceLE, Int.reduceNeg, Int.reduceAdd, Int.reduceSub, Int.reduceMul, Int.reduceToNat, Nat.reduceAdd, noUnk, AV.cells, reduceCtorEq, Nat.reduceLeDiff, Cells.get, Cells.getN, Nat.reduceMul, ↓bnd_assoc]
    exact ih (i + 1) _ _ (by omega) (by simp only [a190, ↓sxp, sxq, ↓reduceIte, Nat.reduceBEq, Nat.reduceLT, evP, evX, evR, blkOf, evA, storeA, Nat.reduceEqDiff, resL, resV, oneOrTup, Int.reduceEq, Int.reduceLT, Int.reduceLE, Int.reduceNeg, Int.reduceAdd, Int.reduceSub, Int.reduceMul, Int.reduceToNat, Nat.reduceAdd, noUnk, AV.cells, reduceCtorEq, Nat.reduceLeDiff, Cells.get, Cells.getN, Nat.reduceMul, ↓bnd_assoc]) (by simp only [a12, ↓sxp, sxq, ↓reduceIte, Nat.reduceBEq, Nat.reduceLT, evP, evX, evR, blkOf, evA, storeA, Nat.reduceEqDiff, resL, resV, oneOrTup, Int.reduceEq, Int.reduceLT, Int.reduceLE, Int.reduceNeg, Int.reduceAdd, Int.reduceSub, Int.reduceMul, Int.reduceToNat, Nat.reduceAdd, noUnk, AV.cells, reduceCtorEq, Nat.reduceLeDiff, Cells.get, Cells.getN, Nat.reduceMul, ↓bnd_assoc]) (by simp only [a191, ↓sxp, sxq, ↓reduceIte, Nat.reduceBEq, Nat.reduceLT, evP, evX, evR, blkOf, evA, storeA, Nat.reduceEqDiff, resL, resV, oneOrTup, Int.reduceEq, Int.reduceLT, Int.reduceLE, Int.reduceNeg, Int.reduceAdd, Int.reduceSub, Int.reduceMul, Int.reduceToNat, Nat.reduceAdd, noUnk, AV.cells, reduceCtorEq, Nat.reduceLeDiff, Cells.get, Cells.getN, Nat.reduceMul, ↓bnd_assoc]) (by simp only [↓sxp, sxq, ↓reduceIte, Nat.reduceBEq, Nat.reduceLT, evP, evX, evR, blkOf, evA, storeA, Nat.reduceEqDiff, resL, resV, oneOrTup, Int.reduceEq, Int.reduceLT, Int.reduceLE, Int.reduceNeg, Int.reduceAdd, Int.reduceSub, Int.reduceMul, Int.reduceToNat, Nat.reduceAdd, noUnk, AV.cells, reduceCtorEq, Nat.reduceLeDiff, Cells.get, Cells.getN, Nat.reduceMul, ↓bnd_assoc]) h
theorem law_more (hE : EnvK E) (h6 : E 6 = some (.code sf6)) {ds : List Do1} {v : AV} (hv : Dos W ds v) {g : List Int} {gv : AV} (hg : g.length ≤ 9223372036854775807) (hgi : ∀ H, Is W H g gv []) {o : List Int} {ov : AV} (ho : o.length ≤ 9223372036854775807) (hoi : ∀ H, Is W H o ov []) :
    ∃ H', go W E 6 [v, gv, ov] ⟨0, .e, .e⟩ = some (.bool true, H') := by
  suffices Fin (fun r => r.1 = .bool true) (go W E 6 [v, gv, ov] ⟨0, .e, .e⟩) by
    obtain ⟨⟨r, H'⟩, e, hr⟩ := this
    simp only at hr
    subst hr
    exact ⟨H', e⟩
  have hlg := (hgi ⟨0, .e, .e⟩).len
  have hlo := (hoi ⟨0, .e, .e⟩).len
  have hn1 := fun H => n_count (W := W) (E := E) (H := H) hE
  have hn2 := fun H v => n_more (W := W) (E := E) (H := H) hE v
  have hn3 := fun H n => n_has (W := W) (E := E) (H := H) hE n
  have hn4 := fun H n => n_canp (W := W) (E := E) (H := H) hE n
  have hn5 := fun H => n_list (W := W) (E := E) (H := H) hE
  rw [go_code h6 (by simp [sf6])]
  simp only [sf6, ↓sxp, sxq, ↓reduceIte, Nat.reduceBEq, Nat.reduceLT, evP, evX, evR, blkOf, evA, storeA, Nat.reduceEqDiff, resL, resV, oneOrTup, Int.reduceEq, Int.reduceLT, Int.reduceLE, Int.reduceNeg, Int.reduceAdd, Int.reduceSub, Int.reduceMul, Int.reduceToNat, Nat.reduceAdd, noUnk, AV.cells, reduceCtorEq, Nat.reduceLeDiff, Cells.get, Cells.getN, Nat.reduceMul, ↓bnd_assoc]
  refine Fin.call (l_awake15 hE (Holds.nil HWf.empty)) fun H1 q1 => ?_
  simp only [hn1, hn2, hn3, hn4, hn5, show IntKind.i64.wrap 0 = 0 from by decide, show IntKind.i64.wrap (0 + ((0 : Nat) : Int)) = 0 from by decide, ↓sxp, sxq, ↓reduceIte, Nat.reduceBEq, Nat.reduceLT, evP, evX, evR, blkOf, evA, storeA, Nat.reduceEqDiff, resL, resV, oneOrTup, Int.reduceEq, Int.reduceLT, Int.reduceLE, Int.reduceNeg, Int.reduceAdd, Int.reduceSub, Int.reduceMul, Int.reduceToNat, Nat.reduceAdd, noUnk, AV.cells, reduceCtorEq, Nat.reduceLeDiff, Cells.get, Cells.getN, Nat.reduceMul, ↓bnd_assoc]
  refine Fin.call (l_few hE.t hv q1) fun H3 q3 => ?_
  cases hfw : (fewL ds && decide (ds.length ≤ 30)) with
  | false =>
    simp only [↓sxp, sxq, ↓reduceIte, Nat.reduceBEq, Nat.reduceLT, evP, evX, evR, blkOf, evA, storeA, Nat.reduceEqDiff, resL, resV, oneOrTup, Int.reduceEq, Int.reduceLT, Int.reduceLE, Int.reduceNeg, Int.reduceAdd, Int.reduceSub, Int.reduceMul, Int.reduceToNat, Nat.reduceAdd, noUnk, AV.cells, reduceCtorEq, Nat.reduceLeDiff, Cells.get, Cells.getN, Nat.reduceMul, ↓bnd_assoc]
    exact Fin.ret rfl
  | true =>
    obtain ⟨hf1, hf2⟩ := Bool.and_eq_true_iff.1 hfw
    have hf2 : ds.length ≤ 30 := by simpa using hf2
    by_cases hg30 : (30 : Int) < g.length
    · simp only [hlg, hg30, ↓sxp, sxq, ↓reduceIte, Nat.reduceBEq, Nat.reduceLT, evP, evX, evR, blkOf, evA, storeA, Nat.reduceEqDiff, resL, resV, oneOrTup, Int.reduceEq, Int.reduceLT, Int.reduceLE, Int.reduceNeg, Int.reduceAdd, Int.reduceSub, Int.reduceMul, Int.reduceToNat, Nat.reduceAdd, noUnk, AV.cells, reduceCtorEq, Nat.reduceLeDiff, Cells.get, Cells.getN, Nat.reduceMul, ↓bnd_assoc]
      exact Fin.ret rfl
    by_cases ho30 : (30 : Int) < o.length
    · simp only [hlg, hlo, hg30, ho30, ↓sxp, sxq, ↓reduceIte, Nat.reduceBEq, Nat.reduceLT, evP, evX, evR, blkOf, evA, storeA, Nat.reduceEqDiff, resL, resV, oneOrTup, Int.reduceEq, Int.reduceLT, Int.reduceLE, Int.reduceNeg, Int.reduceAdd, Int.reduceSub, Int.reduceMul, Int.reduceToNat, Nat.reduceAdd, noUnk, AV.cells, reduceCtorEq, Nat.reduceLeDiff, Cells.get, Cells.getN, Nat.reduceMul, ↓bnd_assoc]
      exact Fin.ret rfl
    simp only [hlg, hlo, hg30, ho30, ↓sxp, sxq, ↓reduceIte, Nat.reduceBEq, Nat.reduceLT, evP, evX, evR, blkOf, evA, storeA, Nat.reduceEqDiff, resL, resV, oneOrTup, Int.reduceEq, Int.reduceLT, Int.reduceLE, Int.reduceNeg, Int.reduceAdd, Int.reduceSub, Int.reduceMul, Int.reduceToNat, Nat.reduceAdd, noUnk, AV.cells, reduceCtorEq, Nat.reduceLeDiff, Cells.get, Cells.getN, Nat.reduceMul, ↓bnd_assoc]
    refine Fin.callE _ _ (l_made hE hv hf1 hf2 q3) fun x H4 q4 => ?_
    obtain ⟨p, S, vl⟩ := x
    obtain ⟨hgd, q5⟩ := q4.pure
    simp only at hgd q5
    have hw := hgd.wf
    have hw4 := hgd.w4
    have hS := hgd.len
    have hvl := (q5.ord [1]).row_len (by omega) (n := S.L.length) (flat3_len _)
    have hvl : lenV vl = some (.int .i64 (S.L.length : Int)) := by obtain ⟨a, c, rfl⟩ := hvl; rfl
    simp only [↓sxp, sxq, ↓reduceIte, Nat.reduceBEq, Nat.reduceLT, evP, evX, evR, blkOf, evA, storeA, Nat.reduceEqDiff, resL, resV, oneOrTup, Int.reduceEq, Int.reduceLT, Int.reduceLE, Int.reduceNeg, Int.reduceAdd, Int.reduceSub, Int.reduceMul, Int.reduceToNat, Nat.reduceAdd, noUnk, AV.cells, reduceCtorEq, Nat.reduceLeDiff, Cells.get, Cells.getN, Nat.reduceMul, ↓bnd_assoc]
    have q6 : Holds H4 (storeP W p S :: isP W g gv :: isP W o ov :: row 33 3 (flat3 S.L) vl :: []) := ((q5.fresh (A := isP W g gv) (hgi _)).fresh (A := isP W o ov) (hoi _)).ord [2, 1]
    obtain ⟨m1, m2⟩ := p_from hE q6 hw hw4 (by omega) (by omega)
    cases hin : inR S.L.length g with
    | false =>
      refine Fin.call (m1 hin) fun H5 q7 => ?_
      have hr := k_right hE (q7.ord [1]) (by omega) hvl
      rw [hin] at hr
      simp only [hr, ↓sxp, sxq, ↓reduceIte, Nat.reduceBEq, Nat.reduceLT, evP, evX, evR, blkOf, evA, storeA, Nat.reduceEqDiff, resL, resV, oneOrTup, Int.reduceEq, Int.reduceLT, Int.reduceLE, Int.reduceNeg, Int.reduceAdd, Int.reduceSub, Int.reduceMul, Int.reduceToNat, Nat.reduceAdd, noUnk, AV.cells, reduceCtorEq, Nat.reduceLeDiff, Cells.get, Cells.getN, Nat.reduceMul, ↓bnd_assoc]
      exact Fin.ret rfl
    | true =>
      refine Fin.callE _ _ (m2 hin) fun x H5 q7 => ?_
      obtain ⟨k, hs⟩ := x
      obtain ⟨hc, q8⟩ := q7.pure
      simp only at hc q8
      simp only [↓sxp, sxq, ↓reduceIte, Nat.reduceBEq, Nat.reduceLT, evP, evX, evR, blkOf, evA, storeA, Nat.reduceEqDiff, resL, resV, oneOrTup, Int.reduceEq, Int.reduceLT, Int.reduceLE, Int.reduceNeg, Int.reduceAdd, Int.reduceSub, Int.reduceMul, Int.reduceToNat, Nat.reduceAdd, noUnk, AV.cells, reduceCtorEq, Nat.reduceLeDiff, Cells.get, Cells.getN, Nat.reduceMul, ↓bnd_assoc]
      refine Fin.callE _ _ (p_list hE q8 (by omega)) fun wv H6 q9 => ?_
      simp only [↓sxp, sxq, ↓reduceIte, Nat.reduceBEq, Nat.reduceLT, evP, evX, evR, blkOf, evA, storeA, Nat.reduceEqDiff, resL, resV, oneOrTup, Int.reduceEq, Int.reduceLT, Int.reduceLE, Int.reduceNeg, Int.reduceAdd, Int.reduceSub, Int.reduceMul, Int.reduceToNat, Nat.reduceAdd, noUnk, AV.cells, reduceCtorEq, Nat.reduceLeDiff, Cells.get, Cells.getN, Nat.reduceMul, ↓bnd_assoc]
      have hcl : (lstK hs).length = cnt hs := lstF_len hs 0
      have hcn := cnt_le hs
      have hcL := hc.len
      obtain ⟨n1, n2⟩ := p_more hE (q9.ord [1, 3]) hw hw4 (by omega) (by omega) hc
      cases hio : inR S.L.length o with
      | false =>
        refine Fin.call (n1 hio) fun H7 r1 => ?_
        have hr := k_right hE (r1.ord [1]) (by omega) hvl
        rw [hio] at hr
        simp only [hr, ↓sxp, sxq, ↓reduceIte, Nat.reduceBEq, Nat.reduceLT, evP, evX, evR, blkOf, evA, storeA, Nat.reduceEqDiff, resL, resV, oneOrTup, Int.reduceEq, Int.reduceLT, Int.reduceLE, Int.reduceNeg, Int.reduceAdd, Int.reduceSub, Int.reduceMul, Int.reduceToNat, Nat.reduceAdd, noUnk, AV.cells, reduceCtorEq, Nat.reduceLeDiff, Cells.get, Cells.getN, Nat.reduceMul, ↓bnd_assoc]
        refine Fin.callE _ _ (p_list hE r1 (by omega)) fun v2 H8 r2 => ?_
        simp only [↓sxp, sxq, ↓reduceIte, Nat.reduceBEq, Nat.reduceLT, evP, evX, evR, blkOf, evA, storeA, Nat.reduceEqDiff, resL, resV, oneOrTup, Int.reduceEq, Int.reduceLT, Int.reduceLE, Int.reduceNeg, Int.reduceAdd, Int.reduceSub, Int.reduceMul, Int.reduceToNat, Nat.reduceAdd, noUnk, AV.cells, reduceCtorEq, Nat.reduceLeDiff, Cells.get, Cells.getN, Nat.reduceMul, ↓bnd_assoc]
        refine Fin.call (k_ints hE (r2.ord [0, 2]) (by omega)) fun H9 r3 => ?_
        simp only [decide_true, ↓sxp, sxq, ↓reduceIte, Nat.reduceBEq, Nat.reduceLT, evP, evX, evR, blkOf, evA, storeA, Nat.reduceEqDiff, resL, resV, oneOrTup, Int.reduceEq, Int.reduceLT, Int.reduceLE, Int.reduceNeg, Int.reduceAdd, Int.reduceSub, Int.reduceMul, Int.reduceToNat, Nat.reduceAdd, noUnk, AV.cells, reduceCtorEq, Nat.reduceLeDiff, Cells.get, Cells.getN, Nat.reduceMul, ↓bnd_assoc]
        exact Fin.ret rfl
      | true =>
        obtain ⟨hs', c1, le1, e⟩ := n2 hio
        refine Fin.call e fun H7 r1 => ?_
        have hr := k_right hE (r1.ord [1]) (by omega) hvl
        rw [hio] at hr
        simp only [hr, ↓sxp, sxq, ↓reduceIte, Nat.reduceBEq, Nat.reduceLT, evP, evX, evR, blkOf, evA, storeA, Nat.reduceEqDiff, resL, resV, oneOrTup, Int.reduceEq, Int.reduceLT, Int.reduceLE, Int.reduceNeg, Int.reduceAdd, Int.reduceSub, Int.reduceMul, Int.reduceToNat, Nat.reduceAdd, noUnk, AV.cells, reduceCtorEq, Nat.reduceLeDiff, Cells.get, Cells.getN, Nat.reduceMul, ↓bnd_assoc]
        have r2 := ap_start (r1.push (c := []) (t := 3))
        refine Fin.ap (r2.ord [0, 1]) (by simp; omega) fun v3 H8 r3 => ?_
        simp only [↓sxp, sxq, ↓reduceIte, Nat.reduceBEq, Nat.reduceLT, evP, evX, evR, blkOf, evA, storeA, Nat.reduceEqDiff, resL, resV, oneOrTup, Int.reduceEq, Int.reduceLT, Int.reduceLE, Int.reduceNeg, Int.reduceAdd, Int.reduceSub, Int.reduceMul, Int.reduceToNat, Nat.reduceAdd, noUnk, AV.cells, reduceCtorEq, Nat.reduceLeDiff, Cells.get, Cells.getN, Nat.reduceMul, ↓bnd_assoc]
        refine Fin.ap (r3.ord [0, 4]) (by simp; omega) fun v4 H9 r4 => ?_
        have hio2 : inR S.L.length ([] ++ o ++ g) = true := by
          have h1 := hio
          have h2 := hin
          simp only [inR] at h1 h2 ⊢
          rw [List.nil_append, List.all_append, h1, h2]; rfl
        have r5 := (ap_is (W := W) r4).ord [5]
        simp only [↓sxp, sxq, ↓reduceIte, Nat.reduceBEq, Nat.reduceLT, evP, evX, evR, blkOf, evA, storeA, Nat.reduceEqDiff, resL, resV, oneOrTup, Int.reduceEq, Int.reduceLT, Int.reduceLE, Int.reduceNeg, Int.reduceAdd, Int.reduceSub, Int.reduceMul, Int.reduceToNat, Nat.reduceAdd, noUnk, AV.cells, reduceCtorEq, Nat.reduceLeDiff, Cells.get, Cells.getN, Nat.reduceMul, ↓bnd_assoc]
        refine Fin.callE _ _ ((p_from hE r5 hw hw4 (by omega) (by simp; omega)).2 hio2) fun x H10 r6 => ?_
        obtain ⟨ka, ha⟩ := x
        obtain ⟨ca, r7⟩ := r6.pure
        simp only at ca r7
        have ea : ha = hs' := (ca.congr (Q := fun j => inG g j ∨ inG o j) fun j => by
          constructor
          · rintro ⟨x, h1, h2⟩
            rcases List.mem_append.1 h1 with h1 | h1
            · exact .inr ⟨x, by simpa using h1, h2⟩
            · exact .inl ⟨x, h1, h2⟩
          · rintro (⟨x, h1, h2⟩ | ⟨x, h1, h2⟩)
            · exact ⟨x, by simp [h1], h2⟩
            · exact ⟨x, by simp [h1], h2⟩).uniq c1
        subst ea
        simp only [↓sxp, sxq, ↓reduceIte, Nat.reduceBEq, Nat.reduceLT, evP, evX, evR, blkOf, evA, storeA, Nat.reduceEqDiff, resL, resV, oneOrTup, Int.reduceEq, Int.reduceLT, Int.reduceLE, Int.reduceNeg, Int.reduceAdd, Int.reduceSub, Int.reduceMul, Int.reduceToNat, Nat.reduceAdd, noUnk, AV.cells, reduceCtorEq, Nat.reduceLeDiff, Cells.get, Cells.getN, Nat.reduceMul, ↓bnd_assoc]
        have r8 : Holds H10 (storeP W p S :: isP W [] (.sl none 0 (.exact 0)) :: knP ka S.L ha :: isP W ([] ++ o ++ g) v4 :: isP W g gv :: isP W o ov :: knP k S.L ha :: isP W (lstK hs) wv :: row 33 3 (flat3 S.L) vl :: []) := (r7.fresh (A := isP W [] (.sl none 0 (.exact 0))) (Is.nil rfl)).ord [2]
        refine Fin.callE _ _ ((p_from hE r8 hw hw4 (by omega) (by simp)).2 rfl) fun x H11 s1 => ?_
        obtain ⟨kb, hb0⟩ := x
        obtain ⟨cb0, s2⟩ := s1.pure
        simp only at cb0 s2
        have s3 : Holds H11 (knP kb S.L hb0 :: isP W g gv :: storeP W p S :: knP ka S.L ha :: isP W o ov :: knP k S.L ha :: isP W (lstK hs) wv :: row 33 3 (flat3 S.L) vl :: []) := (((s2.rm 2).rm 3).ord [0, 2, 0])
        simp only [hlg, ↓sxp, sxq, ↓reduceIte, Nat.reduceBEq, Nat.reduceLT, evP, evX, evR, blkOf, evA, storeA, Nat.reduceEqDiff, resL, resV, oneOrTup, Int.reduceEq, Int.reduceLT, Int.reduceLE, Int.reduceNeg, Int.reduceAdd, Int.reduceSub, Int.reduceMul, Int.reduceToNat, Nat.reduceAdd, noUnk, AV.cells, reduceCtorEq, Nat.reduceLeDiff, Cells.get, Cells.getN, Nat.reduceMul, ↓bnd_assoc]
        refine Fin.loop (more_back (P := inG []) hE hw hw4 (by omega) (by omega) hin g.length 0 _ _ hb0 (by omega) (cb0.congr fun j => by simp [inG]) (by simp only [↓sxp, sxq, ↓reduceIte, Nat.reduceBEq, Nat.reduceLT, evP, evX, evR, blkOf, evA, storeA, Nat.reduceEqDiff, resL, resV, oneOrTup, Int.reduceEq, Int.reduceLT, Int.reduceLE, Int.reduceNeg, Int.reduceAdd, Int.reduceSub, Int.reduceMul, Int.reduceToNat, Nat.reduceAdd, noUnk, AV.cells, reduceCtorEq, Nat.reduceLeDiff, Cells.get, Cells.getN, Nat.reduceMul, ↓bnd_assoc]) (by simp only [↓sxp, sxq, ↓reduceIte, Nat.reduceBEq, Nat.reduceLT, evP, evX, evR, blkOf, evA, storeA, Nat.reduceEqDiff, resL, resV, oneOrTup, Int.reduceEq, Int.reduceLT, Int.reduceLE, Int.reduceNeg, Int.reduceAdd, Int.reduceSub, Int.reduceMul, Int.reduceToNat, Nat.reduceAdd, noUnk, AV.cells, reduceCtorEq, Nat.reduceLeDiff, Cells.get, Cells.getN, Nat.reduceMul, ↓bnd_assoc]) (by simp only [↓sxp, sxq, ↓reduceIte, Nat.reduceBEq, Nat.reduceLT, evP, evX, evR, blkOf, evA, storeA, Nat.reduceEqDiff, resL, resV, oneOrTup, Int.reduceEq, Int.reduceLT, Int.reduceLE, Int.reduceNeg, Int.reduceAdd, Int.reduceSub, Int.reduceMul, Int.reduceToNat, Nat.reduceAdd, noUnk, AV.cells, reduceCtorEq, Nat.reduceLeDiff, Cells.get, Cells.getN, Nat.reduceMul, ↓bnd_assoc]) (by simp only [↓sxp, sxq, ↓reduceIte, Nat.reduceBEq, Nat.reduceLT, evP, evX, evR, blkOf, evA, storeA, Nat.reduceEqDiff, resL, resV, oneOrTup, Int.reduceEq, Int.reduceLT, Int.reduceLE, Int.reduceNeg, Int.reduceAdd, Int.reduceSub, Int.reduceMul, Int.reduceToNat, Nat.reduceAdd, noUnk, AV.cells, reduceCtorEq, Nat.reduceLeDiff, Cells.get, Cells.getN, Nat.reduceMul, ↓bnd_assoc]; rfl) s3) fun lv A H12 ⟨hlv, hrg, hb1, cb1, s4⟩ => ?_
        subst hlv
        have a2 := hrg 2 (by simp)
        have a6 := hrg 6 (by simp)
        have a10 := hrg 10 (by simp)
        have a12 := hrg 12 (by simp)
        have a14 := hrg 14 (by simp)
        have a16 := hrg 16 (by simp)
        have a18 := hrg 18 (by simp)
        simp only [↓sxp, sxq, ↓reduceIte, Nat.reduceBEq, Nat.reduceLT, evP, evX, evR, blkOf, evA, storeA, Nat.reduceEqDiff, resL, resV, oneOrTup, Int.reduceEq, Int.reduceLT, Int.reduceLE, Int.reduceNeg, Int.reduceAdd, Int.reduceSub, Int.reduceMul, Int.reduceToNat, Nat.reduceAdd, noUnk, AV.cells, reduceCtorEq, Nat.reduceLeDiff, Cells.get, Cells.getN, Nat.reduceMul, ↓bnd_assoc] at a2 a6 a10 a12 a14 a16 a18
        clear hrg
        simp only [a2, hlo, ↓sxp, sxq, ↓reduceIte, Nat.reduceBEq, Nat.reduceLT, evP, evX, evR, blkOf, evA, storeA, Nat.reduceEqDiff, resL, resV, oneOrTup, Int.reduceEq, Int.reduceLT, Int.reduceLE, Int.reduceNeg, Int.reduceAdd, Int.reduceSub, Int.reduceMul, Int.reduceToNat, Nat.reduceAdd, noUnk, AV.cells, reduceCtorEq, Nat.reduceLeDiff, Cells.get, Cells.getN, Nat.reduceMul, ↓bnd_assoc]
        refine Fin.loop (more_fwd (P := fun j => inG [] j ∨ inG g.reverse j) hE hw hw4 (by omega) (by omega) hio o.length 0 _ _ hb1 (by omega) (cb1.congr fun j => by simp [inG]) (by simp only [↓sxp, sxq, ↓reduceIte, Nat.reduceBEq, Nat.reduceLT, evP, evX, evR, blkOf, evA, storeA, Nat.reduceEqDiff, resL, resV, oneOrTup, Int.reduceEq, Int.reduceLT, Int.reduceLE, Int.reduceNeg, Int.reduceAdd, Int.reduceSub, Int.reduceMul, Int.reduceToNat, Nat.reduceAdd, noUnk, AV.cells, reduceCtorEq, Nat.reduceLeDiff, Cells.get, Cells.getN, Nat.reduceMul, ↓bnd_assoc]) (by simp only [a18, ↓sxp, sxq, ↓reduceIte, Nat.reduceBEq, Nat.reduceLT, evP, evX, evR, blkOf, evA, storeA, Nat.reduceEqDiff, resL, resV, oneOrTup, Int.reduceEq, Int.reduceLT, Int.reduceLE, Int.reduceNeg, Int.reduceAdd, Int.reduceSub, Int.reduceMul, Int.reduceToNat, Nat.reduceAdd, noUnk, AV.cells, reduceCtorEq, Nat.reduceLeDiff, Cells.get, Cells.getN, Nat.reduceMul, ↓bnd_assoc]) (by simp only [↓sxp, sxq, ↓reduceIte, Nat.reduceBEq, Nat.reduceLT, evP, evX, evR, blkOf, evA, storeA, Nat.reduceEqDiff, resL, resV, oneOrTup, Int.reduceEq, Int.reduceLT, Int.reduceLE, Int.reduceNeg, Int.reduceAdd, Int.reduceSub, Int.reduceMul, Int.reduceToNat, Nat.reduceAdd, noUnk, AV.cells, reduceCtorEq, Nat.reduceLeDiff, Cells.get, Cells.getN, Nat.reduceMul, ↓bnd_assoc]) (by simp only [↓sxp, sxq, ↓reduceIte, Nat.reduceBEq, Nat.reduceLT, evP, evX, evR, blkOf, evA, storeA, Nat.reduceEqDiff, resL, resV, oneOrTup, Int.reduceEq, Int.reduceLT, Int.reduceLE, Int.reduceNeg, Int.reduceAdd, Int.reduceSub, Int.reduceMul, Int.reduceToNat, Nat.reduceAdd, noUnk, AV.cells, reduceCtorEq, Nat.reduceLeDiff, Cells.get, Cells.getN, Nat.reduceMul, ↓bnd_assoc]; rfl) (s4.ord [0, 3])) fun lv A2 H13 ⟨hlv, hrg, hb2, cb2, s5⟩ => ?_
        subst hlv
        have b10 := hrg 10 (by simp)
        have b12 := hrg 12 (by simp)
        have b14 := hrg 14 (by simp)
        have b16 := hrg 16 (by simp)
        have b18 := hrg 18 (by simp)
        simp only [a10, a12, a14, a16, a18, ↓sxp, sxq, ↓reduceIte, Nat.reduceBEq, Nat.reduceLT, evP, evX, evR, blkOf, evA, storeA, Nat.reduceEqDiff, resL, resV, oneOrTup, Int.reduceEq, Int.reduceLT, Int.reduceLE, Int.reduceNeg, Int.reduceAdd, Int.reduceSub, Int.reduceMul, Int.reduceToNat, Nat.reduceAdd, noUnk, AV.cells, reduceCtorEq, Nat.reduceLeDiff, Cells.get, Cells.getN, Nat.reduceMul, ↓bnd_assoc] at b10 b12 b14 b16 b18
        clear hrg
        have eb : hb2 = ha := (cb2.congr (Q := fun j => inG g j ∨ inG o j) fun j => by simp [inG]).uniq c1
        subst eb
        have s6 : Holds H13 (knP k S.L hb2 :: knP kb S.L hb2 :: isP W o ov :: isP W g gv :: storeP W p S :: knP ka S.L hb2 :: isP W (lstK hs) wv :: row 33 3 (flat3 S.L) vl :: []) := s5.ord [5]
        simp only [b10, b12, ↓sxp, sxq, ↓reduceIte, Nat.reduceBEq, Nat.reduceLT, evP, evX, evR, blkOf, evA, storeA, Nat.reduceEqDiff, resL, resV, oneOrTup, Int.reduceEq, Int.reduceLT, Int.reduceLE, Int.reduceNeg, Int.reduceAdd, Int.reduceSub, Int.reduceMul, Int.reduceToNat, Nat.reduceAdd, noUnk, AV.cells, reduceCtorEq, Nat.reduceLeDiff, Cells.get, Cells.getN, Nat.reduceMul, ↓bnd_assoc]
        refine Fin.callE _ _ (p_list hE s6 (by omega)) fun vk H14 s7 => ?_
        have hkr : inR S.L.length (lstK hb2) = true := lstF_range hb2 0 _ (by rw [c1.len]; omega)
        have hkl : (lstK hb2).length = cnt hb2 := lstF_len hb2 0
        have hkc := cnt_le hb2
        have hkL := c1.len
        simp only [↓sxp, sxq, ↓reduceIte, Nat.reduceBEq, Nat.reduceLT, evP, evX, evR, blkOf, evA, storeA, Nat.reduceEqDiff, resL, resV, oneOrTup, Int.reduceEq, Int.reduceLT, Int.reduceLE, Int.reduceNeg, Int.reduceAdd, Int.reduceSub, Int.reduceMul, Int.reduceToNat, Nat.reduceAdd, noUnk, AV.cells, reduceCtorEq, Nat.reduceLeDiff, Cells.get, Cells.getN, Nat.reduceMul, ↓bnd_assoc]
        refine Fin.callE _ _ ((p_from hE (s7.ord [5]) hw hw4 (by omega) (by omega)).2 hkr) fun x H15 t1 => ?_
        obtain ⟨kc, hc2⟩ := x
        obtain ⟨cc, t2⟩ := t1.pure
        simp only at cc t2
        have ec : hc2 = hb2 := (cc.congr (Q := fun j => hb2.getD j false = true) fun j => lstK_in j).uniq c1.self
        subst ec
        have t3 : Holds H15 (knP ka S.L hc2 :: knP k S.L hc2 :: knP kb S.L hc2 :: knP kc S.L hc2 :: isP W (lstK hs) wv :: []) := (((((t2.rm 9).rm 6).rm 5).rm 2).rm 1).ord [3, 1, 1, 0]
        simp only [b12, b16, ↓sxp, sxq, ↓reduceIte, Nat.reduceBEq, Nat.reduceLT, evP, evX, evR, blkOf, evA, storeA, Nat.reduceEqDiff, resL, resV, oneOrTup, Int.reduceEq, Int.reduceLT, Int.reduceLE, Int.reduceNeg, Int.reduceAdd, Int.reduceSub, Int.reduceMul, Int.reduceToNat, Nat.reduceAdd, noUnk, AV.cells, reduceCtorEq, Nat.reduceLeDiff, Cells.get, Cells.getN, Nat.reduceMul, ↓bnd_assoc]
        refine Fin.callE _ _ (p_list hE t3 (by omega)) fun v5 H16 t4 => ?_
        simp only [b12, ↓sxp, sxq, ↓reduceIte, Nat.reduceBEq, Nat.reduceLT, evP, evX, evR, blkOf, evA, storeA, Nat.reduceEqDiff, resL, resV, oneOrTup, Int.reduceEq, Int.reduceLT, Int.reduceLE, Int.reduceNeg, Int.reduceAdd, Int.reduceSub, Int.reduceMul, Int.reduceToNat, Nat.reduceAdd, noUnk, AV.cells, reduceCtorEq, Nat.reduceLeDiff, Cells.get, Cells.getN, Nat.reduceMul, ↓bnd_assoc]
        refine Fin.callE _ _ (p_list hE (t4.ord [2]) (by omega)) fun v6 H17 t5 => ?_
        simp only [↓sxp, sxq, ↓reduceIte, Nat.reduceBEq, Nat.reduceLT, evP, evX, evR, blkOf, evA, storeA, Nat.reduceEqDiff, resL, resV, oneOrTup, Int.reduceEq, Int.reduceLT, Int.reduceLE, Int.reduceNeg, Int.reduceAdd, Int.reduceSub, Int.reduceMul, Int.reduceToNat, Nat.reduceAdd, noUnk, AV.cells, reduceCtorEq, Nat.reduceLeDiff, Cells.get, Cells.getN, Nat.reduceMul, ↓bnd_assoc]
        refine Fin.call (k_ints hE (t5.ord [2, 0]) (by omega)) fun H18 t6 => ?_
        have t6 : Holds H18 (isP W (lstK hc2) v5 :: isP W (lstK hc2) v6 :: knP k S.L hc2 :: knP ka S.L hc2 :: knP kb S.L hc2 :: knP kc S.L hc2 :: isP W (lstK hs) wv :: []) := t6
        simp only [decide_true, b12, b18, ↓sxp, sxq, ↓reduceIte, Nat.reduceBEq, Nat.reduceLT, evP, evX, evR, blkOf, evA, storeA, Nat.reduceEqDiff, resL, resV, oneOrTup, Int.reduceEq, Int.reduceLT, Int.reduceLE, Int.reduceNeg, Int.reduceAdd, Int.reduceSub, Int.reduceMul, Int.reduceToNat, Nat.reduceAdd, noUnk, AV.cells, reduceCtorEq, Nat.reduceLeDiff, Cells.get, Cells.getN, Nat.reduceMul, ↓bnd_assoc]
        refine Fin.callE _ _ (p_list hE (t6.tail.tail.ord [2]) (by omega)) fun v7 H19 t7 => ?_
        simp only [b12, ↓sxp, sxq, ↓reduceIte, Nat.reduceBEq, Nat.reduceLT, evP, evX, evR, blkOf, evA, storeA, Nat.reduceEqDiff, resL, resV, oneOrTup, Int.reduceEq, Int.reduceLT, Int.reduceLE, Int.reduceNeg, Int.reduceAdd, Int.reduceSub, Int.reduceMul, Int.reduceToNat, Nat.reduceAdd, noUnk, AV.cells, reduceCtorEq, Nat.reduceLeDiff, Cells.get, Cells.getN, Nat.reduceMul, ↓bnd_assoc]
        refine Fin.callE _ _ (p_list hE (t7.ord [2]) (by omega)) fun v8 H20 t8 => ?_
        simp only [↓sxp, sxq, ↓reduceIte, Nat.reduceBEq, Nat.reduceLT, evP, evX, evR, blkOf, evA, storeA, Nat.reduceEqDiff, resL, resV, oneOrTup, Int.reduceEq, Int.reduceLT, Int.reduceLE, Int.reduceNeg, Int.reduceAdd, Int.reduceSub, Int.reduceMul, Int.reduceToNat, Nat.reduceAdd, noUnk, AV.cells, reduceCtorEq, Nat.reduceLeDiff, Cells.get, Cells.getN, Nat.reduceMul, ↓bnd_assoc]
        refine Fin.call (k_ints hE (t8.ord [2, 0]) (by omega)) fun H21 t9 => ?_
        have t9 : Holds H21 (isP W (lstK hc2) v7 :: isP W (lstK hc2) v8 :: knP k S.L hc2 :: knP kb S.L hc2 :: knP ka S.L hc2 :: knP kc S.L hc2 :: isP W (lstK hs) wv :: []) := t9
        simp only [decide_true, b12, ↓sxp, sxq, ↓reduceIte, Nat.reduceBEq, Nat.reduceLT, evP, evX, evR, blkOf, evA, storeA, Nat.reduceEqDiff, resL, resV, oneOrTup, Int.reduceEq, Int.reduceLT, Int.reduceLE, Int.reduceNeg, Int.reduceAdd, Int.reduceSub, Int.reduceMul, Int.reduceToNat, Nat.reduceAdd, noUnk, AV.cells, reduceCtorEq, Nat.reduceLeDiff, Cells.get, Cells.getN, Nat.reduceMul, ↓bnd_assoc]
        refine Fin.callE _ _ (p_list hE (t9.tail.tail.ord [3]) (by omega)) fun v10 H22 u1 => ?_
        simp only [b12, ↓sxp, sxq, ↓reduceIte, Nat.reduceBEq, Nat.reduceLT, evP, evX, evR, blkOf, evA, storeA, Nat.reduceEqDiff, resL, resV, oneOrTup, Int.reduceEq, Int.reduceLT, Int.reduceLE, Int.reduceNeg, Int.reduceAdd, Int.reduceSub, Int.reduceMul, Int.reduceToNat, Nat.reduceAdd, noUnk, AV.cells, reduceCtorEq, Nat.reduceLeDiff, Cells.get, Cells.getN, Nat.reduceMul, ↓bnd_assoc]
        refine Fin.callE _ _ (p_list hE (u1.ord [2]) (by omega)) fun v11 H23 u2 => ?_
        simp only [↓sxp, sxq, ↓reduceIte, Nat.reduceBEq, Nat.reduceLT, evP, evX, evR, blkOf, evA, storeA, Nat.reduceEqDiff, resL, resV, oneOrTup, Int.reduceEq, Int.reduceLT, Int.reduceLE, Int.reduceNeg, Int.reduceAdd, Int.reduceSub, Int.reduceMul, Int.reduceToNat, Nat.reduceAdd, noUnk, AV.cells, reduceCtorEq, Nat.reduceLeDiff, Cells.get, Cells.getN, Nat.reduceMul, ↓bnd_assoc]
        refine Fin.call (k_ints hE (u2.ord [2, 0]) (by omega)) fun H24 u3 => ?_
        have u3 : Holds H24 (isP W (lstK hc2) v10 :: isP W (lstK hc2) v11 :: knP k S.L hc2 :: knP kc S.L hc2 :: knP kb S.L hc2 :: knP ka S.L hc2 :: isP W (lstK hs) wv :: []) := u3
        have u4 : Holds H24 (knP k S.L hc2 :: isP W (lstK hs) wv :: knP kc S.L hc2 :: knP kb S.L hc2 :: knP ka S.L hc2 :: []) := u3.tail.tail.ord [0, 3]
        obtain ⟨ids, hwi⟩ := (u4.ord [1]).is_get
        have hwl := hwi.len
        have hall : ∀ x ∈ lstK hs, hasK hc2 x = true ∧ hasK (mkZ S.L hc2) x = true := fun x hx => by
          obtain ⟨x0, x1⟩ := fn_of (lstF_range hs 0 S.L.length (by rw [hcL]; omega)) x hx
          have h1 := le1 _ ((lstK_in x.toNat).1 ⟨x, hx, rfl⟩)
          exact ⟨hasK_of x0 (by rw [hkL]; exact x1) h1, hasK_of x0 (by rw [mkZ_len]; exact x1) (mkZ_has hkL _ h1)⟩
        simp only [decide_true, b14, hwl, ↓sxp, sxq, ↓reduceIte, Nat.reduceBEq, Nat.reduceLT, evP, evX, evR, blkOf, evA, storeA, Nat.reduceEqDiff, resL, resV, oneOrTup, Int.reduceEq, Int.reduceLT, Int.reduceLE, Int.reduceNeg, Int.reduceAdd, Int.reduceSub, Int.reduceMul, Int.reduceToNat, Nat.reduceAdd, noUnk, AV.cells, reduceCtorEq, Nat.reduceLeDiff, Cells.get, Cells.getN, Nat.reduceMul, ↓bnd_assoc]
        refine Fin.loop (was_loop hE (by omega) hall (lstK hs).length 0 _ _ (by omega) (by simp only [↓sxp, sxq, ↓reduceIte, Nat.reduceBEq, Nat.reduceLT, evP, evX, evR, blkOf, evA, storeA, Nat.reduceEqDiff, resL, resV, oneOrTup, Int.reduceEq, Int.reduceLT, Int.reduceLE, Int.reduceNeg, Int.reduceAdd, Int.reduceSub, Int.reduceMul, Int.reduceToNat, Nat.reduceAdd, noUnk, AV.cells, reduceCtorEq, Nat.reduceLeDiff, Cells.get, Cells.getN, Nat.reduceMul, ↓bnd_assoc]) (by simp only [b12, ↓sxp, sxq, ↓reduceIte, Nat.reduceBEq, Nat.reduceLT, evP, evX, evR, blkOf, evA, storeA, Nat.reduceEqDiff, resL, resV, oneOrTup, Int.reduceEq, Int.reduceLT, Int.reduceLE, Int.reduceNeg, Int.reduceAdd, Int.reduceSub, Int.reduceMul, Int.reduceToNat, Nat.reduceAdd, noUnk, AV.cells, reduceCtorEq, Nat.reduceLeDiff, Cells.get, Cells.getN, Nat.reduceMul, ↓bnd_assoc]) (by simp only [↓sxp, sxq, ↓reduceIte, Nat.reduceBEq, Nat.reduceLT, evP, evX, evR, blkOf, evA, storeA, Nat.reduceEqDiff, resL, resV, oneOrTup, Int.reduceEq, Int.reduceLT, Int.reduceLE, Int.reduceNeg, Int.reduceAdd, Int.reduceSub, Int.reduceMul, Int.reduceToNat, Nat.reduceAdd, noUnk, AV.cells, reduceCtorEq, Nat.reduceLeDiff, Cells.get, Cells.getN, Nat.reduceMul, ↓bnd_assoc]) (by simp only [↓sxp, sxq, ↓reduceIte, Nat.reduceBEq, Nat.reduceLT, evP, evX, evR, blkOf, evA, storeA, Nat.reduceEqDiff, resL, resV, oneOrTup, Int.reduceEq, Int.reduceLT, Int.reduceLE, Int.reduceNeg, Int.reduceAdd, Int.reduceSub, Int.reduceMul, Int.reduceToNat, Nat.reduceAdd, noUnk, AV.cells, reduceCtorEq, Nat.reduceLeDiff, Cells.get, Cells.getN, Nat.reduceMul, ↓bnd_assoc]; rfl) u4) fun lv A3 H25 hlv => ?_
        subst hlv
        simp only [↓sxp, sxq, ↓reduceIte, Nat.reduceBEq, Nat.reduceLT, evP, evX, evR, blkOf, evA, storeA, Nat.reduceEqDiff, resL, resV, oneOrTup, Int.reduceEq, Int.reduceLT, Int.reduceLE, Int.reduceNeg, Int.reduceAdd, Int.reduceSub, Int.reduceMul, Int.reduceToNat, Nat.reduceAdd, noUnk, AV.cells, reduceCtorEq, Nat.reduceLeDiff, Cells.get, Cells.getN, Nat.reduceMul, ↓bnd_assoc]
        exact Fin.ret rfl
end
end Go.Proofs.Ytnfehkjkmlbceaa.Sx

/- Lists of numbers that are given. -/
namespace Go.Proofs.Ytnfehkjkmlbceaa.Sx
open Go.Proofs
open Go.RowKit Go.WideShapes Go.ChangeShapes
theorem ints_in {W : World} {H : Type} {enc' : TypeId × Value → H} {hd : Bool} {base : Nat} {v : Value} {d : DataW H} {ps : List MemPlace} (hv : Value.okWide Try.prog W .any base 54 v) (h : DataW.Trod enc' Try.prog W 0 (fun _ => true) hd 54 v d ps) :
    ∃ av g, VR ⟨fun _ => none, fun _ => 0⟩ av v ∧ g.length ≤ 9223372036854775807 ∧ ∀ H, Is W H g av [] := by
  obtain ⟨a0, len0, cap0, rfl⟩ := WideShapes.okWide_slice Try.underlying54 hv
  obtain ⟨n, h⟩ := h
  rcases DataW.trod_slice Try.underlying54 h with ⟨hc, _⟩ | ⟨a, len, cap, elems, rest, m, _, hc, _, _, hlc, hm, hlen, hel, _, _⟩
  · simp only [Value.cells, List.cons.injEq, Value.slice.injEq, and_true] at hc
    obtain ⟨rfl, rfl, rfl⟩ := hc
    exact ⟨.sl none 0 (.exact 0), [], .slN 0 0, by simp, fun H => .nil rfl⟩
  · simp only [Value.cells, List.cons.injEq, Value.slice.injEq, and_true] at hc
    obtain ⟨rfl, rfl, rfl⟩ := hc
    rw [cells3] at hel
    by_cases h0 : len0 = 0
    · subst h0
      exact ⟨.emp, [], .emp a cap0, by simp, fun H => .emp rfl⟩
    · have each : ∀ i, i < len0 → ∃ k : Int, W.cell? (a.add i) = some (.int .i64 k) := fun i hi => by
        have := hel i hi
        rw [List.getElem?_eq_getElem (by omega), Option.bind_eq_some_iff, Nat.mul_one] at this
        obtain ⟨cs', h1, h2⟩ := this
        obtain ⟨k, rfl, _, _⟩ := DataW.trod_int Try.underlying3 h2
        exact ⟨k, ChangeShapes.cell_of_cells?_one h1⟩
      obtain ⟨F, hF⟩ := Deep.choose_lt each
      have hb0 := hF 0 (by omega)
      have e0 : a.add 0 = a := by unfold Addr.add; cases a; simp
      rw [e0] at hb0
      have hspot := World.cell?_spot hb0
      have hall : W.cells? 0 a len0 = some ((List.range len0).map fun i => .int .i64 (F i)) := by
        unfold World.cells?
        rw [if_pos (Nat.zero_le _)]
        exact ChangeShapes.mapM_range_of len0 fun i hi => hF i hi
      obtain ⟨_, c, hblk, hg⟩ := cells_old hall (by omega)
      obtain ⟨ab, ao, asp⟩ := a
      simp only at hspot
      subst hspot
      have hlen' : ((List.range len0).map F).length = len0 := by simp
      refine ⟨.sl (some ⟨.old ab, ao⟩) len0 (.exact cap0), (List.range len0).map F, .sl ⟨rfl, rfl, rfl⟩ rfl, ?_, fun H => ?_⟩
      · have : maxLen ≤ 9223372036854775807 := by decide
        simp; omega
      · have := Is.old (W := W) (H := H) (l := (List.range len0).map F) ab ao (.exact cap0) c (hblk H) (by
          rw [hlen', hg]
          simp [ints, List.map_map, Function.comp_def, enc])
        rw [hlen'] at this
        exact this
theorem envK : EnvK envF := by constructor <;> first | exact envT | rfl
end Go.Proofs.Ytnfehkjkmlbceaa.Sx

/- DeduceMore: the row. -/
namespace Go.Proofs.Ytnfehkjkmlbceaa.Sx
open Go.Proofs
open Go.RowKit Go.WideShapes Go.ChangeShapes
set_option maxRecDepth 100000 in
theorem deduceMore_lifted (os : Os) (started : os.Started) (H : Type) (enc' : TypeId × Value → H) :
    ReturnsInHanded {} Try.checked os 6 .any (Go.Proofs.Ytnfehkjkmlbceaa.Rows.deduceMoreSpec.pre6 enc' Try.prog Try.f6 Go.Proofs.Ytnfehkjkmlbceaa.Rows.deduceMoreRow.domain false) (Go.Proofs.Ytnfehkjkmlbceaa.Rows.deduceMoreSpec.post enc' Try.prog Try.f6 false true false false) := by
  refine law_lifted (C := Try.checked) Try.own' started (by kernel_rfl) Try.func6
    (ChangeSpec.witness6 (enc := enc') (C := Try.checked) false ⟨#[], #[.slice none 0 0, .slice none 0 0, .slice none 0 0], []⟩ 8 (by kernel_rfl) (by kernel_rfl) (by kernel_rfl) (by kernel_rfl))
    Try.laidOut' (by kernel_rfl) rfl rfl Try.underlying4 (fun ds hd => ?_) (E := fun _ => envF) envF_ok (fun W base args ds ps hval hA => ?_)
  · match ds, hd with
    | [d, e, f], _ => rfl
  · have hA' : DataW.TrodAll enc' Try.prog W 0 (fun _ => true) true [22, 54, 54] args.toList ds ps := hA
    obtain ⟨v0, v1, v2, d0, d1, d2, p0, p1, p2, hv0, rfl, rfl, h0, h1, h2⟩ := trodAll_three hA'
    have hv : Value.okWide Try.prog W .any base 22 v0 := hval 0 22 v0 rfl (by rw [← Array.getElem?_toList, hv0]; rfl)
    have hw : Value.okWide Try.prog W .any base 54 v1 := hval 1 54 v1 rfl (by rw [← Array.getElem?_toList, hv0]; rfl)
    have hx : Value.okWide Try.prog W .any base 54 v2 := hval 2 54 v2 rfl (by rw [← Array.getElem?_toList, hv0]; rfl)
    obtain ⟨av, dd, r1, r2⟩ := dos_in hv h0
    obtain ⟨aw, g, r3, r4, r5⟩ := ints_in hw h1
    obtain ⟨ax, o, r6, r7, r8⟩ := ints_in hx h2
    refine ⟨[av, aw, ax], ?_, law_more envK rfl r2 r4 r5 r7 r8⟩
    rw [hv0]
    exact .cons r1 (.cons r3 (.cons r6 .nil))
theorem deduceMore_holds : Go.Proofs.Ytnfehkjkmlbceaa.Rows.DeduceMoreSaid :=
  OpenClaim.holds_of_wide 6 Try.f6 rfl rfl rfl rfl rfl rfl rfl ⟨rfl, rfl, rfl, rfl, rfl⟩ rfl rfl rfl rfl rfl (by kernel_rfl) Try.func6 (by kernel_rfl)
    (of_decide_eq_true (by kernel_rfl)) (by unfold Func.isWrapper; first | (rw [if_pos (by decide +kernel)]; kernel_rfl) | (rw [if_neg (by decide +kernel)]; exact ⟨rfl, rfl⟩))
    (fun os started H enc _ => deduceMore_lifted os started H enc)
end Go.Proofs.Ytnfehkjkmlbceaa.Sx

namespace Go.Proofs.Ytnfehkjkmlbceaa
theorem deduceMore_holds : Rows.DeduceMoreSaid := Sx.deduceMore_holds
end Go.Proofs.Ytnfehkjkmlbceaa
