/- The statement Rows.LotCallsCardSaid: proved by a second, deterministic reading of the program that is sound for every order of evaluation and every capacity; no condition beyond the given row. -/
import Derived.Test.YtjfnhdiimibmiaaDoorCaF
import Derived.Test.YtjfnhdiimibmiaaDoorCaB
import Derived.ProofKit
import Derived.Below
import Derived.ChangeSame
import Derived.ReadAgain
import Derived.Test.YtjfnhdiimibmiaaDoorCaC
import Derived.Test.YtjfnhdiimibmiaaDoorChecked
import Derived.KernelRfl
import Derived.Test.YtjfnhdiimibmiaaDoorRows
import Derived.LaidMore
import Derived.OpenShut
import Derived.Stop.Joined
import Derived.Test.YtjfnhdiimibmiaaDoorCards
import Derived.Test.YtjfnhdiimibmiaaDoorTie
import Derived.SevenTiedAt
/- The law of calls by lot. -/
namespace Go.Proofs.YtjfnhdiimibmiaaDoor.Sx
open HP
section
variable {W : World} {E : Env} {H : Heap} {Γ : List HP}
structure EnvL (E : Env) : Prop extends EnvW E where
  f3 : E 3 = some (.code sf3)
  f5 : E 5 = some (.code sf5)
theorem c_awake (hE : EnvL E) (hG : GK W) (h : Holds H Γ) : ∃ H', go W E 5 [] H = some (.bool true, H') ∧ Holds H' Γ := by
  apply Ends.out
  refine (show Fin (fun r : AV × Heap => r.1 = .bool true ∧ Holds r.2 Γ) _ from ?_)
  have hg8 : ∀ a b c d e f g h : AV, Cells.getN (.lst [a, b, c, d, e, f, g, h]) 0 8 = some [a, b, c, d, e, f, g, h] := fun _ _ _ _ _ _ _ _ => rfl
  have hb : ∀ A, evP A (.build [.int .u8 0, .int .u8 0, .int .u8 0, .int .u8 0, .int .u8 0, .int .u8 0, .int .u8 0, .int .u8 0, .int .u8 0, .int .u8 0, .int .u8 0, .int .u8 0, .int .u8 0, .int .u8 0, .int .u8 0, .int .u8 0, .int .u8 0, .int .u8 0, .int .u8 0, .int .u8 0, .int .u8 0, .int .u8 0, .int .u8 0, .int .u8 0, .int .u8 0, .int .u8 0, .int .u8 0, .int .u8 0, .int .u8 0, .int .u8 0, .int .u8 0, .int .u8 0] [(0, 1, .c (.int .u8 7))]) = some (.agg (cb (7 :: List.replicate 31 0))) := fun _ => rfl
  rw [go_code hE.f5 (by simp [sf5])]
  simp only [sf5, ↓hb, ↓sxp, sxq, ↓reduceIte, Nat.reduceBEq, Nat.reduceLT, evP, evX, evR, blkOf, evA, storeA, Nat.reduceEqDiff, resL, resV, oneOrTup, Int.reduceEq, Int.reduceLT, Int.reduceLE, Int.reduceNeg, Int.reduceAdd, Int.reduceSub, Int.reduceMul, Int.reduceToNat, Nat.reduceAdd, noUnk, AV.cells, reduceCtorEq, Nat.reduceLeDiff, Cells.get, Nat.reduceMul, ↓bnd_assoc]
  refine Fin.callX (fun r H' => ∃ dv, r = .tup [.agg (cfC (callF (7 :: List.replicate 31 0) 0) dv), .int .i64 0] ∧ ∃ R, RdLike W (callF (7 :: List.replicate 31 0) 0).data dv R ∧ Holds H' (R :: Γ)) (by obtain ⟨dv, H', e, q⟩ := c_call (W := W) hE.toEnvW hG (seed := 7 :: List.replicate 31 0) (i := 0) rfl (by omega) h; exact ⟨_, H', e, dv, rfl, q⟩) fun r H3 ⟨dv, hr, R, hR, h3⟩ => ?_
  subst hr
  have hcf : callF (7 :: List.replicate 31 0) 0 = ⟨1, [117, 48], [], [], [], 0, 0, []⟩ := by unfold callF; rw [if_pos (by omega)]; rfl
  rw [hcf] at hR
  rw [hcf]
  have hd1 := (hR h3).one.2.2
  have hco := cfC_one ⟨1, [117, 48], [], [], [], 0, 0, []⟩ dv hd1
  have h4 := h3.push (c := c0) (t := 29)
  have hC : cfC ⟨1, [117, 48], [], [], [], 0, 0, []⟩ dv = [.int .i64 1, .str [117, 48], .str [], .str [], .str [], .int .i64 0, .int .i64 0, dv] := rfl
  rw [hC] at hco
  rw [hC]
  simp only [↓sxp, sxq, ↓reduceIte, Nat.reduceBEq, Nat.reduceLT, evP, evX, evR, blkOf, evA, storeA, Nat.reduceEqDiff, resL, resV, oneOrTup, Int.reduceEq, Int.reduceLT, Int.reduceLE, Int.reduceNeg, Int.reduceAdd, Int.reduceSub, Int.reduceMul, Int.reduceToNat, Nat.reduceAdd, noUnk, AV.cells, reduceCtorEq, Nat.reduceLeDiff, Cells.get, Nat.reduceMul, ↓bnd_assoc]
  refine Fin.write [.int .i64 1, .str [117, 48], .str [], .str [], .str [], .int .i64 0, .int .i64 0, dv] h4 rfl (by simp) hco fun H5 h5 => ?_
  have g5 := h5.get
  simp only [↓g5, ↓hg8, ↓sxp, sxq, ↓reduceIte, Nat.reduceBEq, Nat.reduceLT, evP, evX, evR, blkOf, evA, storeA, Nat.reduceEqDiff, resL, resV, oneOrTup, Int.reduceEq, Int.reduceLT, Int.reduceLE, Int.reduceNeg, Int.reduceAdd, Int.reduceSub, Int.reduceMul, Int.reduceToNat, Nat.reduceAdd, noUnk, AV.cells, reduceCtorEq, Nat.reduceLeDiff, Cells.get, Nat.reduceMul, ↓bnd_assoc]
  refine Fin.call (c_same hE.toEnvW (c := ⟨1, [117, 48], [], [], [], 0, 0, []⟩) (a := dv) (b := nilS) hR (R2 := HP.emp) (fun _ => Rd.nil) (by simp) ((h5.ord [1]).empty.ord [1])) fun H6 h6 => ?_
  simp only [↓sxp, sxq, ↓reduceIte, Nat.reduceBEq, Nat.reduceLT, evP, evX, evR, blkOf, evA, storeA, Nat.reduceEqDiff, resL, resV, oneOrTup, Int.reduceEq, Int.reduceLT, Int.reduceLE, Int.reduceNeg, Int.reduceAdd, Int.reduceSub, Int.reduceMul, Int.reduceToNat, Nat.reduceAdd, noUnk, AV.cells, reduceCtorEq, Nat.reduceLeDiff, Cells.get, Nat.reduceMul, ↓bnd_assoc]
  exact Fin.ret ⟨rfl, h6.tail.tail.tail⟩
abbrev l32 : List LK := [.i, .i, .i, .i, .i, .i, .i, .i, .i, .i, .i, .i, .i, .i, .i, .i, .i, .i, .i, .i, .i, .i, .i, .i, .i, .i, .i, .i, .i, .i, .i, .i]
theorem eqL_cb : ∀ (ls : List LK) (L : List UInt8), ls.length = L.length → (∀ l ∈ ls, l = .i) → eqL ls (cb L) (cb L) = some true := by
  intro ls
  induction ls with
  | nil =>
    intro L h _
    have : L = [] := List.eq_nil_of_length_eq_zero h.symm
    subst this; rfl
  | cons k ls ih =>
    intro L h hk
    cases L with
    | nil => simp at h
    | cons a L =>
      have := hk k (by simp)
      subst this
      simp only [cb, List.map_cons, eqL, eqLeaf, if_true, beq_self_eq_true]
      exact ih L (by simpa using h) (fun l hl => hk l (by simp [hl]))
theorem eq_agg {A : Tm} {x y : SX} {L : List UInt8} (hl : L.length = 32) (hx : evX A x = .agg (cb L)) (hy : evX A y = .agg (cb L)) : evP A (.eq true (.agg l32) x y) = some (.bool false) := by
  simp only [evP, hx, hy, eqV, eqL_cb l32 L (by rw [hl]; rfl) (by simp)]; rfl
theorem loop3 (hE : EnvL E) {seed : List UInt8} (hs : seed.length = 32) {j3 n : Nat} (hn : n ≤ 1024) {vc : AV} {ds : List AV} {D : HP} (hdn : ds.length = n) (hR : ∀ i (hi : i < ds.length), RdLike W (callF seed i).data ds[i] D) {df : List Nat} : ∀ (m i : Nat) (A : Tm) (H : Heap), i + m = n → getX A 3 = .ptr (some ⟨.own j3, 0⟩) → getX A 110 = vc → getX A 111 = .int .i64 n → getX A 112 = .int .i64 i → Holds H (blk j3 (cb seed) 22 :: row 29 8 (flatC seed ds) vc :: D :: Γ) →
    ∃ lv A' H', run W E (.loop lp3_0) ⟨A, df, none⟩ H = some (lv, ⟨A', df, none⟩, H') ∧ (lv = .exit 0 ∧ getX A' 2 = getX A 2 ∧ getX A' 11 = getX A 11 ∧ getX A' 12 = getX A 12 ∧ getX A' 14 = getX A 14 ∧ Holds H' (blk j3 (cb seed) 22 :: row 29 8 (flatC seed ds) vc :: D :: Γ)) := by
  have hlp : ∀ f H, run W E lp3_0 f H = run W E lp3_0 f H := fun _ _ => rfl
  conv at hlp => enter [f, H, 2]; unfold lp3_0
  intro m
  induction m with
  | zero =>
    intro i A H him a3 a110 a111 a112 h
    have : i = n := by omega
    subst this
    have hlt : ¬ (i : Int) < i := by omega
    rw [run_loop]
    simp only [hlp, a111, a112, hlt, ↓sxp, sxq, ↓reduceIte, Nat.reduceBEq, Nat.reduceLT, evP, evX, evR, blkOf, evA, storeA, Nat.reduceEqDiff, resL, resV, oneOrTup, Int.reduceEq, Int.reduceLT, Int.reduceLE, Int.reduceNeg, Int.reduceAdd, Int.reduceSub, Int.reduceMul, Int.reduceToNat, Nat.reduceAdd, noUnk, AV.cells, reduceCtorEq, Nat.reduceLeDiff, Cells.get, Nat.reduceMul, ↓bnd_assoc]
    exact ⟨_, _, _, rfl, rfl, by simp only [↓sxp, sxq, ↓reduceIte, Nat.reduceBEq, Nat.reduceLT, evP, evX, evR, blkOf, evA, storeA, Nat.reduceEqDiff, resL, resV, oneOrTup, Int.reduceEq, Int.reduceLT, Int.reduceLE, Int.reduceNeg, Int.reduceAdd, Int.reduceSub, Int.reduceMul, Int.reduceToNat, Nat.reduceAdd, noUnk, AV.cells, reduceCtorEq, Nat.reduceLeDiff, Cells.get, Nat.reduceMul, ↓bnd_assoc], by simp only [↓sxp, sxq, ↓reduceIte, Nat.reduceBEq, Nat.reduceLT, evP, evX, evR, blkOf, evA, storeA, Nat.reduceEqDiff, resL, resV, oneOrTup, Int.reduceEq, Int.reduceLT, Int.reduceLE, Int.reduceNeg, Int.reduceAdd, Int.reduceSub, Int.reduceMul, Int.reduceToNat, Nat.reduceAdd, noUnk, AV.cells, reduceCtorEq, Nat.reduceLeDiff, Cells.get, Nat.reduceMul, ↓bnd_assoc], by simp only [↓sxp, sxq, ↓reduceIte, Nat.reduceBEq, Nat.reduceLT, evP, evX, evR, blkOf, evA, storeA, Nat.reduceEqDiff, resL, resV, oneOrTup, Int.reduceEq, Int.reduceLT, Int.reduceLE, Int.reduceNeg, Int.reduceAdd, Int.reduceSub, Int.reduceMul, Int.reduceToNat, Nat.reduceAdd, noUnk, AV.cells, reduceCtorEq, Nat.reduceLeDiff, Cells.get, Nat.reduceMul, ↓bnd_assoc], by simp only [↓sxp, sxq, ↓reduceIte, Nat.reduceBEq, Nat.reduceLT, evP, evX, evR, blkOf, evA, storeA, Nat.reduceEqDiff, resL, resV, oneOrTup, Int.reduceEq, Int.reduceLT, Int.reduceLE, Int.reduceNeg, Int.reduceAdd, Int.reduceSub, Int.reduceMul, Int.reduceToNat, Nat.reduceAdd, noUnk, AV.cells, reduceCtorEq, Nat.reduceLeDiff, Cells.get, Nat.reduceMul, ↓bnd_assoc], h⟩
  | succ m ih =>
    intro i A H him a3 a110 a111 a112 h
    have hlt : (i : Int) < n := by omega
    have hwr : IntKind.i64.wrap ((i : Int) + 1) = ((i + 1 : Nat) : Int) := by rw [w64 (by omega)]; simp
    obtain ⟨jc, lc, cc, rfl, gc⟩ := (h.ord [1]).row_get (by omega) (n := n) (by rw [flatC_len, hdn]) (by omega)
    have hgc : Cells.getN (.lst (flatC seed ds)) (i * 8) 8 = some (cfC (callF seed i) (ds[i]'(by omega))) := by
      have := getN_sub (i * 8) 8 (getN_all (flatC seed ds)) (by rw [flatC_len]; omega)
      rw [flatC_get seed ds i (by omega), Nat.zero_add] at this
      exact this
    have hRi : RdLike W (callF seed i).data (ds[i]'(by omega)) D := fun hh => hR i (by omega) hh
    generalize hdv : (ds[i]'(by omega)) = dv at *
    have hd1 := (hRi (h.ord [2])).one.2.2
    have hc8 := cfC_len (callF seed i) dv
    have hco := cfC_one (callF seed i) dv hd1
    have hcg := cfC_getN (callF seed i) dv
    have h1 := h.push (c := c0) (t := 29)
    have hgs := getN_cb hs
    apply Fin.ex3
    rw [run_loop]
    generalize hC : cfC (callF seed i) dv = C at *
    simp only [hlp, a3, a110, a111, a112, hlt, Int.natCast_nonneg, and_self, Int.toNat_natCast, ↓gc, ↓hgc, hc8, ↓sxp, sxq, ↓reduceIte, Nat.reduceBEq, Nat.reduceLT, evP, evX, evR, blkOf, evA, storeA, Nat.reduceEqDiff, resL, resV, oneOrTup, Int.reduceEq, Int.reduceLT, Int.reduceLE, Int.reduceNeg, Int.reduceAdd, Int.reduceSub, Int.reduceMul, Int.reduceToNat, Nat.reduceAdd, noUnk, AV.cells, reduceCtorEq, Nat.reduceLeDiff, Cells.get, Nat.reduceMul, ↓bnd_assoc]
    generalize H.next = j16 at *
    refine Fin.write C h1 (setN_all (by rw [hc8]; rfl)) (by rw [hc8]; exact Nat.le_refl _) hco fun H2 h2 => ?_
    have h3 := h2.bump 6
    have g3 := h2.get
    have g3b := (h2.ord [1]).get
    generalize hcs : cb seed = cs at *
    simp only [a3, ↓g3, ↓g3b, ↓hgs, ↓hcg, ↓sxp, sxq, ↓reduceIte, Nat.reduceBEq, Nat.reduceLT, evP, evX, evR, blkOf, evA, storeA, Nat.reduceEqDiff, resL, resV, oneOrTup, Int.reduceEq, Int.reduceLT, Int.reduceLE, Int.reduceNeg, Int.reduceAdd, Int.reduceSub, Int.reduceMul, Int.reduceToNat, Nat.reduceAdd, noUnk, AV.cells, reduceCtorEq, Nat.reduceLeDiff, Cells.get, Nat.reduceMul, ↓bnd_assoc]
    subst hcs
    refine Fin.callX (fun r H' => ∃ d2, r = .agg (cfC (callF seed i) d2) ∧ ∃ R, RdLike W (callF seed i).data d2 R ∧ Holds H' (R :: blk j16 C 29 :: blk j3 (cb seed) 22 :: row 29 8 (flatC seed ds) (.sl (some ⟨.own jc, 0⟩) n cc) :: D :: Γ)) (by obtain ⟨d2, H', e, q⟩ := c_dcall (W := W) hE.toEnvW hs (show i ≤ 1024 by omega) h3; exact ⟨_, H', e, d2, rfl, q⟩) fun r H4 ⟨d2, hr, R, hRr, h4⟩ => ?_
    subst hr
    have g4 := (h4.ord [1]).get
    have m9 : atF (lotF seed i) 6 9 < 9 := Nat.mod_lt _ (by omega)
    have hdl : (callF seed i).data.length < 65536 := by
      unfold callF
      split
      · simp
      · unfold choF; simp only []; split <;> (try split) <;> (try split) <;> (try split) <;> (try split) <;> (try split) <;> (try split) <;> simp [List.length_take] <;> omega
    simp only [↓g3, ↓g4, ↓hcg, ↓sxp, sxq, ↓reduceIte, Nat.reduceBEq, Nat.reduceLT, evP, evX, evR, blkOf, evA, storeA, Nat.reduceEqDiff, resL, resV, oneOrTup, Int.reduceEq, Int.reduceLT, Int.reduceLE, Int.reduceNeg, Int.reduceAdd, Int.reduceSub, Int.reduceMul, Int.reduceToNat, Nat.reduceAdd, noUnk, AV.cells, reduceCtorEq, Nat.reduceLeDiff, Cells.get, Nat.reduceMul, ↓bnd_assoc]
    rw [← hC]
    refine Fin.call (c_same hE.toEnvW hRi hRr hdl (h4.ord [4, 0])) fun H5 h5 => ?_
    simp only [a112, hwr, ↓sxp, sxq, ↓reduceIte, Nat.reduceBEq, Nat.reduceLT, evP, evX, evR, blkOf, evA, storeA, Nat.reduceEqDiff, resL, resV, oneOrTup, Int.reduceEq, Int.reduceLT, Int.reduceLE, Int.reduceNeg, Int.reduceAdd, Int.reduceSub, Int.reduceMul, Int.reduceToNat, Nat.reduceAdd, noUnk, AV.cells, reduceCtorEq, Nat.reduceLeDiff, Cells.get, Nat.reduceMul, ↓bnd_assoc]
    have h6 : Holds H5 (blk j3 (cb seed) 22 :: row 29 8 (flatC seed ds) (.sl (some ⟨.own jc, 0⟩) n cc) :: D :: Γ) := by
      have := ((h5.rm 1).rm 1).ord [1, 1]
      exact this
    exact Fin.of3 (ih (i + 1) _ _ (by omega) (by simp only [a3, ↓sxp, sxq, ↓reduceIte, Nat.reduceBEq, Nat.reduceLT, evP, evX, evR, blkOf, evA, storeA, Nat.reduceEqDiff, resL, resV, oneOrTup, Int.reduceEq, Int.reduceLT, Int.reduceLE, Int.reduceNeg, Int.reduceAdd, Int.reduceSub, Int.reduceMul, Int.reduceToNat, Nat.reduceAdd, noUnk, AV.cells, reduceCtorEq, Nat.reduceLeDiff, Cells.get, Nat.reduceMul, ↓bnd_assoc]) (by simp only [a110, ↓sxp, sxq, ↓reduceIte, Nat.reduceBEq, Nat.reduceLT, evP, evX, evR, blkOf, evA, storeA, Nat.reduceEqDiff, resL, resV, oneOrTup, Int.reduceEq, Int.reduceLT, Int.reduceLE, Int.reduceNeg, Int.reduceAdd, Int.reduceSub, Int.reduceMul, Int.reduceToNat, Nat.reduceAdd, noUnk, AV.cells, reduceCtorEq, Nat.reduceLeDiff, Cells.get, Nat.reduceMul, ↓bnd_assoc]) (by simp only [a111, ↓sxp, sxq, ↓reduceIte, Nat.reduceBEq, Nat.reduceLT, evP, evX, evR, blkOf, evA, storeA, Nat.reduceEqDiff, resL, resV, oneOrTup, Int.reduceEq, Int.reduceLT, Int.reduceLE, Int.reduceNeg, Int.reduceAdd, Int.reduceSub, Int.reduceMul, Int.reduceToNat, Nat.reduceAdd, noUnk, AV.cells, reduceCtorEq, Nat.reduceLeDiff, Cells.get, Nat.reduceMul, ↓bnd_assoc]) (by simp only [↓sxp, sxq, ↓reduceIte, Nat.reduceBEq, Nat.reduceLT, evP, evX, evR, blkOf, evA, storeA, Nat.reduceEqDiff, resL, resV, oneOrTup, Int.reduceEq, Int.reduceLT, Int.reduceLE, Int.reduceNeg, Int.reduceAdd, Int.reduceSub, Int.reduceMul, Int.reduceToNat, Nat.reduceAdd, noUnk, AV.cells, reduceCtorEq, Nat.reduceLeDiff, Cells.get, Nat.reduceMul, ↓bnd_assoc]) h6) fun lv A' H' ⟨q1, q2, q3, q4, q5, q6⟩ => ⟨q1, q2.trans (by simp only [↓sxp, sxq, ↓reduceIte, Nat.reduceBEq, Nat.reduceLT, evP, evX, evR, blkOf, evA, storeA, Nat.reduceEqDiff, resL, resV, oneOrTup, Int.reduceEq, Int.reduceLT, Int.reduceLE, Int.reduceNeg, Int.reduceAdd, Int.reduceSub, Int.reduceMul, Int.reduceToNat, Nat.reduceAdd, noUnk, AV.cells, reduceCtorEq, Nat.reduceLeDiff, Cells.get, Nat.reduceMul, ↓bnd_assoc]), q3.trans (by simp only [↓sxp, sxq, ↓reduceIte, Nat.reduceBEq, Nat.reduceLT, evP, evX, evR, blkOf, evA, storeA, Nat.reduceEqDiff, resL, resV, oneOrTup, Int.reduceEq, Int.reduceLT, Int.reduceLE, Int.reduceNeg, Int.reduceAdd, Int.reduceSub, Int.reduceMul, Int.reduceToNat, Nat.reduceAdd, noUnk, AV.cells, reduceCtorEq, Nat.reduceLeDiff, Cells.get, Nat.reduceMul, ↓bnd_assoc]), q4.trans (by simp only [↓sxp, sxq, ↓reduceIte, Nat.reduceBEq, Nat.reduceLT, evP, evX, evR, blkOf, evA, storeA, Nat.reduceEqDiff, resL, resV, oneOrTup, Int.reduceEq, Int.reduceLT, Int.reduceLE, Int.reduceNeg, Int.reduceAdd, Int.reduceSub, Int.reduceMul, Int.reduceToNat, Nat.reduceAdd, noUnk, AV.cells, reduceCtorEq, Nat.reduceLeDiff, Cells.get, Nat.reduceMul, ↓bnd_assoc]), q5.trans (by simp only [↓sxp, sxq, ↓reduceIte, Nat.reduceBEq, Nat.reduceLT, evP, evX, evR, blkOf, evA, storeA, Nat.reduceEqDiff, resL, resV, oneOrTup, Int.reduceEq, Int.reduceLT, Int.reduceLE, Int.reduceNeg, Int.reduceAdd, Int.reduceSub, Int.reduceMul, Int.reduceToNat, Nat.reduceAdd, noUnk, AV.cells, reduceCtorEq, Nat.reduceLeDiff, Cells.get, Nat.reduceMul, ↓bnd_assoc]), q6⟩
end
end Go.Proofs.YtjfnhdiimibmiaaDoor.Sx

/- The law of calls by lot, whole. -/
namespace Go.Proofs.YtjfnhdiimibmiaaDoor.Sx
open HP
section
variable {W : World} {E : Env} {H : Heap} {Γ : List HP}
theorem callF_dlen (seed : List UInt8) (i : Nat) : (callF seed i).data.length < 65536 := by
  have m9 : atF (lotF seed i) 6 9 < 9 := Nat.mod_lt _ (by omega)
  unfold callF
  split
  · simp
  · unfold choF; simp only []; split <;> (try split) <;> (try split) <;> (try split) <;> (try split) <;> (try split) <;> (try split) <;> simp [List.length_take] <;> omega
theorem law_calls (hE : EnvL E) (hG : GK W) {seed : List UInt8} (hs : seed.length = 32) (i n : Int) (h : Holds H Γ) : ∃ H', go W E 3 [.agg (cb seed), .int .i64 i, .int .i64 n] H = some (.bool true, H') := by
  suffices hh : Fin (fun r : AV × Heap => r.1 = .bool true) (go W E 3 [.agg (cb seed), .int .i64 i, .int .i64 n] H) by
    obtain ⟨⟨r, H'⟩, e, hr⟩ := hh
    simp only at hr
    subst hr
    exact ⟨H', e⟩
  have hg8 : ∀ a b c d e f g h : AV, Cells.getN (.lst [a, b, c, d, e, f, g, h]) 0 8 = some [a, b, c, d, e, f, g, h] := fun _ _ _ _ _ _ _ _ => rfl
  have h1 := h.push (c := cb seed) (t := 22)
  have hgs := getN_cb hs
  rw [go_code hE.f3 (by simp [sf3])]
  generalize hcs : cb seed = cs at *
  simp only [sf3, ↓sxp, sxq, ↓reduceIte, Nat.reduceBEq, Nat.reduceLT, evP, evX, evR, blkOf, evA, storeA, Nat.reduceEqDiff, resL, resV, oneOrTup, Int.reduceEq, Int.reduceLT, Int.reduceLE, Int.reduceNeg, Int.reduceAdd, Int.reduceSub, Int.reduceMul, Int.reduceToNat, Nat.reduceAdd, noUnk, AV.cells, reduceCtorEq, Nat.reduceLeDiff, Cells.get, Nat.reduceMul, ↓bnd_assoc]
  generalize H.next = j3 at *
  refine Fin.call (c_awake hE hG h1) fun H2 h2 => ?_
  have g2 := h2.get
  simp only [↓g2, ↓hgs, ↓sxp, sxq, ↓reduceIte, Nat.reduceBEq, Nat.reduceLT, evP, evX, evR, blkOf, evA, storeA, Nat.reduceEqDiff, resL, resV, oneOrTup, Int.reduceEq, Int.reduceLT, Int.reduceLE, Int.reduceNeg, Int.reduceAdd, Int.reduceSub, Int.reduceMul, Int.reduceToNat, Nat.reduceAdd, noUnk, AV.cells, reduceCtorEq, Nat.reduceLeDiff, Cells.get, Nat.reduceMul, ↓bnd_assoc]
  by_cases hi : 0 ≤ i ∧ i ≤ 1024
  · obtain ⟨k, rfl⟩ := Int.eq_ofNat_of_zero_le hi.1
    have hk : k ≤ 1024 := by omega
    subst hcs
    refine Fin.call (c_lot hE.toEnvW hs hk h2) fun H3 h3 => ?_
    have hl := lotF_len seed k
    generalize hL : lotF seed k = L at *
    have hc32 : (cb L).length = 32 := by rw [cb_len, hl]
    have hgl := getN_cb hl
    have h4 := h3.push (c := z32) (t := 22)
    have hz := hgs
    generalize hcs : cb seed = cs at *
    generalize hcl : cb L = cl at *
    simp only [hc32, z32_eq, ↓sxp, sxq, ↓reduceIte, Nat.reduceBEq, Nat.reduceLT, evP, evX, evR, blkOf, evA, storeA, Nat.reduceEqDiff, resL, resV, oneOrTup, Int.reduceEq, Int.reduceLT, Int.reduceLE, Int.reduceNeg, Int.reduceAdd, Int.reduceSub, Int.reduceMul, Int.reduceToNat, Nat.reduceAdd, noUnk, AV.cells, reduceCtorEq, Nat.reduceLeDiff, Cells.get, Nat.reduceMul, ↓bnd_assoc]
    generalize H3.next = j7 at *
    refine Fin.write cl h4 (setN_all (by rw [hc32]; rfl)) (by rw [hc32]; exact Nat.le_refl _) (by rw [← hcl]; exact cb_one L) fun H5 h5 => ?_
    have g5 := (h5.ord [1]).get
    simp only [↓g5, ↓hgs, ↓sxp, sxq, ↓reduceIte, Nat.reduceBEq, Nat.reduceLT, evP, evX, evR, blkOf, evA, storeA, Nat.reduceEqDiff, resL, resV, oneOrTup, Int.reduceEq, Int.reduceLT, Int.reduceLE, Int.reduceNeg, Int.reduceAdd, Int.reduceSub, Int.reduceMul, Int.reduceToNat, Nat.reduceAdd, noUnk, AV.cells, reduceCtorEq, Nat.reduceLeDiff, Cells.get, Nat.reduceMul, ↓bnd_assoc]
    subst hcs
    refine Fin.callX (fun r H' => ∃ dv, r = .tup [.agg (cfC (callF seed k) dv), .int .i64 0] ∧ ∃ R, RdLike W (callF seed k).data dv R ∧ Holds H' (R :: blk j7 cl 22 :: blk j3 (cb seed) 22 :: Γ)) (by obtain ⟨dv, H', e, q⟩ := c_call (W := W) hE.toEnvW hG hs hk h5; exact ⟨_, H', e, dv, rfl, q⟩) fun r H6 ⟨dv, hr, R, hR, h6⟩ => ?_
    subst hr
    have hd1 := (hR h6).one.2.2
    have hc8 := cfC_len (callF seed k) dv
    have hco := cfC_one (callF seed k) dv hd1
    have hcg := cfC_getN (callF seed k) dv
    generalize hC : cfC (callF seed k) dv = C at *
    have h7 := h6.push (c := c0) (t := 29)
    simp only [hc8, ↓sxp, sxq, ↓reduceIte, Nat.reduceBEq, Nat.reduceLT, evP, evX, evR, blkOf, evA, storeA, Nat.reduceEqDiff, resL, resV, oneOrTup, Int.reduceEq, Int.reduceLT, Int.reduceLE, Int.reduceNeg, Int.reduceAdd, Int.reduceSub, Int.reduceMul, Int.reduceToNat, Nat.reduceAdd, noUnk, AV.cells, reduceCtorEq, Nat.reduceLeDiff, Cells.get, Nat.reduceMul, ↓bnd_assoc]
    generalize H6.next = j9 at *
    refine Fin.write C h7 (setN_all (by rw [hc8]; rfl)) (by rw [hc8]; exact Nat.le_refl _) hco fun H8 h8 => ?_
    have b1 : ¬ (k : Int) < 0 := by omega
    have b2 : ¬ (1024 : Int) < (k : Int) := by omega
    have g8a := (h8.bump 21).get
    have g8b := ((h8.bump 21).ord [2]).get
    have g8c := ((h8.bump 21).ord [3]).get
    generalize hcs : cb seed = cs at *
    simp only [b1, b2, ↓g8a, ↓g8b, ↓g8c, ↓hgs, ↓sxp, sxq, ↓reduceIte, Nat.reduceBEq, Nat.reduceLT, evP, evX, evR, blkOf, evA, storeA, Nat.reduceEqDiff, resL, resV, oneOrTup, Int.reduceEq, Int.reduceLT, Int.reduceLE, Int.reduceNeg, Int.reduceAdd, Int.reduceSub, Int.reduceMul, Int.reduceToNat, Nat.reduceAdd, noUnk, AV.cells, reduceCtorEq, Nat.reduceLeDiff, Cells.get, Nat.reduceMul, ↓bnd_assoc]
    subst hcs
    refine Fin.call (c_dlot hE.toEnvW hs hk (h8.bump 21)) fun H9 h9 => ?_
    rw [hL, hcl]
    have g9a := h9.get
    have g9b := (h9.ord [2]).get
    have g9c := (h9.ord [3]).get
    have heq : ∀ (A : Tm) (x y : SX), evX A x = .agg cl → evX A y = .agg cl → evP A (.eq true (.agg l32) x y) = some (.bool false) := fun A x y hx hy => by
      rw [← hcl] at hx hy
      exact eq_agg hl hx hy
    generalize hcs : cb seed = cs at *
    simp only [↓g8a, ↓g8b, ↓g8c, ↓g9a, ↓g9b, ↓g9c, ↓hgs, ↓hgl, ↓heq, ↓sxp, sxq, ↓reduceIte, Nat.reduceBEq, Nat.reduceLT, evP, evX, evR, blkOf, evA, storeA, Nat.reduceEqDiff, resL, resV, oneOrTup, Int.reduceEq, Int.reduceLT, Int.reduceLE, Int.reduceNeg, Int.reduceAdd, Int.reduceSub, Int.reduceMul, Int.reduceToNat, Nat.reduceAdd, noUnk, AV.cells, reduceCtorEq, Nat.reduceLeDiff, Cells.get, Nat.reduceMul, ↓bnd_assoc]
    subst hcs
    refine Fin.callX (fun r H' => ∃ d2, r = .agg (cfC (callF seed k) d2) ∧ ∃ R2, RdLike W (callF seed k).data d2 R2 ∧ Holds H' (R2 :: blk j9 C 29 :: R :: blk j7 cl 22 :: blk j3 (cb seed) 22 :: Γ)) (by obtain ⟨d2, H', e, q⟩ := c_dcall (W := W) hE.toEnvW hs hk h9; exact ⟨_, H', e, d2, rfl, q⟩) fun r H10 ⟨d2, hr, R2, hR2, h10⟩ => ?_
    subst hr
    have g10 := (h10.ord [1]).get
    simp only [↓g9a, ↓g10, ↓hcg, ↓sxp, sxq, ↓reduceIte, Nat.reduceBEq, Nat.reduceLT, evP, evX, evR, blkOf, evA, storeA, Nat.reduceEqDiff, resL, resV, oneOrTup, Int.reduceEq, Int.reduceLT, Int.reduceLE, Int.reduceNeg, Int.reduceAdd, Int.reduceSub, Int.reduceMul, Int.reduceToNat, Nat.reduceAdd, noUnk, AV.cells, reduceCtorEq, Nat.reduceLeDiff, Cells.get, Nat.reduceMul, ↓bnd_assoc]
    rw [← hC]
    refine Fin.call (c_same hE.toEnvW hR hR2 (callF_dlen seed k) (h10.ord [2, 0])) fun H11 h11 => ?_
    obtain ⟨Δ, hb⟩ : ∃ Δ, Holds H11 (blk j3 (cb seed) 22 :: Δ) := ⟨_, h11.ord [4]⟩
    simp only [↓sxp, sxq, ↓reduceIte, Nat.reduceBEq, Nat.reduceLT, evP, evX, evR, blkOf, evA, storeA, Nat.reduceEqDiff, resL, resV, oneOrTup, Int.reduceEq, Int.reduceLT, Int.reduceLE, Int.reduceNeg, Int.reduceAdd, Int.reduceSub, Int.reduceMul, Int.reduceToNat, Nat.reduceAdd, noUnk, AV.cells, reduceCtorEq, Nat.reduceLeDiff, Cells.get, Nat.reduceMul, ↓bnd_assoc]
    generalize hcs : cb seed = cs at *
    -- the second half
    have gb := hb.get
    by_cases hn : 0 ≤ n ∧ n ≤ 1024
    · obtain ⟨q, rfl⟩ := Int.eq_ofNat_of_zero_le hn.1
      have hq : q ≤ 1024 := by omega
      have c3 : (q : Int) ≤ 1024 := by omega
      have c4 : ¬ (q : Int) < 0 := by omega
      have c5 : ¬ (1024 : Int) < (q : Int) := by omega
      by_cases h40 : (40 : Int) < (q : Int)
      · simp only [h40, c3, ↓sxp, sxq, ↓reduceIte, Nat.reduceBEq, Nat.reduceLT, evP, evX, evR, blkOf, evA, storeA, Nat.reduceEqDiff, resL, resV, oneOrTup, Int.reduceEq, Int.reduceLT, Int.reduceLE, Int.reduceNeg, Int.reduceAdd, Int.reduceSub, Int.reduceMul, Int.reduceToNat, Nat.reduceAdd, noUnk, AV.cells, reduceCtorEq, Nat.reduceLeDiff, Cells.get, Nat.reduceMul, ↓bnd_assoc]
        exact Fin.ret rfl
      · simp only [h40, ↓gb, ↓hgs, ↓sxp, sxq, ↓reduceIte, Nat.reduceBEq, Nat.reduceLT, evP, evX, evR, blkOf, evA, storeA, Nat.reduceEqDiff, resL, resV, oneOrTup, Int.reduceEq, Int.reduceLT, Int.reduceLE, Int.reduceNeg, Int.reduceAdd, Int.reduceSub, Int.reduceMul, Int.reduceToNat, Nat.reduceAdd, noUnk, AV.cells, reduceCtorEq, Nat.reduceLeDiff, Cells.get, Nat.reduceMul, ↓bnd_assoc]
        subst hcs
        refine Fin.callX (fun r H' => ∃ v, r = .tup [v, .int .i64 0] ∧ CsH W seed q H' v (blk j3 (cb seed) 22 :: Δ)) (by obtain ⟨v, H', e, z⟩ := c_calls (W := W) hE.toEnvW hG hs hq hb; exact ⟨_, H', e, v, rfl, z⟩) fun r K1 ⟨v1, hr, ds, D, hdn, hDR, k1⟩ => ?_
        subst hr
        obtain ⟨ac, cc, ev⟩ := k1.row_len (by omega) (n := q) (by rw [flatC_len, hdn])
        have hlen : lenV v1 = some (.int .i64 q) := by rw [ev]; rfl
        have k1g := (k1.ord [2]).get
        generalize hcs : cb seed = cs at *
        simp only [↓k1g, ↓hgs, ↓sxp, sxq, ↓reduceIte, Nat.reduceBEq, Nat.reduceLT, evP, evX, evR, blkOf, evA, storeA, Nat.reduceEqDiff, resL, resV, oneOrTup, Int.reduceEq, Int.reduceLT, Int.reduceLE, Int.reduceNeg, Int.reduceAdd, Int.reduceSub, Int.reduceMul, Int.reduceToNat, Nat.reduceAdd, noUnk, AV.cells, reduceCtorEq, Nat.reduceLeDiff, Cells.get, Nat.reduceMul, ↓bnd_assoc]
        subst hcs
        refine Fin.callX (fun r H' => ∃ v, r = .tup [v, .int .i64 0] ∧ EsH W (pevs seed q) H' v (row 29 8 (flatC seed ds) v1 :: D :: blk j3 (cb seed) 22 :: Δ)) (by obtain ⟨v, H', e, z⟩ := c_events (W := W) hE.toEnvW hG hs hq k1; exact ⟨_, H', e, v, rfl, z⟩) fun r K2 ⟨v2, hr, xs, D2, hx1, hx2, k2⟩ => ?_
        subst hr
        have k3 : Holds K2 (blk j3 (cb seed) 22 :: row 29 8 (flatC seed ds) v1 :: D :: Δ) := ((k2.tail.tail).ord [2])
        simp only [c4, c5, hlen, ↓sxp, sxq, ↓reduceIte, Nat.reduceBEq, Nat.reduceLT, evP, evX, evR, blkOf, evA, storeA, Nat.reduceEqDiff, resL, resV, oneOrTup, Int.reduceEq, Int.reduceLT, Int.reduceLE, Int.reduceNeg, Int.reduceAdd, Int.reduceSub, Int.reduceMul, Int.reduceToNat, Nat.reduceAdd, noUnk, AV.cells, reduceCtorEq, Nat.reduceLeDiff, Cells.get, Nat.reduceMul, ↓bnd_assoc]
        refine Fin.loop (loop3 hE hs hq hdn hDR q 0 _ _ (by omega) (by simp only [↓sxp, sxq, ↓reduceIte, Nat.reduceBEq, Nat.reduceLT, evP, evX, evR, blkOf, evA, storeA, Nat.reduceEqDiff, resL, resV, oneOrTup, Int.reduceEq, Int.reduceLT, Int.reduceLE, Int.reduceNeg, Int.reduceAdd, Int.reduceSub, Int.reduceMul, Int.reduceToNat, Nat.reduceAdd, noUnk, AV.cells, reduceCtorEq, Nat.reduceLeDiff, Cells.get, Nat.reduceMul, ↓bnd_assoc]) (by simp only [↓sxp, sxq, ↓reduceIte, Nat.reduceBEq, Nat.reduceLT, evP, evX, evR, blkOf, evA, storeA, Nat.reduceEqDiff, resL, resV, oneOrTup, Int.reduceEq, Int.reduceLT, Int.reduceLE, Int.reduceNeg, Int.reduceAdd, Int.reduceSub, Int.reduceMul, Int.reduceToNat, Nat.reduceAdd, noUnk, AV.cells, reduceCtorEq, Nat.reduceLeDiff, Cells.get, Nat.reduceMul, ↓bnd_assoc]) (by simp only [↓sxp, sxq, ↓reduceIte, Nat.reduceBEq, Nat.reduceLT, evP, evX, evR, blkOf, evA, storeA, Nat.reduceEqDiff, resL, resV, oneOrTup, Int.reduceEq, Int.reduceLT, Int.reduceLE, Int.reduceNeg, Int.reduceAdd, Int.reduceSub, Int.reduceMul, Int.reduceToNat, Nat.reduceAdd, noUnk, AV.cells, reduceCtorEq, Nat.reduceLeDiff, Cells.get, Nat.reduceMul, ↓bnd_assoc]) (by simp only [↓sxp, sxq, ↓reduceIte, Nat.reduceBEq, Nat.reduceLT, evP, evX, evR, blkOf, evA, storeA, Nat.reduceEqDiff, resL, resV, oneOrTup, Int.reduceEq, Int.reduceLT, Int.reduceLE, Int.reduceNeg, Int.reduceAdd, Int.reduceSub, Int.reduceMul, Int.reduceToNat, Nat.reduceAdd, noUnk, AV.cells, reduceCtorEq, Nat.reduceLeDiff, Cells.get, Nat.reduceMul, ↓bnd_assoc]; rfl) k3) fun lv A K4 ⟨e1, b2, b11, b12, b14, k4⟩ => ?_
        subst e1
        simp only [↓sxp, sxq, ↓reduceIte, Nat.reduceBEq, Nat.reduceLT, evP, evX, evR, blkOf, evA, storeA, Nat.reduceEqDiff, resL, resV, oneOrTup, Int.reduceEq, Int.reduceLT, Int.reduceLE, Int.reduceNeg, Int.reduceAdd, Int.reduceSub, Int.reduceMul, Int.reduceToNat, Nat.reduceAdd, noUnk, AV.cells, reduceCtorEq, Nat.reduceLeDiff, Cells.get, Nat.reduceMul, ↓bnd_assoc] at b2 b11 b12 b14
        simp only [b2, b11, b12, b14, hlen, eq_self, ↓sxp, sxq, ↓reduceIte, Nat.reduceBEq, Nat.reduceLT, evP, evX, evR, blkOf, evA, storeA, Nat.reduceEqDiff, resL, resV, oneOrTup, Int.reduceEq, Int.reduceLT, Int.reduceLE, Int.reduceNeg, Int.reduceAdd, Int.reduceSub, Int.reduceMul, Int.reduceToNat, Nat.reduceAdd, noUnk, AV.cells, reduceCtorEq, Nat.reduceLeDiff, Cells.get, Nat.reduceMul, ↓bnd_assoc]
        exact Fin.ret rfl
    · have hn' : n < 0 ∨ 1024 < n := by omega
      have d1 : ¬ ((40 : Int) < n ∧ n ≤ 1024) := by omega
      rcases hn' with hn' | hn'
      · have d2 : ¬ (40 : Int) < n := by omega
        simp only [d2, ↓gb, ↓hgs, ↓sxp, sxq, ↓reduceIte, Nat.reduceBEq, Nat.reduceLT, evP, evX, evR, blkOf, evA, storeA, Nat.reduceEqDiff, resL, resV, oneOrTup, Int.reduceEq, Int.reduceLT, Int.reduceLE, Int.reduceNeg, Int.reduceAdd, Int.reduceSub, Int.reduceMul, Int.reduceToNat, Nat.reduceAdd, noUnk, AV.cells, reduceCtorEq, Nat.reduceLeDiff, Cells.get, Nat.reduceMul, ↓bnd_assoc]
        subst hcs
        refine Fin.call (c_calls_no hE.toEnvW (.inl hn') hb) fun K1 k1 => ?_
        have k1g := k1.get
        generalize hcs : cb seed = cs at *
        simp only [↓k1g, ↓hgs, ↓sxp, sxq, ↓reduceIte, Nat.reduceBEq, Nat.reduceLT, evP, evX, evR, blkOf, evA, storeA, Nat.reduceEqDiff, resL, resV, oneOrTup, Int.reduceEq, Int.reduceLT, Int.reduceLE, Int.reduceNeg, Int.reduceAdd, Int.reduceSub, Int.reduceMul, Int.reduceToNat, Nat.reduceAdd, noUnk, AV.cells, reduceCtorEq, Nat.reduceLeDiff, Cells.get, Nat.reduceMul, ↓bnd_assoc]
        subst hcs
        refine Fin.call (c_events_no hE.toEnvW hs (.inl hn') k1) fun K2 k2 => ?_
        simp only [hn', lenV, ↓sxp, sxq, ↓reduceIte, Nat.reduceBEq, Nat.reduceLT, evP, evX, evR, blkOf, evA, storeA, Nat.reduceEqDiff, resL, resV, oneOrTup, Int.reduceEq, Int.reduceLT, Int.reduceLE, Int.reduceNeg, Int.reduceAdd, Int.reduceSub, Int.reduceMul, Int.reduceToNat, Nat.reduceAdd, noUnk, AV.cells, reduceCtorEq, Nat.reduceLeDiff, Cells.get, Nat.reduceMul, ↓bnd_assoc]
        exact Fin.ret rfl
      · have d2 : (40 : Int) < n := by omega
        have d3 : ¬ n ≤ 1024 := by omega
        have d4 : ¬ n < 0 := by omega
        simp only [d2, d3, ↓gb, ↓hgs, ↓sxp, sxq, ↓reduceIte, Nat.reduceBEq, Nat.reduceLT, evP, evX, evR, blkOf, evA, storeA, Nat.reduceEqDiff, resL, resV, oneOrTup, Int.reduceEq, Int.reduceLT, Int.reduceLE, Int.reduceNeg, Int.reduceAdd, Int.reduceSub, Int.reduceMul, Int.reduceToNat, Nat.reduceAdd, noUnk, AV.cells, reduceCtorEq, Nat.reduceLeDiff, Cells.get, Nat.reduceMul, ↓bnd_assoc]
        subst hcs
        refine Fin.call (c_calls_no hE.toEnvW (.inr hn') hb) fun K1 k1 => ?_
        have k1g := k1.get
        generalize hcs : cb seed = cs at *
        simp only [↓k1g, ↓hgs, ↓sxp, sxq, ↓reduceIte, Nat.reduceBEq, Nat.reduceLT, evP, evX, evR, blkOf, evA, storeA, Nat.reduceEqDiff, resL, resV, oneOrTup, Int.reduceEq, Int.reduceLT, Int.reduceLE, Int.reduceNeg, Int.reduceAdd, Int.reduceSub, Int.reduceMul, Int.reduceToNat, Nat.reduceAdd, noUnk, AV.cells, reduceCtorEq, Nat.reduceLeDiff, Cells.get, Nat.reduceMul, ↓bnd_assoc]
        subst hcs
        refine Fin.call (c_events_no hE.toEnvW hs (.inr hn') k1) fun K2 k2 => ?_
        simp only [d4, hn', lenV, ↓sxp, sxq, ↓reduceIte, Nat.reduceBEq, Nat.reduceLT, evP, evX, evR, blkOf, evA, storeA, Nat.reduceEqDiff, resL, resV, oneOrTup, Int.reduceEq, Int.reduceLT, Int.reduceLE, Int.reduceNeg, Int.reduceAdd, Int.reduceSub, Int.reduceMul, Int.reduceToNat, Nat.reduceAdd, noUnk, AV.cells, reduceCtorEq, Nat.reduceLeDiff, Cells.get, Nat.reduceMul, ↓bnd_assoc]
        exact Fin.ret rfl
  · have hi' : i < 0 ∨ 1024 < i := by omega
    rcases hi' with hi' | hi'
    · skip
      subst hcs
      refine Fin.call (c_lot_no hE.toEnvW (.inl hi') h2) fun H3 h3 => ?_
      have h4 := h3.push (c := z32) (t := 22)
      have hl32 : z32.length = 32 := rfl
      have ho32 : z32.all oneC = true := cb_one _
      have hgz : Cells.getN (.lst z32) 0 32 = some z32 := getN_cb (by simp)
      have heq : ∀ (A : Tm) (x y : SX), evX A x = .agg z32 → evX A y = .agg z32 → evP A (.eq true (.agg l32) x y) = some (.bool false) := fun A x y hx hy => eq_agg (L := List.replicate 32 0) (by simp) hx hy
      have bz : ∀ A, evP A (.build z32 []) = some (.agg z32) := fun _ => rfl
      generalize hcs : cb seed = cs at *
      simp only [hl32, z32_eq, ↓sxp, sxq, ↓reduceIte, Nat.reduceBEq, Nat.reduceLT, evP, evX, evR, blkOf, evA, storeA, Nat.reduceEqDiff, resL, resV, oneOrTup, Int.reduceEq, Int.reduceLT, Int.reduceLE, Int.reduceNeg, Int.reduceAdd, Int.reduceSub, Int.reduceMul, Int.reduceToNat, Nat.reduceAdd, noUnk, AV.cells, reduceCtorEq, Nat.reduceLeDiff, Cells.get, Nat.reduceMul, ↓bnd_assoc]
      generalize H3.next = j7 at *
      refine Fin.write z32 h4 (setN_all rfl) (by rw [hl32]; exact Nat.le_refl _) ho32 fun H5 h5 => ?_
      have g5 := (h5.ord [1]).get
      simp only [↓g5, ↓hgs, ↓sxp, sxq, ↓reduceIte, Nat.reduceBEq, Nat.reduceLT, evP, evX, evR, blkOf, evA, storeA, Nat.reduceEqDiff, resL, resV, oneOrTup, Int.reduceEq, Int.reduceLT, Int.reduceLE, Int.reduceNeg, Int.reduceAdd, Int.reduceSub, Int.reduceMul, Int.reduceToNat, Nat.reduceAdd, noUnk, AV.cells, reduceCtorEq, Nat.reduceLeDiff, Cells.get, Nat.reduceMul, ↓bnd_assoc]
      subst hcs
      refine Fin.call (c_call_no hE.toEnvW hs (.inl hi') h5) fun H6 h6 => ?_
      have h7 := h6.push (c := c0) (t := 29)
      simp only [↓sxp, sxq, ↓reduceIte, Nat.reduceBEq, Nat.reduceLT, evP, evX, evR, blkOf, evA, storeA, Nat.reduceEqDiff, resL, resV, oneOrTup, Int.reduceEq, Int.reduceLT, Int.reduceLE, Int.reduceNeg, Int.reduceAdd, Int.reduceSub, Int.reduceMul, Int.reduceToNat, Nat.reduceAdd, noUnk, AV.cells, reduceCtorEq, Nat.reduceLeDiff, Cells.get, Nat.reduceMul, ↓bnd_assoc]
      generalize H6.next = j9 at *
      refine Fin.write c0 h7 rfl (by simp) rfl fun H8 h8 => ?_
      have g8 := h8.get
      have g8b := (h8.ord [1]).get
      generalize hcs : cb seed = cs at *
      simp only [hi', ↓g8, ↓g8b, ↓hgz, ↓hg8, ↓bz, ↓heq, z32_eq, ↓sxp, sxq, ↓reduceIte, Nat.reduceBEq, Nat.reduceLT, evP, evX, evR, blkOf, evA, storeA, Nat.reduceEqDiff, resL, resV, oneOrTup, Int.reduceEq, Int.reduceLT, Int.reduceLE, Int.reduceNeg, Int.reduceAdd, Int.reduceSub, Int.reduceMul, Int.reduceToNat, Nat.reduceAdd, noUnk, AV.cells, reduceCtorEq, Nat.reduceLeDiff, Cells.get, Nat.reduceMul, ↓bnd_assoc]
      refine Fin.call (c_same (H := H8) hE.toEnvW (c := ⟨0, [], [], [], [], 0, 0, []⟩) (a := nilS) (b := nilS) (R1 := HP.emp) (R2 := HP.emp) (fun _ => Rd.nil) (fun _ => Rd.nil) (by simp) ((h8.empty).empty)) fun H11 h11 => ?_
      subst hcs
      obtain ⟨Δ, hb⟩ : ∃ Δ, Holds H11 (blk j3 (cb seed) 22 :: Δ) := ⟨_, h11.ord [4]⟩
      simp only [↓sxp, sxq, ↓reduceIte, Nat.reduceBEq, Nat.reduceLT, evP, evX, evR, blkOf, evA, storeA, Nat.reduceEqDiff, resL, resV, oneOrTup, Int.reduceEq, Int.reduceLT, Int.reduceLE, Int.reduceNeg, Int.reduceAdd, Int.reduceSub, Int.reduceMul, Int.reduceToNat, Nat.reduceAdd, noUnk, AV.cells, reduceCtorEq, Nat.reduceLeDiff, Cells.get, Nat.reduceMul, ↓bnd_assoc]
      generalize hcs : cb seed = cs at *
      -- the second half
      have gb := hb.get
      by_cases hn : 0 ≤ n ∧ n ≤ 1024
      · obtain ⟨q, rfl⟩ := Int.eq_ofNat_of_zero_le hn.1
        have hq : q ≤ 1024 := by omega
        have c3 : (q : Int) ≤ 1024 := by omega
        have c4 : ¬ (q : Int) < 0 := by omega
        have c5 : ¬ (1024 : Int) < (q : Int) := by omega
        by_cases h40 : (40 : Int) < (q : Int)
        · simp only [h40, c3, ↓sxp, sxq, ↓reduceIte, Nat.reduceBEq, Nat.reduceLT, evP, evX, evR, blkOf, evA, storeA, Nat.reduceEqDiff, resL, resV, oneOrTup, Int.reduceEq, Int.reduceLT, Int.reduceLE, Int.reduceNeg, Int.reduceAdd, Int.reduceSub, Int.reduceMul, Int.reduceToNat, Nat.reduceAdd, noUnk, AV.cells, reduceCtorEq, Nat.reduceLeDiff, Cells.get, Nat.reduceMul, ↓bnd_assoc]
          exact Fin.ret rfl
        · simp only [h40, ↓gb, ↓hgs, ↓sxp, sxq, ↓reduceIte, Nat.reduceBEq, Nat.reduceLT, evP, evX, evR, blkOf, evA, storeA, Nat.reduceEqDiff, resL, resV, oneOrTup, Int.reduceEq, Int.reduceLT, Int.reduceLE, Int.reduceNeg, Int.reduceAdd, Int.reduceSub, Int.reduceMul, Int.reduceToNat, Nat.reduceAdd, noUnk, AV.cells, reduceCtorEq, Nat.reduceLeDiff, Cells.get, Nat.reduceMul, ↓bnd_assoc]
          subst hcs
          refine Fin.callX (fun r H' => ∃ v, r = .tup [v, .int .i64 0] ∧ CsH W seed q H' v (blk j3 (cb seed) 22 :: Δ)) (by obtain ⟨v, H', e, z⟩ := c_calls (W := W) hE.toEnvW hG hs hq hb; exact ⟨_, H', e, v, rfl, z⟩) fun r K1 ⟨v1, hr, ds, D, hdn, hDR, k1⟩ => ?_
          subst hr
          obtain ⟨ac, cc, ev⟩ := k1.row_len (by omega) (n := q) (by rw [flatC_len, hdn])
          have hlen : lenV v1 = some (.int .i64 q) := by rw [ev]; rfl
          have k1g := (k1.ord [2]).get
          generalize hcs : cb seed = cs at *
          simp only [↓k1g, ↓hgs, ↓sxp, sxq, ↓reduceIte, Nat.reduceBEq, Nat.reduceLT, evP, evX, evR, blkOf, evA, storeA, Nat.reduceEqDiff, resL, resV, oneOrTup, Int.reduceEq, Int.reduceLT, Int.reduceLE, Int.reduceNeg, Int.reduceAdd, Int.reduceSub, Int.reduceMul, Int.reduceToNat, Nat.reduceAdd, noUnk, AV.cells, reduceCtorEq, Nat.reduceLeDiff, Cells.get, Nat.reduceMul, ↓bnd_assoc]
          subst hcs
          refine Fin.callX (fun r H' => ∃ v, r = .tup [v, .int .i64 0] ∧ EsH W (pevs seed q) H' v (row 29 8 (flatC seed ds) v1 :: D :: blk j3 (cb seed) 22 :: Δ)) (by obtain ⟨v, H', e, z⟩ := c_events (W := W) hE.toEnvW hG hs hq k1; exact ⟨_, H', e, v, rfl, z⟩) fun r K2 ⟨v2, hr, xs, D2, hx1, hx2, k2⟩ => ?_
          subst hr
          have k3 : Holds K2 (blk j3 (cb seed) 22 :: row 29 8 (flatC seed ds) v1 :: D :: Δ) := ((k2.tail.tail).ord [2])
          simp only [c4, c5, hlen, ↓sxp, sxq, ↓reduceIte, Nat.reduceBEq, Nat.reduceLT, evP, evX, evR, blkOf, evA, storeA, Nat.reduceEqDiff, resL, resV, oneOrTup, Int.reduceEq, Int.reduceLT, Int.reduceLE, Int.reduceNeg, Int.reduceAdd, Int.reduceSub, Int.reduceMul, Int.reduceToNat, Nat.reduceAdd, noUnk, AV.cells, reduceCtorEq, Nat.reduceLeDiff, Cells.get, Nat.reduceMul, ↓bnd_assoc]
          refine Fin.loop (loop3 hE hs hq hdn hDR q 0 _ _ (by omega) (by simp only [↓sxp, sxq, ↓reduceIte, Nat.reduceBEq, Nat.reduceLT, evP, evX, evR, blkOf, evA, storeA, Nat.reduceEqDiff, resL, resV, oneOrTup, Int.reduceEq, Int.reduceLT, Int.reduceLE, Int.reduceNeg, Int.reduceAdd, Int.reduceSub, Int.reduceMul, Int.reduceToNat, Nat.reduceAdd, noUnk, AV.cells, reduceCtorEq, Nat.reduceLeDiff, Cells.get, Nat.reduceMul, ↓bnd_assoc]) (by simp only [↓sxp, sxq, ↓reduceIte, Nat.reduceBEq, Nat.reduceLT, evP, evX, evR, blkOf, evA, storeA, Nat.reduceEqDiff, resL, resV, oneOrTup, Int.reduceEq, Int.reduceLT, Int.reduceLE, Int.reduceNeg, Int.reduceAdd, Int.reduceSub, Int.reduceMul, Int.reduceToNat, Nat.reduceAdd, noUnk, AV.cells, reduceCtorEq, Nat.reduceLeDiff, Cells.get, Nat.reduceMul, ↓bnd_assoc]) (by simp only [↓sxp, sxq, ↓reduceIte, Nat.reduceBEq, Nat.reduceLT, evP, evX, evR, blkOf, evA, storeA, Nat.reduceEqDiff, resL, resV, oneOrTup, Int.reduceEq, Int.reduceLT, Int.reduceLE, Int.reduceNeg, Int.reduceAdd, Int.reduceSub, Int.reduceMul, Int.reduceToNat, Nat.reduceAdd, noUnk, AV.cells, reduceCtorEq, Nat.reduceLeDiff, Cells.get, Nat.reduceMul, ↓bnd_assoc]) (by simp only [↓sxp, sxq, ↓reduceIte, Nat.reduceBEq, Nat.reduceLT, evP, evX, evR, blkOf, evA, storeA, Nat.reduceEqDiff, resL, resV, oneOrTup, Int.reduceEq, Int.reduceLT, Int.reduceLE, Int.reduceNeg, Int.reduceAdd, Int.reduceSub, Int.reduceMul, Int.reduceToNat, Nat.reduceAdd, noUnk, AV.cells, reduceCtorEq, Nat.reduceLeDiff, Cells.get, Nat.reduceMul, ↓bnd_assoc]; rfl) k3) fun lv A K4 ⟨e1, b2, b11, b12, b14, k4⟩ => ?_
          subst e1
          simp only [↓sxp, sxq, ↓reduceIte, Nat.reduceBEq, Nat.reduceLT, evP, evX, evR, blkOf, evA, storeA, Nat.reduceEqDiff, resL, resV, oneOrTup, Int.reduceEq, Int.reduceLT, Int.reduceLE, Int.reduceNeg, Int.reduceAdd, Int.reduceSub, Int.reduceMul, Int.reduceToNat, Nat.reduceAdd, noUnk, AV.cells, reduceCtorEq, Nat.reduceLeDiff, Cells.get, Nat.reduceMul, ↓bnd_assoc] at b2 b11 b12 b14
          simp only [b2, b11, b12, b14, hlen, eq_self, ↓sxp, sxq, ↓reduceIte, Nat.reduceBEq, Nat.reduceLT, evP, evX, evR, blkOf, evA, storeA, Nat.reduceEqDiff, resL, resV, oneOrTup, Int.reduceEq, Int.reduceLT, Int.reduceLE, Int.reduceNeg, Int.reduceAdd, Int.reduceSub, Int.reduceMul, Int.reduceToNat, Nat.reduceAdd, noUnk, AV.cells, reduceCtorEq, Nat.reduceLeDiff, Cells.get, Nat.reduceMul, ↓bnd_assoc]
          exact Fin.ret rfl
      · have hn' : n < 0 ∨ 1024 < n := by omega
        have d1 : ¬ ((40 : Int) < n ∧ n ≤ 1024) := by omega
        rcases hn' with hn' | hn'
        · have d2 : ¬ (40 : Int) < n := by omega
          simp only [d2, ↓gb, ↓hgs, ↓sxp, sxq, ↓reduceIte, Nat.reduceBEq, Nat.reduceLT, evP, evX, evR, blkOf, evA, storeA, Nat.reduceEqDiff, resL, resV, oneOrTup, Int.reduceEq, Int.reduceLT, Int.reduceLE, Int.reduceNeg, Int.reduceAdd, Int.reduceSub, Int.reduceMul, Int.reduceToNat, Nat.reduceAdd, noUnk, AV.cells, reduceCtorEq, Nat.reduceLeDiff, Cells.get, Nat.reduceMul, ↓bnd_assoc]
          subst hcs
          refine Fin.call (c_calls_no hE.toEnvW (.inl hn') hb) fun K1 k1 => ?_
          have k1g := k1.get
          generalize hcs : cb seed = cs at *
          simp only [↓k1g, ↓hgs, ↓sxp, sxq, ↓reduceIte, Nat.reduceBEq, Nat.reduceLT, evP, evX, evR, blkOf, evA, storeA, Nat.reduceEqDiff, resL, resV, oneOrTup, Int.reduceEq, Int.reduceLT, Int.reduceLE, Int.reduceNeg, Int.reduceAdd, Int.reduceSub, Int.reduceMul, Int.reduceToNat, Nat.reduceAdd, noUnk, AV.cells, reduceCtorEq, Nat.reduceLeDiff, Cells.get, Nat.reduceMul, ↓bnd_assoc]
          subst hcs
          refine Fin.call (c_events_no hE.toEnvW hs (.inl hn') k1) fun K2 k2 => ?_
          simp only [hn', lenV, ↓sxp, sxq, ↓reduceIte, Nat.reduceBEq, Nat.reduceLT, evP, evX, evR, blkOf, evA, storeA, Nat.reduceEqDiff, resL, resV, oneOrTup, Int.reduceEq, Int.reduceLT, Int.reduceLE, Int.reduceNeg, Int.reduceAdd, Int.reduceSub, Int.reduceMul, Int.reduceToNat, Nat.reduceAdd, noUnk, AV.cells, reduceCtorEq, Nat.reduceLeDiff, Cells.get, Nat.reduceMul, ↓bnd_assoc]
          exact Fin.ret rfl
        · have d2 : (40 : Int) < n := by omega
          have d3 : ¬ n ≤ 1024 := by omega
          have d4 : ¬ n < 0 := by omega
          simp only [d2, d3, ↓gb, ↓hgs, ↓sxp, sxq, ↓reduceIte, Nat.reduceBEq, Nat.reduceLT, evP, evX, evR, blkOf, evA, storeA, Nat.reduceEqDiff, resL, resV, oneOrTup, Int.reduceEq, Int.reduceLT, Int.reduceLE, Int.reduceNeg, Int.reduceAdd, Int.reduceSub, Int.reduceMul, Int.reduceToNat, Nat.reduceAdd, noUnk, AV.cells, reduceCtorEq, Nat.reduceLeDiff, Cells.get, Nat.reduceMul, ↓bnd_assoc]
          subst hcs
          refine Fin.call (c_calls_no hE.toEnvW (.inr hn') hb) fun K1 k1 => ?_
          have k1g := k1.get
          generalize hcs : cb seed = cs at *
          simp only [↓k1g, ↓hgs, ↓sxp, sxq, ↓reduceIte, Nat.reduceBEq, Nat.reduceLT, evP, evX, evR, blkOf, evA, storeA, Nat.reduceEqDiff, resL, resV, oneOrTup, Int.reduceEq, Int.reduceLT, Int.reduceLE, Int.reduceNeg, Int.reduceAdd, Int.reduceSub, Int.reduceMul, Int.reduceToNat, Nat.reduceAdd, noUnk, AV.cells, reduceCtorEq, Nat.reduceLeDiff, Cells.get, Nat.reduceMul, ↓bnd_assoc]
          subst hcs
          refine Fin.call (c_events_no hE.toEnvW hs (.inr hn') k1) fun K2 k2 => ?_
          simp only [d4, hn', lenV, ↓sxp, sxq, ↓reduceIte, Nat.reduceBEq, Nat.reduceLT, evP, evX, evR, blkOf, evA, storeA, Nat.reduceEqDiff, resL, resV, oneOrTup, Int.reduceEq, Int.reduceLT, Int.reduceLE, Int.reduceNeg, Int.reduceAdd, Int.reduceSub, Int.reduceMul, Int.reduceToNat, Nat.reduceAdd, noUnk, AV.cells, reduceCtorEq, Nat.reduceLeDiff, Cells.get, Nat.reduceMul, ↓bnd_assoc]
          exact Fin.ret rfl
    · have nb : ¬ i < 0 := by omega
      subst hcs
      refine Fin.call (c_lot_no hE.toEnvW (.inr hi') h2) fun H3 h3 => ?_
      have h4 := h3.push (c := z32) (t := 22)
      have hl32 : z32.length = 32 := rfl
      have ho32 : z32.all oneC = true := cb_one _
      have hgz : Cells.getN (.lst z32) 0 32 = some z32 := getN_cb (by simp)
      have heq : ∀ (A : Tm) (x y : SX), evX A x = .agg z32 → evX A y = .agg z32 → evP A (.eq true (.agg l32) x y) = some (.bool false) := fun A x y hx hy => eq_agg (L := List.replicate 32 0) (by simp) hx hy
      have bz : ∀ A, evP A (.build z32 []) = some (.agg z32) := fun _ => rfl
      generalize hcs : cb seed = cs at *
      simp only [hl32, z32_eq, ↓sxp, sxq, ↓reduceIte, Nat.reduceBEq, Nat.reduceLT, evP, evX, evR, blkOf, evA, storeA, Nat.reduceEqDiff, resL, resV, oneOrTup, Int.reduceEq, Int.reduceLT, Int.reduceLE, Int.reduceNeg, Int.reduceAdd, Int.reduceSub, Int.reduceMul, Int.reduceToNat, Nat.reduceAdd, noUnk, AV.cells, reduceCtorEq, Nat.reduceLeDiff, Cells.get, Nat.reduceMul, ↓bnd_assoc]
      generalize H3.next = j7 at *
      refine Fin.write z32 h4 (setN_all rfl) (by rw [hl32]; exact Nat.le_refl _) ho32 fun H5 h5 => ?_
      have g5 := (h5.ord [1]).get
      simp only [↓g5, ↓hgs, ↓sxp, sxq, ↓reduceIte, Nat.reduceBEq, Nat.reduceLT, evP, evX, evR, blkOf, evA, storeA, Nat.reduceEqDiff, resL, resV, oneOrTup, Int.reduceEq, Int.reduceLT, Int.reduceLE, Int.reduceNeg, Int.reduceAdd, Int.reduceSub, Int.reduceMul, Int.reduceToNat, Nat.reduceAdd, noUnk, AV.cells, reduceCtorEq, Nat.reduceLeDiff, Cells.get, Nat.reduceMul, ↓bnd_assoc]
      subst hcs
      refine Fin.call (c_call_no hE.toEnvW hs (.inr hi') h5) fun H6 h6 => ?_
      have h7 := h6.push (c := c0) (t := 29)
      simp only [↓sxp, sxq, ↓reduceIte, Nat.reduceBEq, Nat.reduceLT, evP, evX, evR, blkOf, evA, storeA, Nat.reduceEqDiff, resL, resV, oneOrTup, Int.reduceEq, Int.reduceLT, Int.reduceLE, Int.reduceNeg, Int.reduceAdd, Int.reduceSub, Int.reduceMul, Int.reduceToNat, Nat.reduceAdd, noUnk, AV.cells, reduceCtorEq, Nat.reduceLeDiff, Cells.get, Nat.reduceMul, ↓bnd_assoc]
      generalize H6.next = j9 at *
      refine Fin.write c0 h7 rfl (by simp) rfl fun H8 h8 => ?_
      have g8 := h8.get
      have g8b := (h8.ord [1]).get
      generalize hcs : cb seed = cs at *
      simp only [nb, hi', ↓g8, ↓g8b, ↓hgz, ↓hg8, ↓bz, ↓heq, z32_eq, ↓sxp, sxq, ↓reduceIte, Nat.reduceBEq, Nat.reduceLT, evP, evX, evR, blkOf, evA, storeA, Nat.reduceEqDiff, resL, resV, oneOrTup, Int.reduceEq, Int.reduceLT, Int.reduceLE, Int.reduceNeg, Int.reduceAdd, Int.reduceSub, Int.reduceMul, Int.reduceToNat, Nat.reduceAdd, noUnk, AV.cells, reduceCtorEq, Nat.reduceLeDiff, Cells.get, Nat.reduceMul, ↓bnd_assoc]
      refine Fin.call (c_same (H := H8) hE.toEnvW (c := ⟨0, [], [], [], [], 0, 0, []⟩) (a := nilS) (b := nilS) (R1 := HP.emp) (R2 := HP.emp) (fun _ => Rd.nil) (fun _ => Rd.nil) (by simp) ((h8.empty).empty)) fun H11 h11 => ?_
      subst hcs
      obtain ⟨Δ, hb⟩ : ∃ Δ, Holds H11 (blk j3 (cb seed) 22 :: Δ) := ⟨_, h11.ord [4]⟩
      simp only [↓sxp, sxq, ↓reduceIte, Nat.reduceBEq, Nat.reduceLT, evP, evX, evR, blkOf, evA, storeA, Nat.reduceEqDiff, resL, resV, oneOrTup, Int.reduceEq, Int.reduceLT, Int.reduceLE, Int.reduceNeg, Int.reduceAdd, Int.reduceSub, Int.reduceMul, Int.reduceToNat, Nat.reduceAdd, noUnk, AV.cells, reduceCtorEq, Nat.reduceLeDiff, Cells.get, Nat.reduceMul, ↓bnd_assoc]
      generalize hcs : cb seed = cs at *
      -- the second half
      have gb := hb.get
      by_cases hn : 0 ≤ n ∧ n ≤ 1024
      · obtain ⟨q, rfl⟩ := Int.eq_ofNat_of_zero_le hn.1
        have hq : q ≤ 1024 := by omega
        have c3 : (q : Int) ≤ 1024 := by omega
        have c4 : ¬ (q : Int) < 0 := by omega
        have c5 : ¬ (1024 : Int) < (q : Int) := by omega
        by_cases h40 : (40 : Int) < (q : Int)
        · simp only [h40, c3, ↓sxp, sxq, ↓reduceIte, Nat.reduceBEq, Nat.reduceLT, evP, evX, evR, blkOf, evA, storeA, Nat.reduceEqDiff, resL, resV, oneOrTup, Int.reduceEq, Int.reduceLT, Int.reduceLE, Int.reduceNeg, Int.reduceAdd, Int.reduceSub, Int.reduceMul, Int.reduceToNat, Nat.reduceAdd, noUnk, AV.cells, reduceCtorEq, Nat.reduceLeDiff, Cells.get, Nat.reduceMul, ↓bnd_assoc]
          exact Fin.ret rfl
        · simp only [h40, ↓gb, ↓hgs, ↓sxp, sxq, ↓reduceIte, Nat.reduceBEq, Nat.reduceLT, evP, evX, evR, blkOf, evA, storeA, Nat.reduceEqDiff, resL, resV, oneOrTup, Int.reduceEq, Int.reduceLT, Int.reduceLE, Int.reduceNeg, Int.reduceAdd, Int.reduceSub, Int.reduceMul, Int.reduceToNat, Nat.reduceAdd, noUnk, AV.cells, reduceCtorEq, Nat.reduceLeDiff, Cells.get, Nat.reduceMul, ↓bnd_assoc]
          subst hcs
          refine Fin.callX (fun r H' => ∃ v, r = .tup [v, .int .i64 0] ∧ CsH W seed q H' v (blk j3 (cb seed) 22 :: Δ)) (by obtain ⟨v, H', e, z⟩ := c_calls (W := W) hE.toEnvW hG hs hq hb; exact ⟨_, H', e, v, rfl, z⟩) fun r K1 ⟨v1, hr, ds, D, hdn, hDR, k1⟩ => ?_
          subst hr
          obtain ⟨ac, cc, ev⟩ := k1.row_len (by omega) (n := q) (by rw [flatC_len, hdn])
          have hlen : lenV v1 = some (.int .i64 q) := by rw [ev]; rfl
          have k1g := (k1.ord [2]).get
          generalize hcs : cb seed = cs at *
          simp only [↓k1g, ↓hgs, ↓sxp, sxq, ↓reduceIte, Nat.reduceBEq, Nat.reduceLT, evP, evX, evR, blkOf, evA, storeA, Nat.reduceEqDiff, resL, resV, oneOrTup, Int.reduceEq, Int.reduceLT, Int.reduceLE, Int.reduceNeg, Int.reduceAdd, Int.reduceSub, Int.reduceMul, Int.reduceToNat, Nat.reduceAdd, noUnk, AV.cells, reduceCtorEq, Nat.reduceLeDiff, Cells.get, Nat.reduceMul, ↓bnd_assoc]
          subst hcs
          refine Fin.callX (fun r H' => ∃ v, r = .tup [v, .int .i64 0] ∧ EsH W (pevs seed q) H' v (row 29 8 (flatC seed ds) v1 :: D :: blk j3 (cb seed) 22 :: Δ)) (by obtain ⟨v, H', e, z⟩ := c_events (W := W) hE.toEnvW hG hs hq k1; exact ⟨_, H', e, v, rfl, z⟩) fun r K2 ⟨v2, hr, xs, D2, hx1, hx2, k2⟩ => ?_
          subst hr
          have k3 : Holds K2 (blk j3 (cb seed) 22 :: row 29 8 (flatC seed ds) v1 :: D :: Δ) := ((k2.tail.tail).ord [2])
          simp only [c4, c5, hlen, ↓sxp, sxq, ↓reduceIte, Nat.reduceBEq, Nat.reduceLT, evP, evX, evR, blkOf, evA, storeA, Nat.reduceEqDiff, resL, resV, oneOrTup, Int.reduceEq, Int.reduceLT, Int.reduceLE, Int.reduceNeg, Int.reduceAdd, Int.reduceSub, Int.reduceMul, Int.reduceToNat, Nat.reduceAdd, noUnk, AV.cells, reduceCtorEq, Nat.reduceLeDiff, Cells.get, Nat.reduceMul, ↓bnd_assoc]
          refine Fin.loop (loop3 hE hs hq hdn hDR q 0 _ _ (by omega) (by simp only [↓sxp, sxq, ↓reduceIte, Nat.reduceBEq, Nat.reduceLT, evP, evX, evR, blkOf, evA, storeA, Nat.reduceEqDiff, resL, resV, oneOrTup, Int.reduceEq, Int.reduceLT, Int.reduceLE, Int.reduceNeg, Int.reduceAdd, Int.reduceSub, Int.reduceMul, Int.reduceToNat, Nat.reduceAdd, noUnk, AV.cells, reduceCtorEq, Nat.reduceLeDiff, Cells.get, Nat.reduceMul, ↓bnd_assoc]) (by simp only [↓sxp, sxq, ↓reduceIte, Nat.reduceBEq, Nat.reduceLT, evP, evX, evR, blkOf, evA, storeA, Nat.reduceEqDiff, resL, resV, oneOrTup, Int.reduceEq, Int.reduceLT, Int.reduceLE, Int.reduceNeg, Int.reduceAdd, Int.reduceSub, Int.reduceMul, Int.reduceToNat, Nat.reduceAdd, noUnk, AV.cells, reduceCtorEq, Nat.reduceLeDiff, Cells.get, Nat.reduceMul, ↓bnd_assoc]) (by simp only [↓sxp, sxq, ↓reduceIte, Nat.reduceBEq, Nat.reduceLT, evP, evX, evR, blkOf, evA, storeA, Nat.reduceEqDiff, resL, resV, oneOrTup, Int.reduceEq, Int.reduceLT, Int.reduceLE, Int.reduceNeg, Int.reduceAdd, Int.reduceSub, Int.reduceMul, Int.reduceToNat, Nat.reduceAdd, noUnk, AV.cells, reduceCtorEq, Nat.reduceLeDiff, Cells.get, Nat.reduceMul, ↓bnd_assoc]) (by simp only [↓sxp, sxq, ↓reduceIte, Nat.reduceBEq, Nat.reduceLT, evP, evX, evR, blkOf, evA, storeA, Nat.reduceEqDiff, resL, resV, oneOrTup, Int.reduceEq, Int.reduceLT, Int.reduceLE, Int.reduceNeg, Int.reduceAdd, Int.reduceSub, Int.reduceMul, Int.reduceToNat, Nat.reduceAdd, noUnk, AV.cells, reduceCtorEq, Nat.reduceLeDiff, Cells.get, Nat.reduceMul, ↓bnd_assoc]; rfl) k3) fun lv A K4 ⟨e1, b2, b11, b12, b14, k4⟩ => ?_
          subst e1
          simp only [↓sxp, sxq, ↓reduceIte, Nat.reduceBEq, Nat.reduceLT, evP, evX, evR, blkOf, evA, storeA, Nat.reduceEqDiff, resL, resV, oneOrTup, Int.reduceEq, Int.reduceLT, Int.reduceLE, Int.reduceNeg, Int.reduceAdd, Int.reduceSub, Int.reduceMul, Int.reduceToNat, Nat.reduceAdd, noUnk, AV.cells, reduceCtorEq, Nat.reduceLeDiff, Cells.get, Nat.reduceMul, ↓bnd_assoc] at b2 b11 b12 b14
          simp only [b2, b11, b12, b14, hlen, eq_self, ↓sxp, sxq, ↓reduceIte, Nat.reduceBEq, Nat.reduceLT, evP, evX, evR, blkOf, evA, storeA, Nat.reduceEqDiff, resL, resV, oneOrTup, Int.reduceEq, Int.reduceLT, Int.reduceLE, Int.reduceNeg, Int.reduceAdd, Int.reduceSub, Int.reduceMul, Int.reduceToNat, Nat.reduceAdd, noUnk, AV.cells, reduceCtorEq, Nat.reduceLeDiff, Cells.get, Nat.reduceMul, ↓bnd_assoc]
          exact Fin.ret rfl
      · have hn' : n < 0 ∨ 1024 < n := by omega
        have d1 : ¬ ((40 : Int) < n ∧ n ≤ 1024) := by omega
        rcases hn' with hn' | hn'
        · have d2 : ¬ (40 : Int) < n := by omega
          simp only [d2, ↓gb, ↓hgs, ↓sxp, sxq, ↓reduceIte, Nat.reduceBEq, Nat.reduceLT, evP, evX, evR, blkOf, evA, storeA, Nat.reduceEqDiff, resL, resV, oneOrTup, Int.reduceEq, Int.reduceLT, Int.reduceLE, Int.reduceNeg, Int.reduceAdd, Int.reduceSub, Int.reduceMul, Int.reduceToNat, Nat.reduceAdd, noUnk, AV.cells, reduceCtorEq, Nat.reduceLeDiff, Cells.get, Nat.reduceMul, ↓bnd_assoc]
          subst hcs
          refine Fin.call (c_calls_no hE.toEnvW (.inl hn') hb) fun K1 k1 => ?_
          have k1g := k1.get
          generalize hcs : cb seed = cs at *
          simp only [↓k1g, ↓hgs, ↓sxp, sxq, ↓reduceIte, Nat.reduceBEq, Nat.reduceLT, evP, evX, evR, blkOf, evA, storeA, Nat.reduceEqDiff, resL, resV, oneOrTup, Int.reduceEq, Int.reduceLT, Int.reduceLE, Int.reduceNeg, Int.reduceAdd, Int.reduceSub, Int.reduceMul, Int.reduceToNat, Nat.reduceAdd, noUnk, AV.cells, reduceCtorEq, Nat.reduceLeDiff, Cells.get, Nat.reduceMul, ↓bnd_assoc]
          subst hcs
          refine Fin.call (c_events_no hE.toEnvW hs (.inl hn') k1) fun K2 k2 => ?_
          simp only [hn', lenV, ↓sxp, sxq, ↓reduceIte, Nat.reduceBEq, Nat.reduceLT, evP, evX, evR, blkOf, evA, storeA, Nat.reduceEqDiff, resL, resV, oneOrTup, Int.reduceEq, Int.reduceLT, Int.reduceLE, Int.reduceNeg, Int.reduceAdd, Int.reduceSub, Int.reduceMul, Int.reduceToNat, Nat.reduceAdd, noUnk, AV.cells, reduceCtorEq, Nat.reduceLeDiff, Cells.get, Nat.reduceMul, ↓bnd_assoc]
          exact Fin.ret rfl
        · have d2 : (40 : Int) < n := by omega
          have d3 : ¬ n ≤ 1024 := by omega
          have d4 : ¬ n < 0 := by omega
          simp only [d2, d3, ↓gb, ↓hgs, ↓sxp, sxq, ↓reduceIte, Nat.reduceBEq, Nat.reduceLT, evP, evX, evR, blkOf, evA, storeA, Nat.reduceEqDiff, resL, resV, oneOrTup, Int.reduceEq, Int.reduceLT, Int.reduceLE, Int.reduceNeg, Int.reduceAdd, Int.reduceSub, Int.reduceMul, Int.reduceToNat, Nat.reduceAdd, noUnk, AV.cells, reduceCtorEq, Nat.reduceLeDiff, Cells.get, Nat.reduceMul, ↓bnd_assoc]
          subst hcs
          refine Fin.call (c_calls_no hE.toEnvW (.inr hn') hb) fun K1 k1 => ?_
          have k1g := k1.get
          generalize hcs : cb seed = cs at *
          simp only [↓k1g, ↓hgs, ↓sxp, sxq, ↓reduceIte, Nat.reduceBEq, Nat.reduceLT, evP, evX, evR, blkOf, evA, storeA, Nat.reduceEqDiff, resL, resV, oneOrTup, Int.reduceEq, Int.reduceLT, Int.reduceLE, Int.reduceNeg, Int.reduceAdd, Int.reduceSub, Int.reduceMul, Int.reduceToNat, Nat.reduceAdd, noUnk, AV.cells, reduceCtorEq, Nat.reduceLeDiff, Cells.get, Nat.reduceMul, ↓bnd_assoc]
          subst hcs
          refine Fin.call (c_events_no hE.toEnvW hs (.inr hn') k1) fun K2 k2 => ?_
          simp only [d4, hn', lenV, ↓sxp, sxq, ↓reduceIte, Nat.reduceBEq, Nat.reduceLT, evP, evX, evR, blkOf, evA, storeA, Nat.reduceEqDiff, resL, resV, oneOrTup, Int.reduceEq, Int.reduceLT, Int.reduceLE, Int.reduceNeg, Int.reduceAdd, Int.reduceSub, Int.reduceMul, Int.reduceToNat, Nat.reduceAdd, noUnk, AV.cells, reduceCtorEq, Nat.reduceLeDiff, Cells.get, Nat.reduceMul, ↓bnd_assoc]
          exact Fin.ret rfl
end
end Go.Proofs.YtjfnhdiimibmiaaDoor.Sx

/- From the second reading to a row. -/
namespace Go.Proofs.YtjfnhdiimibmiaaDoor.Sx
open Go.RowKit Go.WideShapes Go.ChangeShapes
section
variable {H : Type} {enc' : TypeId × Value → H} {P : Program}
theorem post_of_below' {f : Func} {s : ChangeSpec} {apart fresh handsOn again : Bool} {W W' : World} {args : Array Value} {v : Value} {ds gs : List (DataW H)} {before pa pv : List MemPlace}
    (hW : DataW.Whole enc' P f.params.toList s.vars apart W args.toList ds gs before)
    (hres : ∀ (b : Nat) (sp : Nat → Bool) (hd : Bool), DataW.TrodAll enc' P W' b sp hd f.resultTypes.toList (v.resultList f.resultTypes.size) (s.fn H (ds ++ gs)).results [])
    (hargs : ∀ sp : Nat → Bool, (∀ p ∈ before, sp p.block = true) → DataW.TrodAll enc' P W' 0 sp true f.params.toList args.toList (s.fn H (ds ++ gs)).args pa)
    (hvars : ∀ sp : Nat → Bool, (∀ p ∈ before, sp p.block = true) → DataW.TrodVars enc' P W' sp s.vars (s.fn H (ds ++ gs)).vars pv)
    (hps : before = pa ++ pv) (hb : Below W.heap.size W W')
    (hok : ∀ (j : Nat) (t : TypeId) (r : Value), f.resultTypes[j]? = some t → (v.resultList f.resultTypes.size)[j]? = some r → Value.okWide P W' .any 0 t r) :
    s.post enc' P f apart fresh handsOn again W args v W' := by
  have hlt : ∀ p ∈ before, p.block < W.heap.size := fun p hp => hW.lt p hp
  have hold : ∀ p ∈ before, (fun b => decide (b < W.heap.size)) p.block = true := fun p hp => by simpa using hlt p hp
  refine ⟨ds, gs, before, [], pa, pv, hW, hres _ _ _, hargs _ hold, hvars _ hold, World.keptBut_mono (fun p hp => ⟨hp, ?_⟩) (hb.frame (· ∈ before)), fun _ => ?_⟩
  · rw [hps, List.mem_append] at hp
    exact Or.inr hp
  · obtain ⟨_, _, _, _, _, hz, hn⟩ := hW
    refine ⟨hok, _, _, ([] ++ pa) ++ pv, ⟨[] ++ pa, pv, trodAll_append (hargs _ (fun _ _ => rfl)) (hres _ _ _), hvars _ (fun _ _ => rfl), rfl, ?_, ?_⟩, ?_⟩
    · intro b off hp
      have hin : MemPlace.cell b off ∈ before := by rw [hps]; simpa using hp
      rw [hb.frozen (hlt _ hin)]
      exact hz b off hin
    · intro ha
      have := hn ha
      rw [hps] at this
      simpa using this
    · intro p hp _
      rw [hps]
      simpa using hp

/-- What the second reading answers, the call answers, and leaves all that was there as it was. -/
theorem calls_true {W : World} {E : Env} (hE : EnvOk P W E) {f : FuncId} {avs : List AV} {args : Array Value} (ha : VRL ⟨fun _ => none, fun _ => 0, fun _ => 0⟩ avs args.toList) (hg : ∃ H', go W E f avs ⟨0, .e, .e⟩ = some (.bool true, H')) :
    Calls P f args W fun e W' => e = .returned (.bool true) ∧ Below W.heap.size W W' := by
  obtain ⟨H', hg⟩ := hg
  intro cs
  obtain ⟨_, h⟩ := go_sound W E hE f avs ⟨0, .e, .e⟩ _ _ hg _ W args (HR.start W) ha
  obtain ⟨μ', w', fr, v', hs, hl, hf, hr, _, hv⟩ := h cs
  cases hv
  exact ⟨.returned (.bool true), w', fr, ⟨rfl, hr.os, hr.tape, hr.output, hr.size, hr.old⟩, hs, hf, hl⟩

theorem args_stay (hl : laidOutB P = true) {W W' : World} (hb : Below W.heap.size W W') : ∀ {ts : List TypeId} {vs : List Value} {ds : List (DataW H)} {ps : List MemPlace}, ts.all (fun t => P.readableRec t && decide (t < P.types.size)) = true → DataW.TrodAll enc' P W 0 (fun _ => true) true ts vs ds ps → (∀ p ∈ ps, p.block < W.heap.size) →
    ∀ sp : Nat → Bool, (∀ p ∈ ps, sp p.block = true) → DataW.TrodAll enc' P W' 0 sp true ts vs ds ps
  | [], [], [], _, _, h, _ => fun _ _ => h
  | [], [], _ :: _, _, _, h, _ => h.elim
  | [], _ :: _, _, _, _, h, _ => h.elim
  | _ :: _, [], _, _, _, h, _ => h.elim
  | _ :: _, _ :: _, [], _, _, h, _ => h.elim
  | t :: ts, v :: vs, d :: ds, ps, ht, ⟨p, q, h1, h2, e⟩, hlt => fun sp hsp => by
    simp only [List.all_cons, Bool.and_eq_true, decide_eq_true_eq] at ht
    exact ⟨p, q, WideElems.Trod_stays hl ht.1.1 ht.1.2 h1 (fun x hx => hb.same (hlt x (by rw [e]; exact List.mem_append_left _ hx))) (fun x hx => hsp x (by rw [e]; exact List.mem_append_left _ hx)),
      args_stay hl hb ht.2 h2 (fun x hx => hlt x (by rw [e]; exact List.mem_append_right _ hx)) sp (fun x hx => hsp x (by rw [e]; exact List.mem_append_right _ hx)), e⟩
theorem trodAll_length {W : World} {base : Nat} {sp : Nat → Bool} {hd : Bool} : ∀ {ts : List TypeId} {vs : List Value} {ds : List (DataW H)} {ps : List MemPlace}, DataW.TrodAll enc' P W base sp hd ts vs ds ps → ds.length = ts.length
  | [], [], [], _, _ => rfl
  | [], [], _ :: _, _, h => h.elim
  | [], _ :: _, _, _, h => h.elim
  | _ :: _, [], _, _, h => h.elim
  | _ :: _, _ :: _, [], _, h => h.elim
  | _ :: _, _ :: _, _ :: _, _, ⟨_, _, _, h2, _⟩ => by simp [trodAll_length h2]
/-- A law whose call, in the second reading, answers true at all that can be read. -/
theorem law_lifted {C : Checked} {os : Os} {f : FuncId} {fn : Func} {s : ChangeSpec} {apart fresh handsOn again : Bool} {tb : TypeId}
    (own : ownKnob C.prog.godebug = none) (started : os.Started) (noInit : C.prog.inits.idxOf? f = none) (hfn : C.prog.funcs[f]? = some fn)
    (witness : ∃ (w : World) (tape : Tape) (i : Input), w.os = os ∧ (w.forCall tape i).Shaped C.prog ∧ i.vars = [] ∧ Input.okWide C.prog (w.forCall tape i) .any w.heap.size f i ∧
      s.pre6 enc' C.prog fn [] apart (w.forCall tape i).memory i.args ∧ ({} : Assume).holds C.prog (lone (Frame.enter C.prog f i.args .normal) [] (w.forCall tape i)))
    (hl : laidOutB C.prog = true) (hts : fn.params.toList.all (fun t => C.prog.readableRec t && decide (t < C.prog.types.size)) = true) (hvars : s.vars = [])
    (hres : fn.resultTypes = #[tb]) (hb : C.prog.underlying tb = some .bool) (hspec : ∀ ds : List (DataW H), ds.length = fn.params.toList.length → s.fn H (ds ++ []) = { results := [.lit (.bool true)], args := ds })
    {E : World → Env} (hE : ∀ W, EnvOk C.prog W (E W))
    (law : ∀ (W : World) (base : Nat) (args : Array Value) (ds : List (DataW H)) (ps : List MemPlace), (∀ (j : Nat) t v, fn.params[j]? = some t → args[j]? = some v → Value.okWide C.prog W .any base t v) → DataW.TrodAll enc' C.prog W 0 (fun _ => true) true fn.params.toList args.toList ds ps →
      ∃ avs, VRL ⟨fun _ => none, fun _ => 0, fun _ => 0⟩ avs args.toList ∧ ∃ H', go W (E W) f avs ⟨0, .e, .e⟩ = some (.bool true, H')) :
    ReturnsInHanded {} C os f .any (s.pre6 enc' C.prog fn [] apart) (s.post enc' C.prog fn apart fresh handsOn again) := by
  refine returnsInHanded_of_change own started noInit hfn witness ?_
  intro W base args ds gs before hval hW _ _
  have hW' := hW
  obtain ⟨p, q, hA, hV, rfl, hfz, hnd⟩ := hW
  rw [hvars] at hV
  obtain ⟨rfl, rfl⟩ := trodVars_none hV
  obtain ⟨avs, h1, h2⟩ := law W base args ds p hval hA
  refine (calls_true (hE W) h1 h2).mono fun e W' ⟨he, hbel⟩ => ?_
  subst he
  have hs := hspec ds (trodAll_length hA)
  refine ⟨_, rfl, post_of_below' (pa := p) (pv := []) hW' (fun _ _ _ => ?_) (fun sp hsp => ?_) (fun sp _ => ?_) rfl hbel ?_⟩
  · rw [hs, hres]
    exact trodAll_mk1 (shut_bool hb true)
  · rw [hs]
    have hlt : ∀ x ∈ p, x.block < W.heap.size := fun x hx => hW'.lt x (by simpa using hx)
    exact args_stay hl hbel hts hA hlt sp (fun x hx => hsp x (by simpa using hx))
  · rw [hs, hvars]; rfl
  · exact ok_one hres rfl (by simp [Value.okWide, hb, Cell.okWide, Cell.ok])
end
section
variable {P : Program} {W : World} {H : Type} {enc' : TypeId × Value → H} {sp : Nat → Bool} {hd : Bool}
theorem getN_of {l : List AV} : ∀ (n off : Nat) (cs : List AV), cs.length = n → (∀ i, i < n → l[off + i]? = cs[i]?) → Cells.getN (.lst l) off n = some cs := by
  intro n
  induction n with
  | zero => intro off cs hc _; rw [List.eq_nil_of_length_eq_zero hc]; rfl
  | succ n ih =>
    intro off cs hc h
    cases cs with
    | nil => simp at hc
    | cons c cs =>
      have h0 := h 0 (by omega)
      simp only [Nat.add_zero, List.getElem?_cons_zero] at h0
      simp only [Cells.getN, Cells.get, h0]
      rw [ih (off + 1) cs (by simpa using hc) (fun i hi => by have := h (i + 1) (by omega); rw [show off + 1 + i = off + (i + 1) from by omega, this]; simp)]
theorem cells_old {a : Addr} {n base : Nat} {cs : List Value} (h : W.cells? base a n = some cs) (hn : 0 < n) : a.spot = none ∧ ∃ c, (∀ H, blkOf W H (.old a.block) = some c) ∧ c.getN a.off n = some (cs.map enc) := by
  obtain ⟨_, hlen, hc⟩ := World.cells?_some h
  have h0 := hc 0 hn
  have e0 : a.add 0 = a := by unfold Addr.add; cases a; simp
  rw [e0, List.getElem?_eq_getElem (by omega)] at h0
  have hsp := World.cell?_spot h0
  refine ⟨hsp, ?_⟩
  unfold World.cell? at h0
  cases hb : W.heap[a.block]? with
  | none => rw [hb] at h0; cases h0
  | some o =>
    cases o with
    | cells c t fz =>
      refine ⟨.lst (c.toList.map enc), fun H => by simp only [blkOf, hb], getN_of n a.off _ (by simpa using hlen) (fun i hi => ?_)⟩
      have hi' := hc i hi
      have hai : (a.add i).block = a.block ∧ (a.add i).off = a.off + i ∧ (a.add i).spot = none := by
        unfold Addr.add
        split
        · rename_i e; subst e; exact ⟨rfl, rfl, hsp⟩
        · simp_all
      unfold World.cell? at hi'
      rw [hai.1, hb, hai.2.1, hai.2.2] at hi'
      simp only [Option.isSome_none, Bool.false_eq_true, if_false] at hi'
      rw [List.getElem?_map, List.getElem?_map, ← hi']
      simp
    | _ => rw [hb] at h0; cases h0
end
end Go.Proofs.YtjfnhdiimibmiaaDoor.Sx

/- The seat's functions are what they were compiled to. -/
namespace Go.Proofs.YtjfnhdiimibmiaaDoor.Sx
open Go.Proofs
theorem hc3 : compFn Tryd.prog 3 = some sf3 := by kernel_rfl
theorem hc5 : compFn Tryd.prog 5 = some sf5 := by kernel_rfl
theorem hc6 : compFn Tryd.prog 6 = some sf6 := by kernel_rfl
theorem hc7 : compFn Tryd.prog 7 = some sf7 := by kernel_rfl
theorem hc8 : compFn Tryd.prog 8 = some sf8 := by kernel_rfl
theorem hc9 : compFn Tryd.prog 9 = some sf9 := by kernel_rfl
theorem hc10 : compFn Tryd.prog 10 = some sf10 := by kernel_rfl
theorem hc11 : compFn Tryd.prog 11 = some sf11 := by kernel_rfl
theorem hc12 : compFn Tryd.prog 12 = some sf12 := by kernel_rfl
theorem hc17 : compFn Tryd.prog 17 = some sf17 := by kernel_rfl
theorem hc18 : compFn Tryd.prog 18 = some sf18 := by kernel_rfl
theorem hc19 : compFn Tryd.prog 19 = some sf19 := by kernel_rfl
theorem hc20 : compFn Tryd.prog 20 = some sf20 := by kernel_rfl
theorem hc21 : compFn Tryd.prog 21 = some sf21 := by kernel_rfl
theorem hc22 : compFn Tryd.prog 22 = some sf22 := by kernel_rfl
theorem hc23 : compFn Tryd.prog 23 = some sf23 := by kernel_rfl
theorem hc24 : compFn Tryd.prog 24 = some sf24 := by kernel_rfl
theorem hc29 : compFn Tryd.prog 29 = some sf29 := by kernel_rfl
theorem hc30 : compFn Tryd.prog 30 = some sf30 := by kernel_rfl
theorem hc31 : compFn Tryd.prog 31 = some sf31 := by kernel_rfl
theorem hc32 : compFn Tryd.prog 32 = some sf32 := by kernel_rfl
theorem hc33 : compFn Tryd.prog 33 = some sf33 := by kernel_rfl
theorem hc34 : compFn Tryd.prog 34 = some sf34 := by kernel_rfl
theorem hc35 : compFn Tryd.prog 35 = some sf35 := by kernel_rfl
theorem hc36 : compFn Tryd.prog 36 = some sf36 := by kernel_rfl
theorem hc37 : compFn Tryd.prog 37 = some sf37 := by kernel_rfl
theorem hc38 : compFn Tryd.prog 38 = some sf38 := by kernel_rfl
theorem hc46 : compFn Tryd.prog 46 = some sf46 := by kernel_rfl
theorem hc47 : compFn Tryd.prog 47 = some sf47 := by kernel_rfl
theorem hc48 : compFn Tryd.prog 48 = some sf48 := by kernel_rfl
theorem hc49 : compFn Tryd.prog 49 = some sf49 := by kernel_rfl
theorem hc50 : compFn Tryd.prog 50 = some sf50 := by kernel_rfl
theorem hc51 : compFn Tryd.prog 51 = some sf51 := by kernel_rfl
theorem hc52 : compFn Tryd.prog 52 = some sf52 := by kernel_rfl
theorem hc53 : compFn Tryd.prog 53 = some sf53 := by kernel_rfl
theorem hc60 : compFn Tryd.prog 60 = some sf60 := by kernel_rfl
theorem hc61 : compFn Tryd.prog 61 = some sf61 := by kernel_rfl
theorem hc62 : compFn Tryd.prog 62 = some sf62 := by kernel_rfl
theorem hc63 : compFn Tryd.prog 63 = some sf63 := by kernel_rfl
theorem hc64 : compFn Tryd.prog 64 = some sf64 := by kernel_rfl
theorem hc65 : compFn Tryd.prog 65 = some sf65 := by kernel_rfl
theorem hc66 : compFn Tryd.prog 66 = some sf66 := by kernel_rfl
theorem hc67 : compFn Tryd.prog 67 = some sf67 := by kernel_rfl
theorem hc68 : compFn Tryd.prog 68 = some sf68 := by kernel_rfl
theorem hc69 : compFn Tryd.prog 69 = some sf69 := by kernel_rfl
theorem hc70 : compFn Tryd.prog 70 = some sf70 := by kernel_rfl
theorem hc71 : compFn Tryd.prog 71 = some sf71 := by kernel_rfl
theorem hc72 : compFn Tryd.prog 72 = some sf72 := by kernel_rfl
theorem hc73 : compFn Tryd.prog 73 = some sf73 := by kernel_rfl
theorem hc74 : compFn Tryd.prog 74 = some sf74 := by kernel_rfl
theorem hc75 : compFn Tryd.prog 75 = some sf75 := by kernel_rfl
def envF : Env := fun f => match f with
  | 3 => some (.code sf3)
  | 5 => some (.code sf5)
  | 6 => some (.code sf6)
  | 7 => some (.code sf7)
  | 8 => some (.code sf8)
  | 9 => some (.code sf9)
  | 10 => some (.code sf10)
  | 11 => some (.code sf11)
  | 12 => some (.code sf12)
  | 17 => some (.code sf17)
  | 18 => some (.code sf18)
  | 19 => some (.code sf19)
  | 20 => some (.code sf20)
  | 21 => some (.code sf21)
  | 22 => some (.code sf22)
  | 23 => some (.code sf23)
  | 24 => some (.code sf24)
  | 29 => some (.code sf29)
  | 30 => some (.code sf30)
  | 31 => some (.code sf31)
  | 32 => some (.code sf32)
  | 33 => some (.code sf33)
  | 34 => some (.code sf34)
  | 35 => some (.code sf35)
  | 36 => some (.code sf36)
  | 37 => some (.code sf37)
  | 38 => some (.code sf38)
  | 46 => some (.code sf46)
  | 47 => some (.code sf47)
  | 48 => some (.code sf48)
  | 49 => some (.code sf49)
  | 50 => some (.code sf50)
  | 51 => some (.code sf51)
  | 52 => some (.code sf52)
  | 53 => some (.code sf53)
  | 60 => some (.code sf60)
  | 61 => some (.code sf61)
  | 62 => some (.code sf62)
  | 63 => some (.code sf63)
  | 64 => some (.code sf64)
  | 65 => some (.code sf65)
  | 66 => some (.code sf66)
  | 67 => some (.code sf67)
  | 68 => some (.code sf68)
  | 69 => some (.code sf69)
  | 70 => some (.code sf70)
  | 71 => some (.code sf71)
  | 72 => some (.code sf72)
  | 73 => some (.code sf73)
  | 74 => some (.code sf74)
  | 75 => some (.code sf75)
  | _ => none
theorem envF_ok (W : World) : EnvOk Tryd.prog W envF := by
  intro f e h
  unfold envF at h
  split at h
  · cases h; exact hc3
  · cases h; exact hc5
  · cases h; exact hc6
  · cases h; exact hc7
  · cases h; exact hc8
  · cases h; exact hc9
  · cases h; exact hc10
  · cases h; exact hc11
  · cases h; exact hc12
  · cases h; exact hc17
  · cases h; exact hc18
  · cases h; exact hc19
  · cases h; exact hc20
  · cases h; exact hc21
  · cases h; exact hc22
  · cases h; exact hc23
  · cases h; exact hc24
  · cases h; exact hc29
  · cases h; exact hc30
  · cases h; exact hc31
  · cases h; exact hc32
  · cases h; exact hc33
  · cases h; exact hc34
  · cases h; exact hc35
  · cases h; exact hc36
  · cases h; exact hc37
  · cases h; exact hc38
  · cases h; exact hc46
  · cases h; exact hc47
  · cases h; exact hc48
  · cases h; exact hc49
  · cases h; exact hc50
  · cases h; exact hc51
  · cases h; exact hc52
  · cases h; exact hc53
  · cases h; exact hc60
  · cases h; exact hc61
  · cases h; exact hc62
  · cases h; exact hc63
  · cases h; exact hc64
  · cases h; exact hc65
  · cases h; exact hc66
  · cases h; exact hc67
  · cases h; exact hc68
  · cases h; exact hc69
  · cases h; exact hc70
  · cases h; exact hc71
  · cases h; exact hc72
  · cases h; exact hc73
  · cases h; exact hc74
  · cases h; exact hc75
  · cases h
end Go.Proofs.YtjfnhdiimibmiaaDoor.Sx

/- LotCalls: the row. -/
namespace Go.Proofs.YtjfnhdiimibmiaaDoor.Sx
open Go.Proofs
open Go.RowKit Go.WideShapes Go.ChangeShapes Go.ChangeAt Go.WideMaps Go.WideElems
theorem Tryd.own' : ownKnob Tryd.prog.godebug = none := by kernel_rfl
theorem Tryd.laidOut' : laidOutB Tryd.prog = true := by kernel_rfl
theorem envW : EnvW envF := by constructor <;> first | rfl | (constructor <;> rfl)
theorem envL : EnvL envF := by constructor <;> first | exact envW | rfl
theorem gKinds : Tryd.prog.globalNamed "bastille/lot.kinds" = some 0 := by kernel_rfl
theorem u22 : Tryd.prog.underlying 22 = some (.array 32 5) := by kernel_rfl
theorem c22 : Tryd.prog.cellsOf 22 = 32 := by kernel_rfl
theorem u5 : Tryd.prog.underlying 5 = some (.int .u8) := by kernel_rfl
theorem c5 : Tryd.prog.cellsOf 5 = 1 := by kernel_rfl
theorem tKinds : (Tryd.prog.globals[0]?).map (·.type) = some 74 := by kernel_rfl
section
variable {W : World} {H : Type} {enc' : TypeId × Value → H} {hd : Bool}
theorem byte_in {P : Program} {e : TypeId} (he : P.underlying e = some (.int .u8)) {n : Nat} {cs : List Value} {x : DataW H × List MemPlace} (h : DataW.trod enc' P W 0 (fun _ => true) hd n e cs = some x) : ∃ b : UInt8, cs = [.int .u8 b.toNat] := by
  obtain ⟨k, rfl, _, hw⟩ := DataW.trod_int he h
  have hk : 0 ≤ k ∧ k ≤ 255 := by simpa [Lit.wf, IntKind.min, IntKind.max, IntKind.signed, IntKind.bits] using hw
  refine ⟨UInt8.ofNat k.toNat, ?_⟩
  have : ((UInt8.ofNat k.toNat).toNat : Int) = k := by
    rw [UInt8.toNat_ofNat']; omega
  rw [this]
theorem vrl_bytes {μ : Emb} : ∀ (L : List UInt8), VRL μ (cb L) (L.map fun b => .int .u8 b.toNat)
  | [] => .nil
  | _ :: L => .cons (.int _ _) (vrl_bytes L)
theorem cells_bytes : ∀ (n : Nat) (cs : List Value), cs.length = n → (∀ i, i < n → ∃ b : UInt8, (cs.drop (i * 1)).take 1 = [.int .u8 b.toNat]) → ∃ L : List UInt8, L.length = n ∧ cs = L.map fun b => .int .u8 b.toNat := by
  intro n
  induction n with
  | zero => intro cs hc _; exact ⟨[], rfl, by rw [List.eq_nil_of_length_eq_zero hc]; rfl⟩
  | succ n ih =>
    intro cs hc h
    cases cs with
    | nil => simp at hc
    | cons c cs =>
      obtain ⟨b, hb⟩ := h 0 (by omega)
      simp at hb
      obtain ⟨L, h1, h2⟩ := ih cs (by simpa using hc) (fun i hi => by have := h (i + 1) (by omega); simpa using this)
      exact ⟨b :: L, by simp [h1], by rw [hb, h2]; rfl⟩
/-- Thirty-two bytes that are read. -/
theorem seed_in {v : Value} {d : DataW H} {ps : List MemPlace} (h : DataW.Trod enc' Tryd.prog W 0 (fun _ => true) hd 22 v d ps) : ∃ L : List UInt8, L.length = 32 ∧ VR ⟨fun _ => none, fun _ => 0, fun _ => 0⟩ (.agg (cb L)) v := by
  obtain ⟨n, h⟩ := h
  obtain ⟨xs, m, rfl, _, hl, hxl, hf⟩ := DataW.trod_array u22 h
  rw [c22] at hl
  obtain ⟨L, h1, h2⟩ := cells_bytes 32 v.cells.toList hl (fun i hi => by
    have := hf i hi
    rw [c5, List.getElem?_eq_getElem (by omega)] at this
    obtain ⟨b, hb⟩ := byte_in u5 this
    exact ⟨b, hb⟩)
  refine ⟨L, h1, ?_⟩
  cases v with
  | agg a =>
    have h2 : a.toList = L.map fun b => .int .u8 b.toNat := h2
    exact .agg (by rw [h2]; exact vrl_bytes L)
  | _ => simp [Value.cells] at hl
theorem u74 : Tryd.prog.underlying 74 = some (.array 17 3) := by kernel_rfl
theorem c74 : Tryd.prog.cellsOf 74 = 17 := by kernel_rfl
theorem c3' : Tryd.prog.cellsOf 3 = 1 := by kernel_rfl
theorem u3' : Tryd.prog.underlying 3 = some (.int .i64) := by kernel_rfl
theorem ints_in {x : List (DataW H × List MemPlace)} {m : Nat} : ∀ (n : Nat) (cs : List Value) (ds : List Int), cs.length = n → x.length = n → x.map (·.1) = ds.map (fun k => .lit (.int .i64 k)) → (∀ i, i < n → DataW.trod enc' Tryd.prog W 0 (fun _ => true) hd m 3 ((cs.drop (i * 1)).take 1) = x[i]?) → ∀ i, i < n → cs[i]? = (ds[i]?).map fun k => .int .i64 k := by
  intro n cs ds hc hx hm hf i hi
  have h1 := hf i hi
  rw [List.getElem?_eq_getElem (by omega)] at h1
  obtain ⟨k, e1, e2, _⟩ := DataW.trod_int u3' h1
  have hm2 := congrArg (fun l => l[i]?) hm
  simp only [List.getElem?_map] at hm2
  rw [List.getElem?_eq_getElem (show i < x.length by omega), e2] at hm2
  have e3 : cs[i]? = some (.int .i64 k) := by
    have := congrArg List.head? e1
    rw [List.head?_take, List.head?_drop] at this
    simpa using this
  rw [e3]
  cases hd : ds[i]? with
  | none => rw [hd] at hm2; simp at hm2
  | some k' =>
    rw [hd] at hm2
    simp at hm2
    subst hm2; rfl
theorem gk_of {W : World} (h : laidMetH Tryd.prog Go.Proofs.YtjfnhdiimibmiaaDoor.Rows.lotCallsRow.laid W) : GK W := by
  rw [MakeChecks.laidMetH_plain _ _ _ (by kernel_rfl)] at h
  obtain ⟨ps, ⟨g0, t0, cs0, f0, p0, q0, hg0, ht0, hv0, hd0, _, _⟩, _, _⟩ := h
  obtain rfl := Option.some.inj (gKinds.symm.trans hg0)
  obtain rfl := Option.some.inj (tKinds.symm.trans ht0)
  obtain ⟨xs, m, _, hx, hl, hxl, hf⟩ := DataW.trod_array u74 hd0
  rw [c74] at hl
  simp only [Prod.mk.injEq] at hx
  have hm : xs.map (·.1) = ([2, 8, 8, 8, 5, 5, 6, 7, 9, 9, 10, 12, 13, 11, 3, 4, 14] : List Int).map (fun k => .lit (.int .i64 k)) := by
    have := hx.1
    unfold Go.Proofs.YtjfnhdiimibmiaaDoor.Rows.laid_bastille_lot_kinds at this
    simp only [DataW.agg.injEq] at this
    exact this.symm
  rw [c3'] at hf
  have hi := ints_in 17 cs0.toList _ hl hxl hm hf
  have hcell : ∀ i, i < 17 → W.cell? ⟨0, i, none⟩ = some (.int .i64 ((KND.getD i 0 : Nat) : Int)) := fun i h17 => by
    have h1 := World.var?_cell hg0 hv0 i
    rw [h1, ← Array.getElem?_toList, hi i h17]
    have : ∀ i, i < 17 → (([2, 8, 8, 8, 5, 5, 6, 7, 9, 9, 10, 12, 13, 11, 3, 4, 14] : List Int)[i]?).map (fun k => (.int .i64 k : Value)) = some (.int .i64 ((KND.getD i 0 : Nat) : Int)) := by
      intro i h
      match i, h with
      | 0, _ | 1, _ | 2, _ | 3, _ | 4, _ | 5, _ | 6, _ | 7, _ | 8, _ | 9, _ | 10, _ | 11, _ | 12, _ | 13, _ | 14, _ | 15, _ | 16, _ => rfl
      | i + 17, h => exact absurd h (by omega)
    exact this i h17
  have h0 := hcell 0 (by omega)
  unfold World.cell? at h0
  cases hb : W.heap[0]? with
  | none => rw [hb] at h0; cases h0
  | some o =>
    cases o with
    | cells c t fz =>
      refine ⟨.lst (c.toList.map enc), fun H => by simp only [blkOf, hb], fun i h17 => ?_⟩
      have h2 := hcell i h17
      unfold World.cell? at h2
      rw [hb] at h2
      simp only [Option.isSome_none, Bool.false_eq_true, if_false] at h2
      simp only [Cells.get]
      rw [List.getElem?_map, Array.getElem?_toList, h2]; rfl
    | _ => rw [hb] at h0; cases h0
end
open Go.Proofs.YtjfnhdiimibmiaaDoor
theorem door_met (os : Os) (args : Array Value) : laidMetH Tryd.prog Rows.lotCallsRow.laid ((World.doorLaid Tryd.prog 400 os).forCall (fun _ _ => 0) ⟨#[], args, []⟩).memory :=
  laidMetH_of_parts3 (fuel := 8) (laidMet_of_run' 8 (by kernel_rfl) (by kernel_rfl)) (by kernel_rfl) (by kernel_rfl)
set_option maxRecDepth 100000 in
theorem lotCalls_lifted (os : Os) (started : os.Started) (H : Type) (enc' : TypeId × Value → H) :
    ReturnsInHanded {} Tryd.checked os 3 .any (fun w args => (Rows.lotCallsSpec.pre enc' Tryd.prog Tryd.f3 [] false w args ∧ laidMetH Tryd.prog Rows.lotCallsRow.laid w) ∧ sizedMet enc' Tryd.prog Tryd.f3 (OpenSpec.ofChange Rows.lotCallsSpec) false w args)
      (Rows.lotCallsSpec.post enc' Tryd.prog Tryd.f3 false true false false) := by
  refine returnsInHanded_of_change_and (C := Tryd.checked) (X := fun w _ => laidMetH Tryd.prog Rows.lotCallsRow.laid w) (fun _ _ _ hh h => h.of_heap hh) Tryd.own' started (by kernel_rfl) Tryd.func3
    (ChangeSpec.witness_shaped (enc := enc') (C := Tryd.checked) (os := os) (X := fun w _ => laidMetH Tryd.prog Rows.lotCallsRow.laid w) false (World.doorLaid Tryd.prog 400 os) #[.agg (Array.replicate 32 (.int .u8 0)), .int .i64 0, .int .i64 0] 8 rfl (World.shaped_of_RefB (by kernel_rfl) (by kernel_rfl)) (by kernel_rfl) (by kernel_rfl) (by kernel_rfl) (door_met os _)) ?_
  intro W base args ds gs before hval0 hW _ _ hL _
  have hval : ∀ (j : Nat) t v, Tryd.f3.params[j]? = some t → args[j]? = some v → Value.okWide Tryd.prog W .any base t v := hval0
  have hW' := hW
  obtain ⟨p, q, hA0, hV, rfl, hfz, hnd⟩ := hW
  have hA : DataW.TrodAll enc' Tryd.prog W 0 (fun _ => true) true Tryd.f3.params.toList args.toList ds p := hA0
  obtain ⟨rfl, rfl⟩ := trodVars_none hV
  have hA3 : DataW.TrodAll enc' Tryd.prog W 0 (fun _ => true) true [22, 3, 3] args.toList ds p := by
    have := hA
    rw [Tryd.params3] at this; exact this
  obtain ⟨v0, v1, v2, d0, d1, d2, p0, p1, p2, rfl, rfl, rfl, h0, h1, h2⟩ := trodAll_three hA3
  rw [Tryd.params3] at hval
  obtain ⟨n1, rfl, rfl, rfl, _⟩ := open_int u3' (hval 1 3 v1 rfl rfl) h1
  obtain ⟨n2, rfl, rfl, rfl, _⟩ := open_int u3' (hval 2 3 v2 rfl rfl) h2
  obtain ⟨L, hl, hvr⟩ := seed_in h0
  have hg := gk_of hL
  obtain ⟨H', hgo⟩ := law_calls (W := W) (E := envF) (H := ⟨0, .e, .e⟩) (Γ := []) envL hg hl n1 n2 (Holds.nil HWf.empty)
  refine (calls_true (envF_ok W) (f := 3) (avs := [.agg (cb L), .int .i64 n1, .int .i64 n2]) (.cons hvr (.cons (.int _ _) (.cons (.int _ _) .nil))) ⟨H', hgo⟩).mono fun e W' ⟨he, hbel⟩ => ?_
  subst he
  refine ⟨_, rfl, post_of_below' (pa := p0 ++ [] ++ []) (pv := []) hW' (fun _ _ _ => ?_) (fun sp hsp => ?_) (fun sp _ => rfl) rfl hbel ?_⟩
  · exact trodAll_mk1 (shut_bool Tryd.underlying4 true)
  · have hlt : ∀ x ∈ p0 ++ [] ++ [], x.block < W.heap.size := fun x hx => hW'.lt x (by simpa using hx)
    exact args_stay Tryd.laidOut' hbel (by rw [Tryd.params3]; kernel_rfl) hA hlt sp (fun x hx => hsp x (by simpa using hx))
  · exact ok_one (by kernel_rfl) rfl (okWide_bool_mk Tryd.underlying4 _)
theorem lotCalls_holds : Rows.LotCallsSaid :=
  OpenClaim.holds_of_wide 3 Tryd.f3 rfl rfl rfl rfl rfl rfl rfl ⟨rfl, rfl, rfl, rfl, rfl⟩ rfl rfl rfl rfl rfl (by kernel_rfl) Tryd.func3 (by kernel_rfl)
    (of_decide_eq_true (by kernel_rfl)) (by unfold Func.isWrapper; first | (rw [if_pos (by decide +kernel)]; kernel_rfl) | (rw [if_neg (by decide +kernel)]; exact ⟨rfl, rfl⟩))
    (fun os started H enc _ => lotCalls_lifted os started H enc)
end Go.Proofs.YtjfnhdiimibmiaaDoor.Sx

/- LotCalls: the card. -/
namespace Go.Proofs.YtjfnhdiimibmiaaDoor.Sx
open Go.Proofs
open Go.Proofs.YtjfnhdiimibmiaaDoor
theorem lotCallsCard_holds : Rows.LotCallsCardSaid :=
  Claim7.holds_tied_plain_at .later [] [.data] true (true, "b9ce61e8288dbd922feb2430169bee0c13e856a5f3c4720026433ba06d84c94c") false
    lotCalls_holds (fun _ h => by cases h) (by kernel_rfl) (fun _ h => by cases h) lotCalls_row_tie rfl ⟨rfl, rfl⟩ (by kernel_rfl) rfl
    (fun f fn hf hfn => by
      obtain rfl : f = 3 := Option.some.inj ((show Tryd.prog.funcNamed "bastille/bastillelaw43.LotCalls" = some 3 by kernel_rfl).symm.trans hf) |>.symm
      obtain rfl : fn = Tryd.f3 := (Option.some.inj (Tryd.func3.symm.trans hfn)).symm
      exact ⟨by kernel_rfl, fun j t ht => by
        rw [Tryd.params3] at ht
        have hm : t ∈ [22, 3, 3] := by simpa using Array.mem_of_getElem? ht
        have hall : ([22, 3, 3].all fun u => !Tryd.prog.wantsStandIn u) = true := by kernel_rfl
        exact (show Tryd.prog.wantsStandIn t = false by simpa using List.all_eq_true.1 hall t hm)⟩)
    (by kernel_rfl)
end Go.Proofs.YtjfnhdiimibmiaaDoor.Sx

namespace Go.Proofs.YtjfnhdiimibmiaaDoor
theorem lotCallsCard_holds : Rows.LotCallsCardSaid := Sx.lotCallsCard_holds
end Go.Proofs.YtjfnhdiimibmiaaDoor
