/- The statement Rows.LotMayCardSaid: proved by a second, deterministic reading of the program that is sound for every order of evaluation and every capacity; no condition beyond the given row. -/
import Derived.Test.YtjfnhdiimibmiaaDoorMaF
import Derived.Test.YtjfnhdiimibmiaaDoorMaB
import Derived.ProofKit
import Derived.Below
import Derived.ChangeSame
import Derived.ReadAgain
import Derived.Test.YtjfnhdiimibmiaaDoorMaD
import Derived.Test.YtjfnhdiimibmiaaDoorChecked
import Derived.KernelRfl
import Derived.Test.YtjfnhdiimibmiaaDoorRows
import Derived.LaidMore
import Derived.OpenShut
import Derived.Stop.Joined
import Derived.Test.YtjfnhdiimibmiaaDoorCards
import Derived.Test.YtjfnhdiimibmiaaDoorTie
import Derived.SevenTiedAt
/- Lists of events, the document's. -/
namespace Go.Proofs.YtjfnhdiimibmiaaDoor.Sx
open HP
theorem take_step (L : List UInt8) (a k : Nat) (h : a < L.length) : (L.drop a).take (k + 1) = L.getD a 0 :: (L.drop (a + 1)).take k := by
  rw [List.drop_eq_getElem_cons h, List.take_succ_cons, List.getD_eq_getElem?_getD, List.getElem?_eq_getElem h]; rfl
section
variable {W : World} {E : Env} {H : Heap} {Γ : List HP}
theorem ev_snoc {xs : List (PEv × AV × AV)} {es : List PEv} {D R : HP} {e : PEv} {a b : AV} (h1 : xs.map Prod.fst = es) (h2 : ∀ x ∈ xs, pevR W x D) (h3 : pevR W (e, a, b) R) : (xs ++ [(e, a, b)]).map Prod.fst = es ++ [e] ∧ ∀ x ∈ xs ++ [(e, a, b)], pevR W x (HP.sep R D) := by
  refine ⟨by rw [List.map_append, h1]; rfl, fun x hx => ?_⟩
  rcases List.mem_append.1 hx with h | h
  · exact (h2 x h).sepR
  · simp at h; subst h; exact h3.sepL
theorem devents_loop (hE : EnvW E) {seed : List UInt8} (hs : seed.length = 32) {j2 n : Nat} (hn : n ≤ 1024) {df : List Nat} : ∀ (m i : Nat) (A : Tm) (H : Heap) (v : AV), i + m = n → getX A 1 = .int .i64 n → getX A 2 = .ptr (some ⟨.own j2, 0⟩) → getX A 5 = v → getX A 6 = .int .i64 i → EsH W (pevs seed i) H v (blk j2 (cb seed) 22 :: Γ) →
    ∃ lv A' H', run W E (.loop lp13_0) ⟨A, df, none⟩ H = some (lv, ⟨A', df, none⟩, H') ∧ (lv = .exit 0 ∧ ∃ v', getX A' 5 = v' ∧ EsH W (pevs seed n) H' v' (blk j2 (cb seed) 22 :: Γ)) := by
  have hlp : ∀ f H, run W E lp13_0 f H = run W E lp13_0 f H := fun _ _ => rfl
  conv at hlp => enter [f, H, 2]; unfold lp13_0
  intro m
  induction m with
  | zero =>
    intro i A H v him a1 a2 a5 a6 h
    have : i = n := by omega
    subst this
    have hlt : ¬ (i : Int) < i := by omega
    rw [run_loop]
    simp only [hlp, a1, a6, hlt, ↓sxp, sxq, seval, evP, evX, evR, blkOf, evA, storeA, resL, resV, oneOrTup, noUnk, AV.cells, Cells.get, ↓bnd_assoc]
    exact ⟨_, _, _, rfl, rfl, v, by simp only [a5, ↓sxp, sxq, seval, evP, evX, evR, blkOf, evA, storeA, resL, resV, oneOrTup, noUnk, AV.cells, Cells.get, ↓bnd_assoc], h⟩
  | succ m ih =>
    intro i A H v him a1 a2 a5 a6 h
    have hlt : (i : Int) < n := by omega
    have hwr : IntKind.i64.wrap ((i : Int) + 1) = ((i + 1 : Nat) : Int) := by rw [w64 (by omega)]; simp
    obtain ⟨xs, D, hx1, hx2, hh⟩ := h
    have g2 := (hh.ord [2]).get
    have hgs := getN_cb hs
    apply Fin.ex3
    rw [run_loop]
    generalize hcs : cb seed = cs at *
    simp only [hlp, a1, a2, a6, hlt, ↓g2, ↓hgs, ↓sxp, sxq, seval, evP, evX, evR, blkOf, evA, storeA, resL, resV, oneOrTup, noUnk, AV.cells, Cells.get, ↓bnd_assoc]
    subst hcs
    refine Fin.call (c_dlot hE hs (show i ≤ 1024 by omega) hh) fun H3 h3 => ?_
    have hl := lotF_len seed i
    have hevs : evsF seed i = (if ((lotF seed i).getD 8 0).toNat < 64 then [powF (lotF seed i)] else []) ++ [.call (callF seed i)] := rfl
    have hps := pevs_succ seed i
    rw [hevs] at hps
    generalize lotF seed i = L at *
    have hc32 : (cb L).length = 32 := by rw [cb_len, hl]
    have h4 := h3.push (c := z32) (t := 22)
    simp only [hc32, z32_eq, ↓sxp, sxq, seval, evP, evX, evR, blkOf, evA, storeA, resL, resV, oneOrTup, noUnk, AV.cells, Cells.get, ↓bnd_assoc]
    generalize H3.next = j7 at *
    refine Fin.write (cb L) h4 (setN_all (by rw [hc32]; rfl)) (by rw [hc32]; exact Nat.le_refl _) (cb_one L) fun H5 h5 => ?_
    have g5 := h5.get
    have x8 : (cb L)[8]? = some (.int .u8 (L.getD 8 0).toNat) := cb_get (show 8 < L.length by omega)
    have hxl := pevs_len seed i
    rw [← hx1, List.length_map] at hxl
    by_cases h64 : (L.getD 8 0).toNat < 64
    · have h64' : ((L.getD 8 0).toNat : Int) < 64 := by omega
      rw [if_pos h64] at hps
      have x9 : (cb L)[9]? = some (.int .u8 (L.getD 9 0).toNat) := cb_get (show 9 < L.length by omega)
      have x10 : (cb L)[10]? = some (.int .u8 (L.getD 10 0).toNat) := cb_get (show 10 < L.length by omega)
      have x11 : (cb L)[11]? = some (.int .u8 (L.getD 11 0).toNat) := cb_get (show 11 < L.length by omega)
      have x12 : (cb L)[12]? = some (.int .u8 (L.getD 12 0).toNat) := cb_get (show 12 < L.length by omega)
      have x13 : (cb L)[13]? = some (.int .u8 (L.getD 13 0).toNat) := cb_get (show 13 < L.length by omega)
      have x14 : (cb L)[14]? = some (.int .u8 (L.getD 14 0).toNat) := cb_get (show 14 < L.length by omega)
      have x15 : (cb L)[15]? = some (.int .u8 (L.getD 15 0).toNat) := cb_get (show 15 < L.length by omega)
      have x24 : (cb L)[24]? = some (.int .u8 (L.getD 24 0).toNat) := cb_get (show 24 < L.length by omega)
      have x25 : (cb L)[25]? = some (.int .u8 (L.getD 25 0).toNat) := cb_get (show 25 < L.length by omega)
      have x26 : (cb L)[26]? = some (.int .u8 (L.getD 26 0).toNat) := cb_get (show 26 < L.length by omega)
      have w1 : IntKind.i64.wrap (((L.getD 9 0).toNat : Int) + ((L.getD 10 0).toNat : Int)) = (((L.getD 9 0).toNat + (L.getD 10 0).toNat : Nat) : Int) := by
        have := (L.getD 9 0).toNat_lt
        have := (L.getD 10 0).toNat_lt
        rw [w64 (by omega)]; simp
      have t5 : (L.drop 11).take 5 = [L.getD 11 0, L.getD 12 0, L.getD 13 0, L.getD 14 0, L.getD 15 0] := by
        rw [take_step L 11 4 (by omega), take_step L 12 3 (by omega), take_step L 13 2 (by omega), take_step L 14 1 (by omega), take_step L 15 0 (by omega), List.take_zero]
      have t2 : (L.drop 25).take 2 = [L.getD 25 0, L.getD 26 0] := by
        rw [take_step L 25 1 (by omega), take_step L 26 0 (by omega), List.take_zero]
      have hz5 : zerosL [AV.int .u8 0] 5 = [AV.int .u8 0, .int .u8 0, .int .u8 0, .int .u8 0, .int .u8 0] := rfl
      have hz2 : zerosL [AV.int .u8 0] 2 = [AV.int .u8 0, .int .u8 0] := rfl
      have h6 := h5.push (c := [.int .u8 (L.getD 11 0).toNat, .int .u8 (L.getD 12 0).toNat, .int .u8 (L.getD 13 0).toNat, .int .u8 (L.getD 14 0).toNat, .int .u8 (L.getD 15 0).toNat]) (t := 5)
      have g6 := (h6.ord [1]).get
      have h7 := h6.push (c := [.int .u8 (L.getD 25 0).toNat, .int .u8 (L.getD 26 0).toNat]) (t := 5)
      have h8 := h7.push (c := [.int .i64 0, nilS, .int .i64 0, nilS]) (t := 44)
      simp only [push_next] at h7 h8
      simp only [nc32, ↓g5, ↓g6, x8, h64', x9, x10, x11, x12, x13, x14, x15, x24, x25, x26, conv_i64, w1, hz5, hz2, ↓sxp, sxq, seval, evP, evX, evR, blkOf, evA, storeA, resL, resV, oneOrTup, noUnk, AV.cells, Cells.get, ↓bnd_assoc]
      generalize H5.next = j37 at *
      have hva : oneC (.sl (some ⟨.own j37, 0⟩) 5 (.exact 5)) = true := rfl
      have hvb : oneC (.sl (some ⟨.own (j37 + 1), 0⟩) 2 (.exact 2)) = true := rfl
      generalize hvae : AV.sl (some ⟨.own j37, 0⟩) 5 (.exact 5) = va at *
      generalize hvbe : AV.sl (some ⟨.own (j37 + 1), 0⟩) 2 (.exact 2) = vb at *
      refine Fin.write [.int .i64 (((L.getD 9 0).toNat + (L.getD 10 0).toNat : Nat) : Int), va, .int .i64 ((L.getD 24 0).toNat : Int), vb] h8 rfl (by simp) (by simp only [List.all_cons, List.all_nil, hva, hvb, oneC_int, Bool.and_self]) fun HE hE2 => ?_
      have gE := hE2.get
      have hg4 : ∀ a b c d : AV, Cells.getN (.lst [a, b, c, d]) 0 4 = some [a, b, c, d] := fun _ _ _ _ => rfl
      have hp1 : pevC (powF L) va vb = [.int .i64 4, .int .i64 0, .str [], .str [], .str [], .str [], .int .i64 0, .int .i64 0, nilS, .int .i64 0, .int .i64 (((L.getD 9 0).toNat + (L.getD 10 0).toNat : Nat) : Int), va, .int .i64 ((L.getD 24 0).toNat : Int), vb, .str [], .str [], nilS] := rfl
      have hp2 : (pevC (powF L) va vb).all oneC = true := by
        rw [hp1]
        simp only [List.all_cons, List.all_nil, hva, hvb, oneC_int, oneC_str, oneC_sl, Bool.and_self]
      have hp3 := pevC_len (powF L) va vb
      have hF := hE2.push (c := pevC (powF L) va vb) (t := 46)
      simp only [a5, ↓gE, ↓hg4, ↓sxp, sxq, seval, evP, evX, evR, blkOf, evA, storeA, resL, resV, oneOrTup, noUnk, AV.cells, Cells.get, ↓bnd_assoc]
      rw [← hp1]
      have gF := hF.get
      generalize hQ : pevC (powF L) va vb = Q at *
      have hgQ : Cells.getN (.lst Q) 0 17 = some Q := by
        have := getN_all Q
        rw [hp3] at this; exact this
      refine Fin.app (hF.ord [5]) (by omega) (by simp only [srcA, blkOf, gF, Nat.one_mul, hgQ]; rfl) (by omega) (new := Q) (n := xs.length) (by rw [hp3]) hp2 (flatE_len xs) (by omega) fun vp K5 hG => ?_
      rw [← hQ, ← flatE_snoc xs (powF L, va, vb)] at hG
      have rA : RdLike W ((L.drop 11).take 5) va (blk j37 [.int .u8 (L.getD 11 0).toNat, .int .u8 (L.getD 12 0).toNat, .int .u8 (L.getD 13 0).toNat, .int .u8 (L.getD 14 0).toNat, .int .u8 (L.getD 15 0).toNat] 5) := by
        rw [t5, ← hvae]
        exact @RdLike.exb W [L.getD 11 0, L.getD 12 0, L.getD 13 0, L.getD 14 0, L.getD 15 0] j37 5 rfl 5
      have rB : RdLike W ((L.drop 25).take 2) vb (blk (j37 + 1) [.int .u8 (L.getD 25 0).toNat, .int .u8 (L.getD 26 0).toNat] 5) := by
        rw [t2, ← hvbe]
        exact @RdLike.exb W [L.getD 25 0, L.getD 26 0] (j37 + 1) 2 rfl 5
      generalize hcA : ([.int .u8 (L.getD 11 0).toNat, .int .u8 (L.getD 12 0).toNat, .int .u8 (L.getD 13 0).toNat, .int .u8 (L.getD 14 0).toNat, .int .u8 (L.getD 15 0).toNat] : List AV) = cA at *
      generalize hcB : ([.int .u8 (L.getD 25 0).toNat, .int .u8 (L.getD 26 0).toNat] : List AV) = cB at *
      have kp : Holds K5 (row 46 17 (flatE (xs ++ [(powF L, va, vb)])) vp :: HP.sep (blk j37 cA 5) (HP.sep (blk (j37 + 1) cB 5) D) :: blk j2 (cb seed) 22 :: Γ) := by
        have q := ((hG.rm 1).rm 1).rm 3
        have q2 := (q.ord [1, 2]).sep'.ord [2, 0]
        exact q2.sep'.ord [1]
      obtain ⟨y1, y2⟩ := ev_snoc (R := HP.sep (blk j37 cA 5) (blk (j37 + 1) cB 5)) hx1 hx2 (show pevR W (powF L, va, vb) (HP.sep (blk j37 cA 5) (blk (j37 + 1) cB 5)) from ⟨RdLike.sepL rA, RdLike.sepR rB⟩)
      have y2' : ∀ x ∈ xs ++ [(powF L, va, vb)], pevR W x (HP.sep (blk j37 cA 5) (HP.sep (blk (j37 + 1) cB 5) D)) := fun x hx => by
        rcases List.mem_append.1 hx with hx | hx
        · exact ((hx2 x hx).sepR).sepR
        · simp at hx; subst hx
          exact ⟨RdLike.sepL rA, RdLike.sepR (RdLike.sepL rB)⟩
      have hyl : (xs ++ [(powF L, va, vb)]).length ≤ 2 * i + 1 := by rw [List.length_append]; simp; omega
      generalize xs ++ [(powF L, va, vb)] = ys at *
      generalize HP.sep (blk j37 cA 5) (HP.sep (blk (j37 + 1) cB 5) D) = D' at *
      have gkb := (kp.ord [2]).get
      simp only [a2, a6, ↓gkb, ↓hgs, ↓sxp, sxq, seval, evP, evX, evR, blkOf, evA, storeA, resL, resV, oneOrTup, noUnk, AV.cells, Cells.get, ↓bnd_assoc]
      refine Fin.callX (fun r H' => ∃ dv, r = .agg (cfC (callF seed i) dv) ∧ ∃ R, RdLike W (callF seed i).data dv R ∧ Holds H' (R :: row 46 17 (flatE ys) vp :: D' :: blk j2 (cb seed) 22 :: Γ)) (by obtain ⟨dv, H', e, q⟩ := c_dcall (W := W) hE hs (show i ≤ 1024 by omega) kp; exact ⟨_, H', e, dv, rfl, q⟩) fun r K6 ⟨dv, hr, R, hR, k6⟩ => ?_
      subst hr
      have hd1 := (hR k6).one.2.2
      have hc8 := cfC_len (callF seed i) dv
      have hco := cfC_one (callF seed i) dv hd1
      have hpc : pevC (.call (callF seed i)) dv dv = .int .i64 1 :: (cfC (callF seed i) dv ++ [.int .i64 0, .int .i64 0, nilS, .int .i64 0, nilS, .str [], .str [], nilS]) := rfl
      have hpo : (pevC (.call (callF seed i)) dv dv).all oneC = true := by
        rw [hpc, List.all_cons, List.all_append, hco]; rfl
      have hpl := pevC_len (.call (callF seed i)) dv dv
      generalize hC : cfC (callF seed i) dv = C at *
      simp only [hc8, List.length_append, ↓sxp, sxq, seval, evP, evX, evR, blkOf, evA, storeA, resL, resV, oneOrTup, noUnk, AV.cells, Cells.get, ↓bnd_assoc]
      rw [← hpc]
      generalize hP : pevC (.call (callF seed i)) dv dv = P at *
      have k7 := k6.push (c := P) (t := 46)
      have g7 := k7.get
      have hgP : Cells.getN (.lst P) 0 17 = some P := by
        have := getN_all P
        rw [hpl] at this; exact this
      refine Fin.app (k7.ord [2]) (by omega) (by simp only [srcA, blkOf, g7, Nat.one_mul, hgP]; rfl) (by omega) (new := P) (n := ys.length) (by rw [hpl]) hpo (flatE_len ys) (by omega) fun v' K8 k8 => ?_
      rw [← hP, ← flatE_snoc ys (PEv.call (callF seed i), dv, dv)] at k8
      have k9 : Holds K8 (row 46 17 (flatE (ys ++ [(PEv.call (callF seed i), dv, dv)])) v' :: HP.sep R D' :: blk j2 (cb seed) 22 :: Γ) := by
        have q := (k8.rm 1).ord [1, 1]
        exact (q.sep').ord [1]
      obtain ⟨z1, z2⟩ := ev_snoc (R := R) y1 y2' (show pevR W (PEv.call (callF seed i), dv, dv) R from hR)
      simp only [a6, hwr, ↓sxp, sxq, seval, evP, evX, evR, blkOf, evA, storeA, resL, resV, oneOrTup, noUnk, AV.cells, Cells.get, ↓bnd_assoc]
      exact Fin.of3 (ih (i + 1) _ _ v' (by omega) (by simp only [a1, ↓sxp, sxq, seval, evP, evX, evR, blkOf, evA, storeA, resL, resV, oneOrTup, noUnk, AV.cells, Cells.get, ↓bnd_assoc]) (by simp only [a2, ↓sxp, sxq, seval, evP, evX, evR, blkOf, evA, storeA, resL, resV, oneOrTup, noUnk, AV.cells, Cells.get, ↓bnd_assoc]) (by simp only [↓sxp, sxq, seval, evP, evX, evR, blkOf, evA, storeA, resL, resV, oneOrTup, noUnk, AV.cells, Cells.get, ↓bnd_assoc]) (by simp only [↓sxp, sxq, seval, evP, evX, evR, blkOf, evA, storeA, resL, resV, oneOrTup, noUnk, AV.cells, Cells.get, ↓bnd_assoc]) ⟨_, HP.sep R D', by rw [z1, hps, List.append_assoc], z2, k9⟩) fun lv A' H' q => q
    · have h64' : ¬ ((L.getD 8 0).toNat : Int) < 64 := by omega
      rw [if_neg h64, List.nil_append] at hps
      have g5b := (h5.ord [3]).get
      generalize hcs : cb seed = cs at *
      simp only [a2, a5, a6, nc32, ↓g5, ↓g5b, ↓hgs, x8, h64', ↓sxp, sxq, seval, evP, evX, evR, blkOf, evA, storeA, resL, resV, oneOrTup, noUnk, AV.cells, Cells.get, ↓bnd_assoc]
      subst hcs
      refine Fin.callX (fun r H' => ∃ dv, r = .agg (cfC (callF seed i) dv) ∧ ∃ R, RdLike W (callF seed i).data dv R ∧ Holds H' (R :: blk j7 (cb L) 22 :: row 46 17 (flatE xs) v :: D :: blk j2 (cb seed) 22 :: Γ)) (by obtain ⟨dv, H', e, q⟩ := c_dcall (W := W) hE hs (show i ≤ 1024 by omega) h5; exact ⟨_, H', e, dv, rfl, q⟩) fun r K6 ⟨dv, hr, R, hR, k6⟩ => ?_
      subst hr
      have hd1 := (hR k6).one.2.2
      have hc8 := cfC_len (callF seed i) dv
      have hco := cfC_one (callF seed i) dv hd1
      have hpc : pevC (.call (callF seed i)) dv dv = .int .i64 1 :: (cfC (callF seed i) dv ++ [.int .i64 0, .int .i64 0, nilS, .int .i64 0, nilS, .str [], .str [], nilS]) := rfl
      have hpo : (pevC (.call (callF seed i)) dv dv).all oneC = true := by
        rw [hpc, List.all_cons, List.all_append, hco]; rfl
      have hpl := pevC_len (.call (callF seed i)) dv dv
      generalize hC : cfC (callF seed i) dv = C at *
      simp only [hc8, List.length_append, ↓sxp, sxq, seval, evP, evX, evR, blkOf, evA, storeA, resL, resV, oneOrTup, noUnk, AV.cells, Cells.get, ↓bnd_assoc]
      rw [← hpc]
      generalize hP : pevC (.call (callF seed i)) dv dv = P at *
      have k7 := k6.push (c := P) (t := 46)
      have g7 := k7.get
      have hgP : Cells.getN (.lst P) 0 17 = some P := by
        have := getN_all P
        rw [hpl] at this; exact this
      refine Fin.app (k7.ord [3]) (by omega) (by simp only [srcA, blkOf, g7, Nat.one_mul, hgP]; rfl) (by omega) (new := P) (n := xs.length) (by rw [hpl]) hpo (flatE_len xs) (by omega) fun v' K8 k8 => ?_
      rw [← hP, ← flatE_snoc xs (PEv.call (callF seed i), dv, dv)] at k8
      have k9 : Holds K8 (row 46 17 (flatE (xs ++ [(PEv.call (callF seed i), dv, dv)])) v' :: HP.sep R D :: blk j2 (cb seed) 22 :: Γ) := by
        have q := (((k8.rm 1).rm 2)).ord [1, 1]
        exact (q.sep').ord [1]
      obtain ⟨y1, y2⟩ := ev_snoc (R := R) hx1 hx2 (show pevR W (PEv.call (callF seed i), dv, dv) R from hR)
      simp only [a6, hwr, ↓sxp, sxq, seval, evP, evX, evR, blkOf, evA, storeA, resL, resV, oneOrTup, noUnk, AV.cells, Cells.get, ↓bnd_assoc]
      exact Fin.of3 (ih (i + 1) _ _ v' (by omega) (by simp only [a1, ↓sxp, sxq, seval, evP, evX, evR, blkOf, evA, storeA, resL, resV, oneOrTup, noUnk, AV.cells, Cells.get, ↓bnd_assoc]) (by simp only [a2, ↓sxp, sxq, seval, evP, evX, evR, blkOf, evA, storeA, resL, resV, oneOrTup, noUnk, AV.cells, Cells.get, ↓bnd_assoc]) (by simp only [↓sxp, sxq, seval, evP, evX, evR, blkOf, evA, storeA, resL, resV, oneOrTup, noUnk, AV.cells, Cells.get, ↓bnd_assoc]) (by simp only [↓sxp, sxq, seval, evP, evX, evR, blkOf, evA, storeA, resL, resV, oneOrTup, noUnk, AV.cells, Cells.get, ↓bnd_assoc]) ⟨_, HP.sep R D, by rw [y1, hps], y2, k9⟩) fun lv A' H' q => q
theorem c_devents (hE : EnvW E) (h13 : E 13 = some (.code sf13)) {seed : List UInt8} {n : Nat} (hs : seed.length = 32) (hn : n ≤ 1024) (h : Holds H Γ) :
    ∃ v H', go W E 13 [.agg (cb seed), .int .i64 (n : Int)] H = some (v, H') ∧ EsH W (pevs seed n) H' v Γ := by
  suffices hh : Fin (fun r : AV × Heap => EsH W (pevs seed n) r.2 r.1 Γ) (go W E 13 [.agg (cb seed), .int .i64 (n : Int)] H) by
    obtain ⟨⟨r, H'⟩, e, q⟩ := hh
    exact ⟨r, H', e, q⟩
  have h2 := h.push (c := cb seed) (t := 22)
  have h4 : EsH W (pevs seed 0) (H.push (.cells (.lst (cb seed)) 22 none)) nilS (blk H.next (cb seed) 22 :: Γ) := ⟨[], HP.emp, rfl, fun x hx => by simp at hx, ((h2.empty).row_nil)⟩
  rw [go_code h13 (by simp [sf13])]
  generalize hcs : cb seed = cs at *
  simp only [sf13, ↓sxp, sxq, seval, evP, evX, evR, blkOf, evA, storeA, resL, resV, oneOrTup, noUnk, AV.cells, Cells.get, ↓bnd_assoc]
  subst hcs
  refine Fin.loop (devents_loop (Γ := Γ) (j2 := H.next) hE hs hn n 0 _ _ nilS (by omega) (by simp only [↓sxp, sxq, seval, evP, evX, evR, blkOf, evA, storeA, resL, resV, oneOrTup, noUnk, AV.cells, Cells.get, ↓bnd_assoc]) (by simp only [↓sxp, sxq, seval, evP, evX, evR, blkOf, evA, storeA, resL, resV, oneOrTup, noUnk, AV.cells, Cells.get, ↓bnd_assoc]) (by simp only [↓sxp, sxq, seval, evP, evX, evR, blkOf, evA, storeA, resL, resV, oneOrTup, noUnk, AV.cells, Cells.get, ↓bnd_assoc]) (by simp only [↓sxp, sxq, seval, evP, evX, evR, blkOf, evA, storeA, resL, resV, oneOrTup, noUnk, AV.cells, Cells.get, ↓bnd_assoc] <;> rfl) h4) fun lv A H5 ⟨e1, v, a5, h5⟩ => ?_
  subst e1
  simp only [a5, ↓sxp, sxq, seval, evP, evX, evR, blkOf, evA, storeA, resL, resV, oneOrTup, noUnk, AV.cells, Cells.get, ↓bnd_assoc]
  obtain ⟨xs, D2, q1, q2, q3⟩ := h5
  exact Fin.ret ⟨xs, D2, q1, q2, q3.rm 2⟩
end
end Go.Proofs.YtjfnhdiimibmiaaDoor.Sx

/- Calls that may be. -/
namespace Go.Proofs.YtjfnhdiimibmiaaDoor.Sx
open HP
inductive COk : CF → Prop
  | reg (a : _root_.Fin 10) : COk ⟨1, nameF 117 a.1, [], [], [], 0, 0, []⟩
  | dep (a b : _root_.Fin 10) (h : a.1 ≠ b.1) : COk ⟨14, nameF 117 a.1, [], [], nameF 117 b.1, 0, 0, []⟩
  | cre2 (a f : _root_.Fin 10) : COk ⟨2, nameF 117 a.1, nameF 102 f.1, [], [], 0, 0, []⟩
  | cre3 (a f : _root_.Fin 10) : COk ⟨3, nameF 117 a.1, nameF 102 f.1, [], [], 0, 0, []⟩
  | mov2 (a f o : _root_.Fin 10) (h : o.1 ≠ f.1) : COk ⟨2, nameF 117 a.1, nameF 102 f.1, [], nameF 102 o.1, 0, 0, []⟩
  | mov3 (a f o : _root_.Fin 10) (h : o.1 ≠ f.1) : COk ⟨3, nameF 117 a.1, nameF 102 f.1, [], nameF 102 o.1, 0, 0, []⟩
  | rol5 (a f b : _root_.Fin 10) (r : _root_.Fin 4) : COk ⟨5, nameF 117 a.1, nameF 102 f.1, [], nameF 117 b.1, 1 + r.1, 0, []⟩
  | rol6 (a f b : _root_.Fin 10) (r : _root_.Fin 4) : COk ⟨6, nameF 117 a.1, nameF 102 f.1, [], nameF 117 b.1, 1 + r.1, 0, []⟩
  | rev (a f b : _root_.Fin 10) : COk ⟨7, nameF 117 a.1, nameF 102 f.1, [], nameF 117 b.1, 0, 0, []⟩
  | put0 (a f x : _root_.Fin 10) : COk ⟨8, nameF 117 a.1, nameF 102 f.1, nameF 120 x.1, [], 0, 0, []⟩
  | put1 (a f x : _root_.Fin 10) (d0 : UInt8) (d : List UInt8) (hd : d.length ≤ 8) : COk ⟨8, nameF 117 a.1, nameF 102 f.1, nameF 120 x.1, [], 0, 0, d0 :: d⟩
  | get (a f x : _root_.Fin 10) (v : _root_.Fin 3) : COk ⟨9, nameF 117 a.1, nameF 102 f.1, nameF 120 x.1, [], 0, v.1, []⟩
  | del11 (a f x : _root_.Fin 10) : COk ⟨11, nameF 117 a.1, nameF 102 f.1, nameF 120 x.1, [], 0, 0, []⟩
  | del12 (a f x : _root_.Fin 10) : COk ⟨12, nameF 117 a.1, nameF 102 f.1, nameF 120 x.1, [], 0, 0, []⟩
  | oth4 (a f : _root_.Fin 10) : COk ⟨4, nameF 117 a.1, nameF 102 f.1, [], [], 0, 0, []⟩
  | oth10 (a f : _root_.Fin 10) : COk ⟨10, nameF 117 a.1, nameF 102 f.1, [], [], 0, 0, []⟩
  | oth13 (a f : _root_.Fin 10) : COk ⟨13, nameF 117 a.1, nameF 102 f.1, [], [], 0, 0, []⟩
theorem nameF_inj {l : UInt8} : ∀ {a b : Nat}, a < 10 → b < 10 → nameF l a = nameF l b → a = b := by
  intro a b ha hb h
  have h1 : (48 + UInt8.ofNat a) = (48 + UInt8.ofNat b) := by simpa [nameF] using h
  have h2 := congrArg UInt8.toNat h1
  rw [UInt8.toNat_add, UInt8.toNat_add, UInt8.toNat_ofNat', UInt8.toNat_ofNat'] at h2
  have : (48 : UInt8).toNat = 48 := rfl
  rw [this] at h2
  omega
theorem cho_ok (L : List UInt8) : COk (choF L) := by
  have at17 : atF L 0 17 < 17 := Nat.mod_lt _ (by omega)
  have hkin := KND_in _ at17
  have m14 : atF L 1 4 < 4 := Nat.mod_lt _ (by omega)
  have m25 : atF L 2 5 < 5 := Nat.mod_lt _ (by omega)
  have m76 : atF L 7 6 < 6 := Nat.mod_lt _ (by omega)
  have m74 : atF L 7 4 < 4 := Nat.mod_lt _ (by omega)
  have m73 : atF L 7 3 < 3 := Nat.mod_lt _ (by omega)
  have m44 : atF L 4 4 < 4 := Nat.mod_lt _ (by omega)
  have m32 : atF L 3 2 < 2 := Nat.mod_lt _ (by omega)
  have m69 : atF L 6 9 < 9 := Nat.mod_lt _ (by omega)
  have m53 : atF L 5 3 < 3 := Nat.mod_lt _ (by omega)
  unfold choF
  generalize KND.getD (atF L 0 17) 0 = k at *
  simp only [List.mem_cons, List.not_mem_nil, or_false] at hkin
  have two : ∀ k, k = 2 ∨ k = 3 → COk ⟨k, nameF 117 (atF L 1 4), nameF 102 (atF L 2 5), [], otherF (atF L 7 6) (nameF 102 (atF L 2 5)), 0, 0, []⟩ := fun k hk => by
    unfold otherF
    by_cases h : atF L 7 6 < 5 ∧ nameF 102 (atF L 7 6) ≠ nameF 102 (atF L 2 5)
    · have hh : atF L 7 6 ≠ atF L 2 5 := fun e => h.2 (by rw [e])
      rw [if_pos h]
      rcases hk with rfl | rfl
      · exact .mov2 ⟨_, by omega⟩ ⟨atF L 2 5, by omega⟩ ⟨atF L 7 6, by omega⟩ hh
      · exact .mov3 ⟨_, by omega⟩ ⟨atF L 2 5, by omega⟩ ⟨atF L 7 6, by omega⟩ hh
    · rw [if_neg h]
      rcases hk with rfl | rfl
      · exact .cre2 ⟨_, by omega⟩ ⟨_, by omega⟩
      · exact .cre3 ⟨_, by omega⟩ ⟨_, by omega⟩
  rcases hkin with rfl | rfl | rfl | rfl | rfl | rfl | rfl | rfl | rfl | rfl | rfl | rfl | rfl
  · exact two 2 (.inl rfl)
  · exact two 3 (.inr rfl)
  · exact .oth4 ⟨_, by omega⟩ ⟨_, by omega⟩
  · exact .rol5 ⟨_, by omega⟩ ⟨_, by omega⟩ ⟨_, by omega⟩ ⟨_, by omega⟩
  · exact .rol6 ⟨_, by omega⟩ ⟨_, by omega⟩ ⟨_, by omega⟩ ⟨_, by omega⟩
  · exact .rev ⟨_, by omega⟩ ⟨_, by omega⟩ ⟨_, by omega⟩
  · have hp : ∀ d : List UInt8, d.length ≤ 8 → COk ⟨8, nameF 117 (atF L 1 4), nameF 102 (atF L 2 5), nameF 120 (atF L 3 2), [], 0, 0, d⟩ := fun d hd => by
      cases d with
      | nil => exact .put0 ⟨_, by omega⟩ ⟨_, by omega⟩ ⟨_, by omega⟩
      | cons x d => exact .put1 ⟨_, by omega⟩ ⟨_, by omega⟩ ⟨_, by omega⟩ x d (by simp at hd; omega)
    exact hp _ (by rw [List.length_take]; omega)
  · exact .get ⟨_, by omega⟩ ⟨_, by omega⟩ ⟨_, by omega⟩ ⟨_, by omega⟩
  · exact .oth10 ⟨_, by omega⟩ ⟨_, by omega⟩
  · exact .del11 ⟨_, by omega⟩ ⟨_, by omega⟩ ⟨_, by omega⟩
  · exact .del12 ⟨_, by omega⟩ ⟨_, by omega⟩ ⟨_, by omega⟩
  · exact .oth13 ⟨_, by omega⟩ ⟨_, by omega⟩
  · exact .dep ⟨atF L 1 4, by omega⟩ ⟨(atF L 1 4 + 1 + atF L 7 3) % 4, by omega⟩ (show atF L 1 4 ≠ (atF L 1 4 + 1 + atF L 7 3) % 4 by omega)
theorem call_ok (seed : List UInt8) (i : Nat) : COk (callF seed i) := by
  unfold callF
  split
  · exact .reg ⟨i, by omega⟩
  · exact cho_ok _
section
variable {W : World} {E : Env} {H : Heap} {Γ : List HP}
structure EnvM (E : Env) : Prop extends EnvL E where
  f4 : E 4 = some (.code sf4)
  f13 : E 13 = some (.code sf13)
  f14 : E 14 = some (.code sf14)
  f15 : E 15 = some (.code sf15)
  f16 : E 16 = some (.code sf16)
  f25 : E 25 = some (.code sf25)
  f26 : E 26 = some (.code sf26)
  f27 : E 27 = some (.code sf27)
  f28 : E 28 = some (.code sf28)
  f39 : E 39 = some (.code sf39)
  f40 : E 40 = some (.code sf40)
  f41 : E 41 = some (.code sf41)
  f42 : E 42 = some (.code sf42)
  f43 : E 43 = some (.code sf43)
  f44 : E 44 = some (.code sf44)
  f45 : E 45 = some (.code sf45)
  f54 : E 54 = some (.code sf54)
  f55 : E 55 = some (.code sf55)
  f56 : E 56 = some (.code sf56)
  f57 : E 57 = some (.code sf57)
  f58 : E 58 = some (.code sf58)
  f59 : E 59 = some (.code sf59)
theorem dig (n : Nat) (hn : n < 10) : (48 + UInt8.ofNat n : UInt8).toNat = 48 + n := by
  rw [UInt8.toNat_add, UInt8.toNat_ofNat']
  have : (48 : UInt8).toNat = 48 := rfl
  rw [this]; omega
theorem c_Name (hE : EnvM E) {l : UInt8} (h1 : 97 ≤ l.toNat) (h2 : l.toNat ≤ 122) {n : Nat} (hn : n < 10) (H : Heap) : go W E 39 [.str (nameF l n)] H = some (.bool true, H) := by
  have hlp : ∀ f H, run W E lp39_0 f H = run W E lp39_0 f H := fun _ _ => rfl
  conv at hlp => enter [f, H, 2]; unfold lp39_0
  have hd := dig n hn
  have a1 : (97 : Int) ≤ (l.toNat : Int) := by omega
  have a2 : (l.toNat : Int) ≤ 122 := by omega
  have a3 : (48 : Int) ≤ (l.toNat : Int) := by omega
  have a4 : ¬ (l.toNat : Int) ≤ 57 := by omega
  have hdi : ((48 + UInt8.ofNat n : UInt8).toNat : Int) = ((48 + n : Nat) : Int) := by rw [hd]
  have b1 : ¬ (97 : Int) ≤ ((48 + UInt8.ofNat n : UInt8).toNat : Int) := by rw [hdi]; omega
  have b3 : (48 : Int) ≤ ((48 + UInt8.ofNat n : UInt8).toNat : Int) := by rw [hdi]; omega
  have b4 : ((48 + UInt8.ofNat n : UInt8).toNat : Int) ≤ 57 := by rw [hdi]; omega
  have w1 : IntKind.i64.wrap 1 = 1 := rfl
  have w2 : IntKind.i64.wrap 2 = 2 := rfl
  have n2 : ((2 : Nat) : Int) = 2 := rfl
  rw [go_code hE.f39 (by simp [sf39])]
  unfold nameF
  generalize (48 + UInt8.ofNat n : UInt8) = d at *
  simp only [sf39, n2, ↓sxp, sxq, seval, evP, evX, evR, blkOf, evA, storeA, resL, resV, oneOrTup, noUnk, AV.cells, Cells.get, ↓bnd_assoc]
  rw [run_loop]
  simp only [hlp, n2, a1, a2, a3, a4, w1, ↓sxp, sxq, seval, evP, evX, evR, blkOf, evA, storeA, resL, resV, oneOrTup, noUnk, AV.cells, Cells.get, ↓bnd_assoc]
  rw [run_loop]
  simp only [hlp, n2, b1, b3, b4, w2, ↓sxp, sxq, seval, evP, evX, evR, blkOf, evA, storeA, resL, resV, oneOrTup, noUnk, AV.cells, Cells.get, ↓bnd_assoc]
  rw [run_loop]
  simp only [hlp, n2, ↓sxp, sxq, seval, evP, evX, evR, blkOf, evA, storeA, resL, resV, oneOrTup, noUnk, AV.cells, Cells.get, ↓bnd_assoc]
theorem c_name57 (hE : EnvM E) {l : UInt8} (h1 : 97 ≤ l.toNat) (h2 : l.toNat ≤ 122) {n : Nat} (hn : n < 10) (H : Heap) : go W E 57 [.str (nameF l n)] H = some (.bool true, H) := by
  have hlp : ∀ f H, run W E lp57_0 f H = run W E lp57_0 f H := fun _ _ => rfl
  conv at hlp => enter [f, H, 2]; unfold lp57_0
  have hd := dig n hn
  have a1 : ¬ (l.toNat : Int) < 97 := by omega
  have a2 : ¬ (122 : Int) < (l.toNat : Int) := by omega
  have hdi : ((48 + UInt8.ofNat n : UInt8).toNat : Int) = ((48 + n : Nat) : Int) := by rw [hd]
  have b1 : ((48 + UInt8.ofNat n : UInt8).toNat : Int) < 97 := by rw [hdi]; omega
  have b3 : ¬ ((48 + UInt8.ofNat n : UInt8).toNat : Int) < 48 := by rw [hdi]; omega
  have b4 : ¬ (57 : Int) < ((48 + UInt8.ofNat n : UInt8).toNat : Int) := by rw [hdi]; omega
  have w1 : IntKind.i64.wrap 1 = 1 := rfl
  have w2 : IntKind.i64.wrap 2 = 2 := rfl
  have n2 : ((2 : Nat) : Int) = 2 := rfl
  rw [go_code hE.f57 (by simp [sf57])]
  unfold nameF
  generalize (48 + UInt8.ofNat n : UInt8) = d at *
  simp only [sf57, n2, ↓sxp, sxq, seval, evP, evX, evR, blkOf, evA, storeA, resL, resV, oneOrTup, noUnk, AV.cells, Cells.get, ↓bnd_assoc]
  rw [run_loop]
  simp only [hlp, n2, a1, a2, w1, ↓sxp, sxq, seval, evP, evX, evR, blkOf, evA, storeA, resL, resV, oneOrTup, noUnk, AV.cells, Cells.get, ↓bnd_assoc]
  rw [run_loop]
  simp only [hlp, n2, b1, b3, b4, w2, ↓sxp, sxq, seval, evP, evX, evR, blkOf, evA, storeA, resL, resV, oneOrTup, noUnk, AV.cells, Cells.get, ↓bnd_assoc]
  rw [run_loop]
  simp only [hlp, n2, ↓sxp, sxq, seval, evP, evX, evR, blkOf, evA, storeA, resL, resV, oneOrTup, noUnk, AV.cells, Cells.get, ↓bnd_assoc]
theorem c_text (hE : EnvM E) {l : UInt8} (h1 : 97 ≤ l.toNat) (h2 : l.toNat ≤ 122) {n : Nat} (hn : n < 10) (H : Heap) : go W E 58 [.str (nameF l n), .bool true] H = some (.bool true, H) := by
  have e := c_name57 (W := W) hE h1 h2 hn H
  rw [go_code hE.f58 (by simp [sf58])]
  simp only [sf58, e, ↓sxp, sxq, seval, evP, evX, evR, blkOf, evA, storeA, resL, resV, oneOrTup, noUnk, AV.cells, Cells.get, ↓bnd_assoc]
theorem c_text0 (hE : EnvM E) (H : Heap) : go W E 58 [.str [], .bool false] H = some (.bool true, H) := by
  rw [go_code hE.f58 (by simp [sf58])]
  simp only [sf58, s_eql, ↓sxp, sxq, seval, evP, evX, evR, blkOf, evA, storeA, resL, resV, oneOrTup, noUnk, AV.cells, Cells.get, ↓bnd_assoc]
theorem c_num (hE : EnvM E) {x lo hi : Int} (h1 : lo ≤ x) (h2 : x ≤ hi) (H : Heap) : go W E 59 [.int .i64 x, .int .i64 lo, .int .i64 hi, .bool true] H = some (.bool true, H) := by
  rw [go_code hE.f59 (by simp [sf59])]
  simp only [sf59, h1, h2, ↓sxp, sxq, seval, evP, evX, evR, blkOf, evA, storeA, resL, resV, oneOrTup, noUnk, AV.cells, Cells.get, ↓bnd_assoc]
theorem c_num0 (hE : EnvM E) {lo hi : Int} (H : Heap) : go W E 59 [.int .i64 0, .int .i64 lo, .int .i64 hi, .bool false] H = some (.bool true, H) := by
  rw [go_code hE.f59 (by simp [sf59])]
  simp only [sf59, ↓sxp, sxq, seval, evP, evX, evR, blkOf, evA, storeA, resL, resV, oneOrTup, noUnk, AV.cells, Cells.get, ↓bnd_assoc]
theorem ne_nil (l : UInt8) (n : Nat) : (nameF l n == []) = false := rfl
theorem nil_ne (l : UInt8) (n : Nat) : (([] : List UInt8) == nameF l n) = false := rfl
theorem nn_ne {l : UInt8} {a b : _root_.Fin 10} (h : a.1 ≠ b.1) : (nameF l a.1 == nameF l b.1) = false := by
  simpa using fun e => h (nameF_inj a.2 b.2 e)
theorem COk.k14 {c : CF} (h : COk c) (hk : c.kind = 14) : (c.other == c.user) = false := by
  cases h with
  | dep a b h => exact nn_ne (Ne.symm h)
  | _ => simp_all
theorem COk.k2 {c : CF} (h : COk c) (hk : c.kind = 2) : (c.other == c.folder) = false := by
  cases h with
  | mov2 a f o h => exact nn_ne h
  | mov3 a f o h => exact nn_ne h
  | cre2 => rfl
  | cre3 => rfl
  | _ => simp_all
theorem COk.d8 {c : CF} (h : COk c) : (c.data.length : Int) ≤ 512 := by
  cases h with
  | put1 a f x d0 d hd => simp only [List.length_cons]; omega
  | _ => simp
theorem nlit : ((2 : Nat) : Int) = 2 ∧ ((3 : Nat) : Int) = 3 ∧ ((4 : Nat) : Int) = 4 ∧ ((5 : Nat) : Int) = 5 ∧ ((6 : Nat) : Int) = 6 ∧ ((7 : Nat) : Int) = 7 ∧ ((8 : Nat) : Int) = 8 ∧ ((9 : Nat) : Int) = 9 ∧ ((10 : Nat) : Int) = 10 ∧ ((11 : Nat) : Int) = 11 ∧ ((12 : Nat) : Int) = 12 ∧ ((13 : Nat) : Int) = 13 ∧ ((14 : Nat) : Int) = 14 := ⟨rfl, rfl, rfl, rfl, rfl, rfl, rfl, rfl, rfl, rfl, rfl, rfl, rfl⟩
theorem sz (n : Nat) : (((n + 1 : Nat) : Int) = 0) = False := by simp; omega
theorem zi : ((0 : Nat) : Int) = 0 := rfl
theorem oi : ((1 : Nat) : Int) = 1 := rfl
theorem r_lo (r : _root_.Fin 4) : ¬ ((1 + r.1 : Nat) : Int) < 1 := by omega
theorem r_hi (r : _root_.Fin 4) : ¬ (4 : Int) < ((1 + r.1 : Nat) : Int) := by omega
theorem r_lo' (r : _root_.Fin 4) : (1 : Int) ≤ ((1 + r.1 : Nat) : Int) := by omega
theorem r_hi' (r : _root_.Fin 4) : ((1 + r.1 : Nat) : Int) ≤ 4 := by omega
theorem v_lo (v : _root_.Fin 3) : ¬ ((v.1 : Nat) : Int) < 0 := by omega
theorem v_hi (v : _root_.Fin 3) : ¬ (1099511627776 : Int) < ((v.1 : Nat) : Int) := by omega
theorem v_lo' (v : _root_.Fin 3) : (0 : Int) ≤ ((v.1 : Nat) : Int) := by omega
theorem v_hi' (v : _root_.Fin 3) : ((v.1 : Nat) : Int) ≤ 1099511627776 := by omega
theorem c_Nu (hE : EnvM E) (a : _root_.Fin 10) (H : Heap) : go W E 39 [.str (nameF 117 a.1)] H = some (.bool true, H) := c_Name hE (by decide) (by decide) a.2 H
theorem c_Nf (hE : EnvM E) (a : _root_.Fin 10) (H : Heap) : go W E 39 [.str (nameF 102 a.1)] H = some (.bool true, H) := c_Name hE (by decide) (by decide) a.2 H
theorem c_Nx (hE : EnvM E) (a : _root_.Fin 10) (H : Heap) : go W E 39 [.str (nameF 120 a.1)] H = some (.bool true, H) := c_Name hE (by decide) (by decide) a.2 H
theorem c_Mu (hE : EnvM E) (a : _root_.Fin 10) (H : Heap) : go W E 57 [.str (nameF 117 a.1)] H = some (.bool true, H) := c_name57 hE (by decide) (by decide) a.2 H
theorem c_Tu (hE : EnvM E) (a : _root_.Fin 10) (H : Heap) : go W E 58 [.str (nameF 117 a.1), .bool true] H = some (.bool true, H) := c_text hE (by decide) (by decide) a.2 H
theorem c_Tf (hE : EnvM E) (a : _root_.Fin 10) (H : Heap) : go W E 58 [.str (nameF 102 a.1), .bool true] H = some (.bool true, H) := c_text hE (by decide) (by decide) a.2 H
theorem c_Tx (hE : EnvM E) (a : _root_.Fin 10) (H : Heap) : go W E 58 [.str (nameF 120 a.1), .bool true] H = some (.bool true, H) := c_text hE (by decide) (by decide) a.2 H
theorem c_may25 (hE : EnvM E) {c : CF} (hc : COk c) {a : AV} {R : HP} (hR : RdLike W c.data a R) (h : Holds H (R :: Γ)) : ∃ H', go W E 25 [.agg (cfC c a)] H = some (.bool true, H') ∧ Holds H' (R :: Γ) := by
  apply Ends.out
  refine (show Fin (fun r : AV × Heap => r.1 = .bool true ∧ Holds r.2 (R :: Γ)) _ from ?_)
  have h2 := h.push (c := cfC c a) (t := 29)
  have g2 := h2.get
  have hlen := (hR h).len
  have hd := hc.d8
  have h14 := hc.k14
  have hk2 := hc.k2
  have e1 := c_Nu (W := W) hE
  have e2 := c_Nf (W := W) hE
  have e3 := c_Nx (W := W) hE
  rw [go_code hE.f25 (by simp [sf25])]
  cases hc
  all_goals simp only [sf25, cfC, nlit, zi, oi, List.length_nil, List.length_cons] at *
  all_goals simp only [↓g2, hlen, hd, ↓e1, ↓e2, ↓e3, s_eql, s_neq, ne_nil, nil_ne, r_lo, r_hi, v_lo, v_hi, h14, hk2, sz, ↓sxp, sxq, seval, evP, evX, evR, blkOf, evA, storeA, resL, resV, oneOrTup, noUnk, AV.cells, Cells.get, ↓bnd_assoc]
  all_goals exact ⟨_, rfl, rfl, h2.tail⟩
end
end Go.Proofs.YtjfnhdiimibmiaaDoor.Sx

/- Calls that may be, the program's. -/
namespace Go.Proofs.YtjfnhdiimibmiaaDoor.Sx
open HP
def FLD : List Nat := [0, 0, 9, 9, 1, 21, 21, 5, 67, 35, 1, 3, 3, 1, 4, 0, 4]
/-- What a call of each kind holds lies in memory. -/
def GM (W : World) : Prop := ∃ c, (∀ H, blkOf W H (.old 1) = some c) ∧ ∀ i, i < 17 → c.get i = some (.int .i64 ((FLD.getD i 0 : Nat) : Int))
theorem GM.load {W : World} (h : GM W) {i : Nat} (hi : i < 17) (H : Heap) : loadV W H none (.ptr (some ⟨.old 1, i⟩)) = some (.int .i64 ((FLD.getD i 0 : Nat) : Int)) := by
  obtain ⟨c, h1, h2⟩ := h
  simp only [loadV, h1 H, h2 i hi]
theorem ands : bin .and (.int .i64 0) (.int .i64 1) = some (.int .i64 0) ∧ bin .and (.int .i64 0) (.int .i64 2) = some (.int .i64 0) ∧ bin .and (.int .i64 0) (.int .i64 4) = some (.int .i64 0) ∧ bin .and (.int .i64 0) (.int .i64 8) = some (.int .i64 0) ∧ bin .and (.int .i64 0) (.int .i64 16) = some (.int .i64 0) ∧ bin .and (.int .i64 0) (.int .i64 32) = some (.int .i64 0) ∧ bin .and (.int .i64 0) (.int .i64 64) = some (.int .i64 0) ∧ bin .and (.int .i64 1) (.int .i64 1) = some (.int .i64 1) ∧ bin .and (.int .i64 1) (.int .i64 2) = some (.int .i64 0) ∧ bin .and (.int .i64 1) (.int .i64 4) = some (.int .i64 0) ∧ bin .and (.int .i64 1) (.int .i64 8) = some (.int .i64 0) ∧ bin .and (.int .i64 1) (.int .i64 16) = some (.int .i64 0) ∧ bin .and (.int .i64 1) (.int .i64 32) = some (.int .i64 0) ∧ bin .and (.int .i64 1) (.int .i64 64) = some (.int .i64 0) ∧ bin .and (.int .i64 3) (.int .i64 1) = some (.int .i64 1) ∧ bin .and (.int .i64 3) (.int .i64 2) = some (.int .i64 2) ∧ bin .and (.int .i64 3) (.int .i64 4) = some (.int .i64 0) ∧ bin .and (.int .i64 3) (.int .i64 8) = some (.int .i64 0) ∧ bin .and (.int .i64 3) (.int .i64 16) = some (.int .i64 0) ∧ bin .and (.int .i64 3) (.int .i64 32) = some (.int .i64 0) ∧ bin .and (.int .i64 3) (.int .i64 64) = some (.int .i64 0) ∧ bin .and (.int .i64 4) (.int .i64 1) = some (.int .i64 0) ∧ bin .and (.int .i64 4) (.int .i64 2) = some (.int .i64 0) ∧ bin .and (.int .i64 4) (.int .i64 4) = some (.int .i64 4) ∧ bin .and (.int .i64 4) (.int .i64 8) = some (.int .i64 0) ∧ bin .and (.int .i64 4) (.int .i64 16) = some (.int .i64 0) ∧ bin .and (.int .i64 4) (.int .i64 32) = some (.int .i64 0) ∧ bin .and (.int .i64 4) (.int .i64 64) = some (.int .i64 0) ∧ bin .and (.int .i64 5) (.int .i64 1) = some (.int .i64 1) ∧ bin .and (.int .i64 5) (.int .i64 2) = some (.int .i64 0) ∧ bin .and (.int .i64 5) (.int .i64 4) = some (.int .i64 4) ∧ bin .and (.int .i64 5) (.int .i64 8) = some (.int .i64 0) ∧ bin .and (.int .i64 5) (.int .i64 16) = some (.int .i64 0) ∧ bin .and (.int .i64 5) (.int .i64 32) = some (.int .i64 0) ∧ bin .and (.int .i64 5) (.int .i64 64) = some (.int .i64 0) ∧ bin .and (.int .i64 9) (.int .i64 1) = some (.int .i64 1) ∧ bin .and (.int .i64 9) (.int .i64 2) = some (.int .i64 0) ∧ bin .and (.int .i64 9) (.int .i64 4) = some (.int .i64 0) ∧ bin .and (.int .i64 9) (.int .i64 8) = some (.int .i64 8) ∧ bin .and (.int .i64 9) (.int .i64 16) = some (.int .i64 0) ∧ bin .and (.int .i64 9) (.int .i64 32) = some (.int .i64 0) ∧ bin .and (.int .i64 9) (.int .i64 64) = some (.int .i64 0) ∧ bin .and (.int .i64 21) (.int .i64 1) = some (.int .i64 1) ∧ bin .and (.int .i64 21) (.int .i64 2) = some (.int .i64 0) ∧ bin .and (.int .i64 21) (.int .i64 4) = some (.int .i64 4) ∧ bin .and (.int .i64 21) (.int .i64 8) = some (.int .i64 0) ∧ bin .and (.int .i64 21) (.int .i64 16) = some (.int .i64 16) ∧ bin .and (.int .i64 21) (.int .i64 32) = some (.int .i64 0) ∧ bin .and (.int .i64 21) (.int .i64 64) = some (.int .i64 0) ∧ bin .and (.int .i64 35) (.int .i64 1) = some (.int .i64 1) ∧ bin .and (.int .i64 35) (.int .i64 2) = some (.int .i64 2) ∧ bin .and (.int .i64 35) (.int .i64 4) = some (.int .i64 0) ∧ bin .and (.int .i64 35) (.int .i64 8) = some (.int .i64 0) ∧ bin .and (.int .i64 35) (.int .i64 16) = some (.int .i64 0) ∧ bin .and (.int .i64 35) (.int .i64 32) = some (.int .i64 32) ∧ bin .and (.int .i64 35) (.int .i64 64) = some (.int .i64 0) ∧ bin .and (.int .i64 67) (.int .i64 1) = some (.int .i64 1) ∧ bin .and (.int .i64 67) (.int .i64 2) = some (.int .i64 2) ∧ bin .and (.int .i64 67) (.int .i64 4) = some (.int .i64 0) ∧ bin .and (.int .i64 67) (.int .i64 8) = some (.int .i64 0) ∧ bin .and (.int .i64 67) (.int .i64 16) = some (.int .i64 0) ∧ bin .and (.int .i64 67) (.int .i64 32) = some (.int .i64 0) ∧ bin .and (.int .i64 67) (.int .i64 64) = some (.int .i64 64) := by
  refine ⟨rfl, rfl, rfl, rfl, rfl, rfl, rfl, rfl, rfl, rfl, rfl, rfl, rfl, rfl, rfl, rfl, rfl, rfl, rfl, rfl, rfl, rfl, rfl, rfl, rfl, rfl, rfl, rfl, rfl, rfl, rfl, rfl, rfl, rfl, rfl, rfl, rfl, rfl, rfl, rfl, rfl, rfl, rfl, rfl, rfl, rfl, rfl, rfl, rfl, rfl, rfl, rfl, rfl, rfl, rfl, rfl, rfl, rfl, rfl, rfl, rfl, rfl, rfl⟩
theorem n17 : ((17 : Nat) : Int) = 17 := rfl
section
variable {W : World} {E : Env} {H : Heap} {Γ : List HP}
theorem GM.all (h : GM W) (H : Heap) : loadV W H none (.ptr (some ⟨.old 1, 1⟩)) = some (.int .i64 0) ∧ loadV W H none (.ptr (some ⟨.old 1, 2⟩)) = some (.int .i64 9) ∧ loadV W H none (.ptr (some ⟨.old 1, 3⟩)) = some (.int .i64 9) ∧ loadV W H none (.ptr (some ⟨.old 1, 4⟩)) = some (.int .i64 1) ∧ loadV W H none (.ptr (some ⟨.old 1, 5⟩)) = some (.int .i64 21) ∧ loadV W H none (.ptr (some ⟨.old 1, 6⟩)) = some (.int .i64 21) ∧ loadV W H none (.ptr (some ⟨.old 1, 7⟩)) = some (.int .i64 5) ∧ loadV W H none (.ptr (some ⟨.old 1, 8⟩)) = some (.int .i64 67) ∧ loadV W H none (.ptr (some ⟨.old 1, 9⟩)) = some (.int .i64 35) ∧ loadV W H none (.ptr (some ⟨.old 1, 10⟩)) = some (.int .i64 1) ∧ loadV W H none (.ptr (some ⟨.old 1, 11⟩)) = some (.int .i64 3) ∧ loadV W H none (.ptr (some ⟨.old 1, 12⟩)) = some (.int .i64 3) ∧ loadV W H none (.ptr (some ⟨.old 1, 13⟩)) = some (.int .i64 1) ∧ loadV W H none (.ptr (some ⟨.old 1, 14⟩)) = some (.int .i64 4) := ⟨h.load (by omega) H, h.load (by omega) H, h.load (by omega) H, h.load (by omega) H, h.load (by omega) H, h.load (by omega) H, h.load (by omega) H, h.load (by omega) H, h.load (by omega) H, h.load (by omega) H, h.load (by omega) H, h.load (by omega) H, h.load (by omega) H, h.load (by omega) H⟩
theorem c_may43 (hE : EnvM E) (hG : GM W) {c : CF} (hc : COk c) {a : AV} {R : HP} (hR : RdLike W c.data a R) (h : Holds H (R :: Γ)) : ∃ H', go W E 43 [.agg (cfC c a)] H = some (.bool true, H') ∧ Holds H' (R :: Γ) := by
  apply Ends.out
  refine (show Fin (fun r : AV × Heap => r.1 = .bool true ∧ Holds r.2 (R :: Γ)) _ from ?_)
  have h2 := h.push (c := cfC c a) (t := 29)
  have g2 := h2.get
  have hlen := (hR h).len
  have hd := hc.d8
  have hd0 : (0 : Int) ≤ (c.data.length : Int) := by omega
  have h14 := hc.k14
  have hk2 := hc.k2
  have hld := hG.all (H.push (.cells (.lst (cfC c a)) 29 none))
  have e0 := c_Mu (W := W) hE
  have e1 := c_Tu (W := W) hE
  have e2 := c_Tf (W := W) hE
  have e3 := c_Tx (W := W) hE
  have e4 := c_text0 (W := W) hE
  rw [go_code hE.f43 (by simp [sf43])]
  cases hc
  all_goals simp only [sf43, cfC, nlit, zi, oi, List.length_nil, List.length_cons] at *
  all_goals simp only [↓g2, n17, ↓hld, ↓ands, hlen, ↓e0, ↓e1, ↓e2, ↓e3, ↓e4, c_num0 hE, c_num hE (r_lo' _) (r_hi' _), c_num hE (v_lo' _) (v_hi' _), c_num hE hd0 hd, s_eql, s_neq, ne_nil, nil_ne, h14, hk2, ↓sxp, sxq, seval, evP, evX, evR, blkOf, evA, storeA, resL, resV, oneOrTup, noUnk, AV.cells, Cells.get, ↓bnd_assoc]
  all_goals exact ⟨_, rfl, rfl, h2.tail⟩
end
end Go.Proofs.YtjfnhdiimibmiaaDoor.Sx

/- Two events that are one, the program's. -/
namespace Go.Proofs.YtjfnhdiimibmiaaDoor.Sx
open HP
inductive EOk : PEv → Prop
  | call (c : CF) (h : COk c) : EOk (.call c)
  | pow (fu : Nat) (ch : List UInt8) (ag : Nat) (mo : List UInt8) (h1 : fu ≤ 1000) (h2 : ch.length = 5) (h3 : ag ≤ 1000) (h4 : mo.length = 2) : EOk (.pow fu ch ag mo)
theorem pow_ok {L : List UInt8} (h : L.length = 32) : EOk (powF L) := by
  have := (L.getD 9 0).toNat_lt
  have := (L.getD 10 0).toNat_lt
  have := (L.getD 24 0).toNat_lt
  exact .pow _ _ _ _ (by omega) (by rw [List.length_take, List.length_drop]; omega) (by omega) (by rw [List.length_take, List.length_drop]; omega)
theorem pevs_ok (seed : List UInt8) (n : Nat) : ∀ e ∈ pevs seed n, EOk e := by
  intro e he
  unfold pevs at he
  obtain ⟨i, _, h⟩ := List.mem_flatMap.1 he
  unfold evsF at h
  rcases List.mem_append.1 h with h | h
  · split at h
    · simp at h; subst h; exact pow_ok (lotF_len seed i)
    · simp at h
  · simp at h; subst h; exact .call _ (call_ok seed i)
section
variable {W : World} {E : Env} {H : Heap} {Γ : List HP}
theorem Rd.b2s {bs : List UInt8} {v : AV} (h : Rd W H bs v) : b2sV W H v = some (.str bs) := by
  cases h with
  | nil => rfl
  | emp => rfl
  | fin a e => rfl
  | ex bs r off k c hb hg hk => simp only [b2sV, hb, hg, bytesOf_cb]; rfl
  | op bs r off c hb hg => simp only [b2sV, hb, hg, bytesOf_cb]; rfl
theorem c_beq (hE : EnvM E) {L : List UInt8} {a b : AV} (h1 : Rd W H L a) (h2 : Rd W H L b) : go W E 56 [a, b] H = some (.bool true, H) := by
  have e1 := h1.b2s
  have e2 := h2.b2s
  rw [go_code hE.f56 (by simp [sf56])]
  simp only [sf56, e1, e2, s_eql, ↓sxp, sxq, seval, evP, evX, evR, blkOf, evA, storeA, resL, resV, oneOrTup, noUnk, AV.cells, Cells.get, ↓bnd_assoc]
theorem c_same54 (hE : EnvM E) {c : CF} {a : AV} {R : HP} (hR : RdLike W c.data a R) (h : Holds H (R :: Γ)) : ∃ H', go W E 54 [.agg (cfC c a), .agg (cfC c a)] H = some (.bool true, H') ∧ Holds H' (R :: Γ) := by
  apply Ends.out
  refine (show Fin (fun r : AV × Heap => r.1 = .bool true ∧ Holds r.2 (R :: Γ)) _ from ?_)
  have h3 := (h.push (c := cfC c a) (t := 29)).push (c := cfC c a) (t := 29)
  simp only [push_next] at h3
  have ga := (h3.ord [1]).get
  have gb := h3.get
  have ee := c_beq hE (hR (h3.ord [2])) (hR (h3.ord [2]))
  unfold cfC at h3 ga gb ee
  rw [go_code hE.f54 (by simp [sf54])]
  simp only [sf54, cfC, ↓ga, ↓gb, ↓ee, eq_self, s_eql, ↓sxp, sxq, seval, evP, evX, evR, blkOf, evA, storeA, resL, resV, oneOrTup, noUnk, AV.cells, Cells.get, ↓bnd_assoc]
  exact ⟨_, rfl, rfl, h3.tail.tail⟩
theorem c_same55 (hE : EnvM E) {x y : Int} {ch mo : List UInt8} {a b : AV} {R : HP} (hA : RdLike W ch a R) (hB : RdLike W mo b R) (h : Holds H (R :: Γ)) : ∃ H', go W E 55 [.agg [.int .i64 x, a, .int .i64 y, b], .agg [.int .i64 x, a, .int .i64 y, b]] H = some (.bool true, H') ∧ Holds H' (R :: Γ) := by
  apply Ends.out
  refine (show Fin (fun r : AV × Heap => r.1 = .bool true ∧ Holds r.2 (R :: Γ)) _ from ?_)
  have h3 := (h.push (c := [.int .i64 x, a, .int .i64 y, b]) (t := 44)).push (c := [.int .i64 x, a, .int .i64 y, b]) (t := 44)
  simp only [push_next] at h3
  have ga := (h3.ord [1]).get
  have gb := h3.get
  have e1 := c_beq hE (hA (h3.ord [2])) (hA (h3.ord [2]))
  have e2 := c_beq hE (hB (h3.ord [2])) (hB (h3.ord [2]))
  rw [go_code hE.f55 (by simp [sf55])]
  simp only [sf55, ↓ga, ↓gb, ↓e1, ↓e2, eq_self, s_eql, ↓sxp, sxq, seval, evP, evX, evR, blkOf, evA, storeA, resL, resV, oneOrTup, noUnk, AV.cells, Cells.get, ↓bnd_assoc]
  exact ⟨_, rfl, rfl, h3.tail.tail⟩
theorem RdLike.nil (R : HP) : RdLike W [] nilS R := fun _ => .nil
theorem lhg8 (a b c d e f g h : AV) : Cells.getN (.lst [a, b, c, d, e, f, g, h]) 0 8 = some [a, b, c, d, e, f, g, h] := rfl
theorem ev8 (a b c d e f g h i j k l m n o p q : AV) : Cells.getN (.lst [a, b, c, d, e, f, g, h, i, j, k, l, m, n, o, p, q]) 1 8 = some [b, c, d, e, f, g, h, i] := rfl
theorem ev4 (a b c d e f g h i j k l m n o p q : AV) : Cells.getN (.lst [a, b, c, d, e, f, g, h, i, j, k, l, m, n, o, p, q]) 10 4 = some [k, l, m, n] := rfl
theorem ev17 (a b c d e f g h i j k l m n o p q : AV) : Cells.getN (.lst [a, b, c, d, e, f, g, h, i, j, k, l, m, n, o, p, q]) 0 17 = some [a, b, c, d, e, f, g, h, i, j, k, l, m, n, o, p, q] := rfl
theorem c_same41 (hE : EnvM E) {e : PEv} {a b : AV} {R : HP} (hR : pevR W (e, a, b) R) (h : Holds H (R :: Γ)) : ∃ H', go W E 41 [.agg (pevC e a b), .agg (pevC e a b)] H = some (.bool true, H') ∧ Holds H' (R :: Γ) := by
  apply Ends.out
  refine (show Fin (fun r : AV × Heap => r.1 = .bool true ∧ Holds r.2 (R :: Γ)) _ from ?_)
  have h3 := (h.push (c := pevC e a b) (t := 46)).push (c := pevC e a b) (t := 46)
  simp only [push_next] at h3
  have ga := (h3.ord [1]).get
  have gb := h3.get
  rw [go_code hE.f41 (by simp [sf41])]
  cases e with
  | call c =>
    have e5 := c_same54 hE (c := c) (a := a) hR (h3.ord [2])
    simp only [pevC, cfC, List.cons_append, List.nil_append] at h3 ga gb e5
    simp only [sf41, pevC, cfC, ↓ga, ↓gb, ↓ev8, ↓ev4, eq_self, s_eql, ↓sxp, sxq, seval, evP, evX, evR, blkOf, evA, storeA, resL, resV, oneOrTup, noUnk, AV.cells, Cells.get, ↓bnd_assoc]
    refine Fin.call e5 fun H4 h4 => ?_
    have ga := (h4.ord [2]).get
    have gb := (h4.ord [1]).get
    simp only [↓ga, ↓gb, ↓ev8, ↓ev4, eq_self, s_eql, ↓sxp, sxq, seval, evP, evX, evR, blkOf, evA, storeA, resL, resV, oneOrTup, noUnk, AV.cells, Cells.get, ↓bnd_assoc]
    refine Fin.call (c_same55 hE (RdLike.nil R) (RdLike.nil R) h4) fun H5 h5 => ?_
    have ga := (h5.ord [2]).get
    have gb := (h5.ord [1]).get
    have ee := c_beq hE (Rd.nil (W := W) (H := H5)) .nil
    simp only [↓ga, ↓gb, ↓ee, ↓ev8, ↓ev4, eq_self, s_eql, ↓sxp, sxq, seval, evP, evX, evR, blkOf, evA, storeA, resL, resV, oneOrTup, noUnk, AV.cells, Cells.get, ↓bnd_assoc]
    exact ⟨_, rfl, rfl, (h5.rm 1).rm 1⟩
  | pow fu ch ag mo =>
    have e5 := c_same54 hE (c := ⟨0, [], [], [], [], 0, 0, []⟩) (a := nilS) (RdLike.nil (W := W) R) (h3.ord [2])
    simp only [pevC, cfC, c0_eq, List.cons_append, List.nil_append] at h3 ga gb e5
    simp only [sf41, pevC, cfC, c0_eq, List.cons_append, List.nil_append, ↓ga, ↓gb, ↓ev8, ↓ev4, eq_self, s_eql, ↓sxp, sxq, seval, evP, evX, evR, blkOf, evA, storeA, resL, resV, oneOrTup, noUnk, AV.cells, Cells.get, ↓bnd_assoc]
    refine Fin.call e5 fun H4 h4 => ?_
    have ga := (h4.ord [2]).get
    have gb := (h4.ord [1]).get
    simp only [↓ga, ↓gb, ↓ev8, ↓ev4, eq_self, s_eql, ↓sxp, sxq, seval, evP, evX, evR, blkOf, evA, storeA, resL, resV, oneOrTup, noUnk, AV.cells, Cells.get, ↓bnd_assoc]
    refine Fin.call (c_same55 hE hR.1 hR.2 h4) fun H5 h5 => ?_
    have ga := (h5.ord [2]).get
    have gb := (h5.ord [1]).get
    have ee := c_beq hE (Rd.nil (W := W) (H := H5)) .nil
    simp only [↓ga, ↓gb, ↓ee, ↓ev8, ↓ev4, eq_self, s_eql, ↓sxp, sxq, seval, evP, evX, evR, blkOf, evA, storeA, resL, resV, oneOrTup, noUnk, AV.cells, Cells.get, ↓bnd_assoc]
    exact ⟨_, rfl, rfl, (h5.rm 1).rm 1⟩
end
end Go.Proofs.YtjfnhdiimibmiaaDoor.Sx

/- Events that may be, the program's. -/
namespace Go.Proofs.YtjfnhdiimibmiaaDoor.Sx
open HP
section
variable {W : World} {E : Env} {H : Heap} {Γ : List HP}
def ev0 : List AV := [.int .i64 0, .int .i64 0, .str [], .str [], .str [], .str [], .int .i64 0, .int .i64 0, nilS, .int .i64 0, .int .i64 0, nilS, .int .i64 0, nilS, .str [], .str [], nilS]
theorem c_bare42 (hE : EnvM E) {e : PEv} {a b : AV} {R : HP} (hR : pevR W (e, a, b) R) (h : Holds H (R :: Γ)) : ∃ H', go W E 42 [.agg (pevC e a b)] H = some (.agg (pevC e a b), H') ∧ Holds H' (R :: Γ) := by
  apply Ends.out
  refine (show Fin (fun r : AV × Heap => r.1 = .agg (pevC e a b) ∧ Holds r.2 (R :: Γ)) _ from ?_)
  have h2 := (h.push (c := pevC e a b) (t := 46)).push (c := ev0) (t := 46)
  have h3 := h2.push (c := ev0) (t := 46)
  have g2 := (h2.ord [1]).get
  have ga := (h3.ord [2]).get
  simp only [push_next] at h3 ga
  rw [go_code hE.f42 (by simp [sf42])]
  cases e with
  | call c =>
    have hd1 := (hR h).one.2.2
    simp only [pevC, cfC, ev0, List.cons_append, List.nil_append] at h3 ga g2
    simp only [sf42, pevC, cfC, List.cons_append, List.nil_append, ↓g2, ↓ga, ↓sxp, sxq, seval, evP, evX, evR, blkOf, evA, storeA, resL, resV, oneOrTup, noUnk, AV.cells, Cells.get, ↓bnd_assoc]
    refine Fin.write [.int .i64 1, .int .i64 0, .str [], .str [], .str [], .str [], .int .i64 0, .int .i64 0, nilS, .int .i64 0, .int .i64 0, nilS, .int .i64 0, nilS, .str [], .str [], nilS] h3 rfl (by simp) rfl fun H4 h4 => ?_
    have g4 := (h4.ord [2]).get
    simp only [↓g4, ↓ev8, ↓sxp, sxq, seval, evP, evX, evR, blkOf, evA, storeA, resL, resV, oneOrTup, noUnk, AV.cells, Cells.get, ↓bnd_assoc]
    refine Fin.write [.int .i64 1, .int .i64 (c.kind : Int), .str c.user, .str c.folder, .str c.name, .str c.other, .int .i64 (c.role : Int), .int .i64 (c.version : Int), a, .int .i64 0, .int .i64 0, nilS, .int .i64 0, nilS, .str [], .str [], nilS] h4 rfl (by simp) (by simp only [List.all_cons, List.all_nil, hd1, oneC_int, oneC_str, Bool.and_self]) fun H5 h5 => ?_
    have g5 := h5.get
    simp only [↓g5, ↓ev17, ↓sxp, sxq, seval, evP, evX, evR, blkOf, evA, storeA, resL, resV, oneOrTup, noUnk, AV.cells, Cells.get, ↓bnd_assoc]
    refine Fin.write [.int .i64 1, .int .i64 (c.kind : Int), .str c.user, .str c.folder, .str c.name, .str c.other, .int .i64 (c.role : Int), .int .i64 (c.version : Int), a, .int .i64 0, .int .i64 0, nilS, .int .i64 0, nilS, .str [], .str [], nilS] (h5.ord [1]) rfl (by simp) (by simp only [List.all_cons, List.all_nil, hd1, oneC_int, oneC_str, oneC_sl, Bool.and_self]) fun H6 h6 => ?_
    have g6 := h6.get
    simp only [↓g6, ↓ev17, ↓sxp, sxq, seval, evP, evX, evR, blkOf, evA, storeA, resL, resV, oneOrTup, noUnk, AV.cells, Cells.get, ↓bnd_assoc]
    exact ⟨_, rfl, rfl, h6.tail.tail.tail⟩
  | pow fu ch ag mo =>
    have hd1 := (hR.1 h).one.2.2
    have hd2 := (hR.2 h).one.2.2
    simp only [pevC, ev0, c0, List.cons_append, List.nil_append] at h3 ga g2
    simp only [sf42, pevC, c0, List.cons_append, List.nil_append, ↓g2, ↓ga, ↓sxp, sxq, seval, evP, evX, evR, blkOf, evA, storeA, resL, resV, oneOrTup, noUnk, AV.cells, Cells.get, ↓bnd_assoc]
    refine Fin.write [.int .i64 4, .int .i64 0, .str [], .str [], .str [], .str [], .int .i64 0, .int .i64 0, nilS, .int .i64 0, .int .i64 0, nilS, .int .i64 0, nilS, .str [], .str [], nilS] h3 rfl (by simp) rfl fun H4 h4 => ?_
    have g4 := (h4.ord [2]).get
    simp only [↓g4, ↓ev4, ↓sxp, sxq, seval, evP, evX, evR, blkOf, evA, storeA, resL, resV, oneOrTup, noUnk, AV.cells, Cells.get, ↓bnd_assoc]
    refine Fin.write [.int .i64 4, .int .i64 0, .str [], .str [], .str [], .str [], .int .i64 0, .int .i64 0, nilS, .int .i64 0, .int .i64 (fu : Int), a, .int .i64 (ag : Int), b, .str [], .str [], nilS] h4 rfl (by simp) (by simp only [List.all_cons, List.all_nil, hd1, hd2, oneC_int, oneC_str, Bool.and_self]) fun H5 h5 => ?_
    have g5 := h5.get
    simp only [↓g5, ↓ev17, ↓sxp, sxq, seval, evP, evX, evR, blkOf, evA, storeA, resL, resV, oneOrTup, noUnk, AV.cells, Cells.get, ↓bnd_assoc]
    refine Fin.write [.int .i64 4, .int .i64 0, .str [], .str [], .str [], .str [], .int .i64 0, .int .i64 0, nilS, .int .i64 0, .int .i64 (fu : Int), a, .int .i64 (ag : Int), b, .str [], .str [], nilS] (h5.ord [1]) rfl (by simp) (by simp only [List.all_cons, List.all_nil, hd1, hd2, oneC_int, oneC_str, oneC_sl, Bool.and_self]) fun H6 h6 => ?_
    have g6 := h6.get
    simp only [↓g6, ↓ev17, ↓sxp, sxq, seval, evP, evX, evR, blkOf, evA, storeA, resL, resV, oneOrTup, noUnk, AV.cells, Cells.get, ↓bnd_assoc]
    exact ⟨_, rfl, rfl, h6.tail.tail.tail⟩
theorem c_out44 (hE : EnvM E) {x y : Nat} (hx : x ≤ 1000) (hy : y ≤ 1000) {ch mo : List UInt8} (h1 : ch.length = 5) (h2 : mo.length = 2) {a b : AV} {R : HP} (hA : RdLike W ch a R) (hB : RdLike W mo b R) (h : Holds H (R :: Γ)) : ∃ H', go W E 44 [.agg [.int .i64 x, a, .int .i64 y, b]] H = some (.bool true, H') ∧ Holds H' (R :: Γ) := by
  apply Ends.out
  refine (show Fin (fun r : AV × Heap => r.1 = .bool true ∧ Holds r.2 (R :: Γ)) _ from ?_)
  have h3 := h.push (c := [.int .i64 x, a, .int .i64 y, b]) (t := 44)
  have ga := h3.get
  have l1 := (hA h).len
  have l2 := (hB h).len
  rw [h1] at l1
  rw [h2] at l2
  have a1 : (-1 : Int) ≤ (x : Int) := by omega
  have a2 : (x : Int) ≤ 1073741824 := by omega
  have a3 : (-1 : Int) ≤ (y : Int) := by omega
  have a4 : (y : Int) ≤ 1073741824 := by omega
  have n5 : ((5 : Nat) : Int) = 5 := rfl
  have n2 : ((2 : Nat) : Int) = 2 := rfl
  rw [go_code hE.f44 (by simp [sf44])]
  simp only [sf44, ↓ga, l1, l2, n5, n2, a1, a2, a3, a4, ↓sxp, sxq, seval, evP, evX, evR, blkOf, evA, storeA, resL, resV, oneOrTup, noUnk, AV.cells, Cells.get, ↓bnd_assoc]
  exact ⟨_, rfl, rfl, h3.tail⟩
end
end Go.Proofs.YtjfnhdiimibmiaaDoor.Sx

/- A script that may be. -/
namespace Go.Proofs.YtjfnhdiimibmiaaDoor.Sx
open HP
section
variable {W : World} {E : Env} {H : Heap} {Γ : List HP}
theorem c_may28 (hE : EnvM E) (hG : GM W) {e : PEv} (he : EOk e) {a b : AV} {R : HP} (hR : pevR W (e, a, b) R) (h : Holds H (R :: Γ)) : ∃ H', go W E 28 [.agg (pevC e a b)] H = some (.bool true, H') ∧ Holds H' (R :: Γ) := by
  apply Ends.out
  refine (show Fin (fun r : AV × Heap => r.1 = .bool true ∧ Holds r.2 (R :: Γ)) _ from ?_)
  have h1 := h.push (c := pevC e a b) (t := 46)
  have g1 := h1.get
  have h2 := h1.bump 5
  have hg : Cells.getN (.lst (pevC e a b)) 0 17 = some (pevC e a b) := by
    have := getN_all (pevC e a b)
    rw [pevC_len] at this; exact this
  rw [go_code hE.f28 (by simp [sf28])]
  generalize hC : pevC e a b = C at *
  simp only [sf28, ↓g1, ↓hg, ↓sxp, sxq, seval, evP, evX, evR, blkOf, evA, storeA, resL, resV, oneOrTup, noUnk, AV.cells, Cells.get, ↓bnd_assoc]
  subst hC
  refine Fin.call (c_bare42 hE hR (h2.ord [1])) fun H3 h3 => ?_
  have g3 := (h3.ord [1]).get
  generalize hC : pevC e a b = C at *
  simp only [↓g1, ↓g3, ↓hg, ↓sxp, sxq, seval, evP, evX, evR, blkOf, evA, storeA, resL, resV, oneOrTup, noUnk, AV.cells, Cells.get, ↓bnd_assoc]
  subst hC
  refine Fin.call (c_same41 hE hR h3) fun H4 h4 => ?_
  have g4 := (h4.ord [1]).get
  cases he with
  | call c hc =>
    simp only [pevC, cfC, List.cons_append, List.nil_append] at g4
    simp only [↓g4, ↓ev8, ↓sxp, sxq, seval, evP, evX, evR, blkOf, evA, storeA, resL, resV, oneOrTup, noUnk, AV.cells, Cells.get, ↓bnd_assoc]
    refine Fin.call (c_may43 hE hG hc hR h4) fun H5 h5 => ?_
    simp only [↓sxp, sxq, seval, evP, evX, evR, blkOf, evA, storeA, resL, resV, oneOrTup, noUnk, AV.cells, Cells.get, ↓bnd_assoc]
    exact ⟨_, rfl, rfl, h5.rm 1⟩
  | pow fu ch ag mo z1 z2 z3 z4 =>
    simp only [pevC, c0, List.cons_append, List.nil_append] at g4
    simp only [↓g4, ↓ev4, ↓sxp, sxq, seval, evP, evX, evR, blkOf, evA, storeA, resL, resV, oneOrTup, noUnk, AV.cells, Cells.get, ↓bnd_assoc]
    refine Fin.call (c_out44 hE z1 z3 z2 z4 hR.1 hR.2 h4) fun H5 h5 => ?_
    simp only [↓sxp, sxq, seval, evP, evX, evR, blkOf, evA, storeA, resL, resV, oneOrTup, noUnk, AV.cells, Cells.get, ↓bnd_assoc]
    exact ⟨_, rfl, rfl, h5.rm 1⟩
theorem c_f27 (hE : EnvM E) (hG : GM W) {e : PEv} (he : EOk e) {a b : AV} {R : HP} (hR : pevR W (e, a, b) R) (h : Holds H (R :: Γ)) : ∃ H', go W E 27 [.agg (pevC e a b)] H = some (.bool false, H') ∧ Holds H' (R :: Γ) := by
  apply Ends.out
  refine (show Fin (fun r : AV × Heap => r.1 = .bool false ∧ Holds r.2 (R :: Γ)) _ from ?_)
  have h1 := h.push (c := pevC e a b) (t := 46)
  have g1 := h1.get
  have hg : Cells.getN (.lst (pevC e a b)) 0 17 = some (pevC e a b) := by
    have := getN_all (pevC e a b)
    rw [pevC_len] at this; exact this
  rw [go_code hE.f27 (by simp [sf27])]
  generalize hC : pevC e a b = C at *
  simp only [sf27, ↓g1, ↓hg, ↓sxp, sxq, seval, evP, evX, evR, blkOf, evA, storeA, resL, resV, oneOrTup, noUnk, AV.cells, Cells.get, ↓bnd_assoc]
  subst hC
  refine Fin.call (c_may28 hE hG he hR (h1.ord [1])) fun H3 h3 => ?_
  simp only [↓sxp, sxq, seval, evP, evX, evR, blkOf, evA, storeA, resL, resV, oneOrTup, noUnk, AV.cells, Cells.get, ↓bnd_assoc]
  exact ⟨_, rfl, rfl, h3.rm 1⟩
theorem flatE_get (xs : List (PEv × AV × AV)) (i : Nat) (h : i < xs.length) : ((flatE xs).drop (i * 17)).take 17 = pevC (xs[i]'h).1 (xs[i]'h).2.1 (xs[i]'h).2.2 := by
  unfold flatE
  exact flatMap_get (k := 17) (f := fun x : PEv × AV × AV => pevC x.1 x.2.1 x.2.2) (fun x => pevC_len x.1 x.2.1 x.2.2) xs i h
theorem flatE_getN (xs : List (PEv × AV × AV)) (i : Nat) (h : i < xs.length) : Cells.getN (.lst (flatE xs)) (i * 17) 17 = some (pevC (xs[i]'h).1 (xs[i]'h).2.1 (xs[i]'h).2.2) := by
  have := getN_sub (i * 17) 17 (getN_all (flatE xs)) (by rw [flatE_len]; omega)
  rw [flatE_get xs i h, Nat.zero_add] at this
  exact this
/-- The search: none is found. -/
theorem may_loop (hE : EnvM E) (hG : GM W) {xs : List (PEv × AV × AV)} {D : HP} (hx : ∀ x ∈ xs, EOk x.1) (hR : ∀ x ∈ xs, pevR W x D) (hl : xs.length < 65536) {v : AV} {df : List Nat} : ∀ (m i : Nat) (A : Tm) (H : Heap), i + m = xs.length → getX A 0 = v → getX A 1 = .fn 27 [] [] → getX A 7 = .int .i64 (xs.length : Int) → getX A 8 = .int .i64 i → Holds H (row 46 17 (flatE xs) v :: D :: Γ) →
    ∃ lv A' H', run W E (.loop lp40_0) ⟨A, df, none⟩ H = some (lv, ⟨A', df, none⟩, H') ∧ (lv = .exit 0 ∧ Holds H' (row 46 17 (flatE xs) v :: D :: Γ)) := by
  have hlp : ∀ f H, run W E lp40_0 f H = run W E lp40_0 f H := fun _ _ => rfl
  conv at hlp => enter [f, H, 2]; unfold lp40_0
  intro m
  induction m with
  | zero =>
    intro i A H him a0 a1 a7 a8 h
    have : i = xs.length := by omega
    subst this
    have hlt : ¬ (xs.length : Int) < xs.length := by omega
    rw [run_loop]
    simp only [hlp, a7, a8, hlt, ↓sxp, sxq, seval, evP, evX, evR, blkOf, evA, storeA, resL, resV, oneOrTup, noUnk, AV.cells, Cells.get, ↓bnd_assoc]
    exact ⟨_, _, _, rfl, rfl, h⟩
  | succ m ih =>
    intro i A H him a0 a1 a7 a8 h
    have hi : i < xs.length := by omega
    have hlt : (i : Int) < xs.length := by omega
    have hwr : IntKind.i64.wrap ((i : Int) + 1) = ((i + 1 : Nat) : Int) := by rw [w64 (by omega)]; simp
    obtain ⟨j, l, c, rfl, g⟩ := h.row_get (by omega) (n := xs.length) (by rw [flatE_len]) (by omega)
    have hgn := flatE_getN xs i hi
    have hxi := hx _ (List.getElem_mem hi)
    have hRi := hR _ (List.getElem_mem hi)
    generalize hxe : xs[i]'hi = x at *
    obtain ⟨e, a, b⟩ := x
    simp only at hgn hxi
    have hc := c_f27 hE hG hxi hRi (h.ord [1])
    generalize hC : pevC e a b = C at *
    apply Fin.ex3
    rw [run_loop]
    simp only [hlp, a0, a1, a7, a8, hlt, Int.natCast_nonneg, and_self, Int.toNat_natCast, ↓g, ↓hgn, ↓sxp, sxq, seval, evP, evX, evR, blkOf, evA, storeA, resL, resV, oneOrTup, noUnk, AV.cells, Cells.get, ↓bnd_assoc]
    refine Fin.call hc fun H3 h3 => ?_
    simp only [a8, hwr, ↓sxp, sxq, seval, evP, evX, evR, blkOf, evA, storeA, resL, resV, oneOrTup, noUnk, AV.cells, Cells.get, ↓bnd_assoc]
    exact Fin.of3 (ih (i + 1) _ _ (by omega) (by simp only [a0, ↓sxp, sxq, seval, evP, evX, evR, blkOf, evA, storeA, resL, resV, oneOrTup, noUnk, AV.cells, Cells.get, ↓bnd_assoc]) (by simp only [a1, ↓sxp, sxq, seval, evP, evX, evR, blkOf, evA, storeA, resL, resV, oneOrTup, noUnk, AV.cells, Cells.get, ↓bnd_assoc]) (by simp only [a7, ↓sxp, sxq, seval, evP, evX, evR, blkOf, evA, storeA, resL, resV, oneOrTup, noUnk, AV.cells, Cells.get, ↓bnd_assoc]) (by simp only [↓sxp, sxq, seval, evP, evX, evR, blkOf, evA, storeA, resL, resV, oneOrTup, noUnk, AV.cells, Cells.get, ↓bnd_assoc]) (h3.ord [1])) fun lv A' H' q => q
theorem c_idx40 (hE : EnvM E) (hG : GM W) {xs : List (PEv × AV × AV)} {D : HP} (hx : ∀ x ∈ xs, EOk x.1) (hR : ∀ x ∈ xs, pevR W x D) (hl : xs.length < 65536) {v : AV} (h : Holds H (row 46 17 (flatE xs) v :: D :: Γ)) : ∃ H', go W E 40 [v, .fn 27 [] []] H = some (.int .i64 (-1), H') ∧ Holds H' (row 46 17 (flatE xs) v :: D :: Γ) := by
  apply Ends.out
  refine (show Fin (fun r : AV × Heap => r.1 = .int .i64 (-1) ∧ Holds r.2 (row 46 17 (flatE xs) v :: D :: Γ)) _ from ?_)
  obtain ⟨a, c, ev⟩ := h.row_len (by omega) (n := xs.length) (by rw [flatE_len])
  have hlen : lenV v = some (.int .i64 xs.length) := by rw [ev]; rfl
  rw [go_code hE.f40 (by simp [sf40])]
  simp only [sf40, hlen, ↓sxp, sxq, seval, evP, evX, evR, blkOf, evA, storeA, resL, resV, oneOrTup, noUnk, AV.cells, Cells.get, ↓bnd_assoc]
  refine Fin.loop (may_loop (Γ := Γ) hE hG hx hR hl xs.length 0 _ _ (by omega) (by simp only [↓sxp, sxq, seval, evP, evX, evR, blkOf, evA, storeA, resL, resV, oneOrTup, noUnk, AV.cells, Cells.get, ↓bnd_assoc]) (by simp only [↓sxp, sxq, seval, evP, evX, evR, blkOf, evA, storeA, resL, resV, oneOrTup, noUnk, AV.cells, Cells.get, ↓bnd_assoc]) (by simp only [↓sxp, sxq, seval, evP, evX, evR, blkOf, evA, storeA, resL, resV, oneOrTup, noUnk, AV.cells, Cells.get, ↓bnd_assoc]) (by simp only [↓sxp, sxq, seval, evP, evX, evR, blkOf, evA, storeA, resL, resV, oneOrTup, noUnk, AV.cells, Cells.get, ↓bnd_assoc] <;> rfl) h) fun lv A H5 ⟨e1, h5⟩ => ?_
  subst e1
  simp only [↓sxp, sxq, seval, evP, evX, evR, blkOf, evA, storeA, resL, resV, oneOrTup, noUnk, AV.cells, Cells.get, ↓bnd_assoc]
  exact ⟨_, rfl, rfl, h5⟩
theorem c_any26 (hE : EnvM E) (hG : GM W) {xs : List (PEv × AV × AV)} {D : HP} (hx : ∀ x ∈ xs, EOk x.1) (hR : ∀ x ∈ xs, pevR W x D) (hl : xs.length < 65536) {v : AV} (h : Holds H (row 46 17 (flatE xs) v :: D :: Γ)) : ∃ H', go W E 26 [v, .fn 27 [] []] H = some (.bool false, H') ∧ Holds H' (row 46 17 (flatE xs) v :: D :: Γ) := by
  apply Ends.out
  refine (show Fin (fun r : AV × Heap => r.1 = .bool false ∧ Holds r.2 (row 46 17 (flatE xs) v :: D :: Γ)) _ from ?_)
  rw [go_code hE.f26 (by simp [sf26])]
  simp only [sf26, ↓sxp, sxq, seval, evP, evX, evR, blkOf, evA, storeA, resL, resV, oneOrTup, noUnk, AV.cells, Cells.get, ↓bnd_assoc]
  refine Fin.call (c_idx40 hE hG hx hR hl h) fun H3 h3 => ?_
  simp only [↓sxp, sxq, seval, evP, evX, evR, blkOf, evA, storeA, resL, resV, oneOrTup, noUnk, AV.cells, Cells.get, ↓bnd_assoc]
  exact ⟨_, rfl, rfl, h3⟩
theorem c_smay16 (hE : EnvM E) (hG : GM W) {xs : List (PEv × AV × AV)} {D : HP} (hx : ∀ x ∈ xs, EOk x.1) (hR : ∀ x ∈ xs, pevR W x D) (hl : xs.length ≤ 4096) {v : AV} (h : Holds H (row 46 17 (flatE xs) v :: D :: Γ)) : ∃ H', go W E 16 [.agg [nilS, .int .i64 0, .int .i64 0, v]] H = some (.bool true, H') ∧ Holds H' (row 46 17 (flatE xs) v :: D :: Γ) := by
  apply Ends.out
  refine (show Fin (fun r : AV × Heap => r.1 = .bool true ∧ Holds r.2 (row 46 17 (flatE xs) v :: D :: Γ)) _ from ?_)
  obtain ⟨a, c, ev⟩ := h.row_len (by omega) (n := xs.length) (by rw [flatE_len])
  have hlen : lenV v = some (.int .i64 xs.length) := by rw [ev]; rfl
  have h1 := h.push (c := [nilS, .int .i64 0, .int .i64 0, v]) (t := 51)
  have g1 := h1.get
  have hle : ¬ (4096 : Int) < (xs.length : Int) := by omega
  rw [go_code hE.f16 (by simp [sf16])]
  simp only [sf16, ↓g1, hlen, hle, zi, ↓sxp, sxq, seval, evP, evX, evR, blkOf, evA, storeA, resL, resV, oneOrTup, noUnk, AV.cells, Cells.get, ↓bnd_assoc]
  refine Fin.call (c_any26 hE hG hx hR (by omega) (h1.ord [1, 1])) fun H3 h3 => ?_
  simp only [↓sxp, sxq, seval, evP, evX, evR, blkOf, evA, storeA, resL, resV, oneOrTup, noUnk, AV.cells, Cells.get, ↓bnd_assoc]
  exact ⟨_, rfl, rfl, h3.rm 2⟩
end
end Go.Proofs.YtjfnhdiimibmiaaDoor.Sx

/- Events that may be and events that are one, the document's. -/
namespace Go.Proofs.YtjfnhdiimibmiaaDoor.Sx
open HP
section
variable {W : World} {E : Env} {H : Heap} {Γ : List HP}
theorem c_sameEv (hE : EnvM E) {e : PEv} (he : EOk e) {a b a2 b2 : AV} {R R2 : HP} (hR : pevR W (e, a, b) R) (hR2 : pevR W (e, a2, b2) R2) (h : Holds H (R :: R2 :: Γ)) : ∃ H', go W E 14 [.agg (pevC e a b), .agg (pevC e a2 b2)] H = some (.bool true, H') ∧ Holds H' (R :: R2 :: Γ) := by
  apply Ends.out
  refine (show Fin (fun r : AV × Heap => r.1 = .bool true ∧ Holds r.2 (R :: R2 :: Γ)) _ from ?_)
  have h3 := (h.push (c := pevC e a b) (t := 46)).push (c := pevC e a2 b2) (t := 46)
  simp only [push_next] at h3
  have ga := (h3.ord [1]).get
  have gb := h3.get
  rw [go_code hE.f14 (by simp [sf14])]
  cases he with
  | call c hc =>
    simp only [pevC, cfC, List.cons_append, List.nil_append] at h3 ga gb
    simp only [sf14, pevC, cfC, List.cons_append, List.nil_append, ↓ga, ↓gb, ↓ev8, ↓ev4, eq_self, s_eql, ↓sxp, sxq, seval, evP, evX, evR, blkOf, evA, storeA, resL, resV, oneOrTup, noUnk, AV.cells, Cells.get, ↓bnd_assoc]
    refine Fin.call (c_same hE.toEnvW (c := c) hR hR2 (by have := hc.d8; omega) (h3.ord [2, 2])) fun H4 h4 => ?_
    have ga := (h4.ord [3]).get
    have gb := (h4.ord [2]).get
    simp only [↓ga, ↓gb, ↓ev8, ↓ev4, eq_self, s_eql, s_neq, ↓sxp, sxq, seval, evP, evX, evR, blkOf, evA, storeA, resL, resV, oneOrTup, noUnk, AV.cells, Cells.get, ↓bnd_assoc]
    refine Fin.call (c_bsame hE.toEnvW (RdLike.nil (W := W) R) (RdLike.nil (W := W) R2) (by simp) h4) fun H5 h5 => ?_
    have ga := (h5.ord [3]).get
    have gb := (h5.ord [2]).get
    simp only [↓ga, ↓gb, ↓ev8, ↓ev4, eq_self, s_eql, s_neq, ↓sxp, sxq, seval, evP, evX, evR, blkOf, evA, storeA, resL, resV, oneOrTup, noUnk, AV.cells, Cells.get, ↓bnd_assoc]
    refine Fin.call (c_bsame hE.toEnvW (RdLike.nil (W := W) R) (RdLike.nil (W := W) R2) (by simp) h5) fun H6 h6 => ?_
    have ga := (h6.ord [3]).get
    have gb := (h6.ord [2]).get
    simp only [↓ga, ↓gb, ↓ev8, ↓ev4, eq_self, s_eql, s_neq, ↓sxp, sxq, seval, evP, evX, evR, blkOf, evA, storeA, resL, resV, oneOrTup, noUnk, AV.cells, Cells.get, ↓bnd_assoc]
    refine Fin.call (c_bsame hE.toEnvW (RdLike.nil (W := W) R) (RdLike.nil (W := W) R2) (by simp) h6) fun H7 h7 => ?_
    simp only [↓sxp, sxq, seval, evP, evX, evR, blkOf, evA, storeA, resL, resV, oneOrTup, noUnk, AV.cells, Cells.get, ↓bnd_assoc]
    exact ⟨_, rfl, rfl, (h7.rm 2).rm 2⟩
  | pow fu ch ag mo z1 z2 z3 z4 =>
    have e5 := c_same hE.toEnvW (c := ⟨0, [], [], [], [], 0, 0, []⟩) (RdLike.nil (W := W) R) (RdLike.nil (W := W) R2) (by simp) (h3.ord [2, 2])
    simp only [pevC, c0, cfC, zi, List.cons_append, List.nil_append] at h3 ga gb e5
    simp only [sf14, pevC, c0, List.cons_append, List.nil_append, ↓ga, ↓gb, ↓ev8, ↓ev4, eq_self, s_eql, ↓sxp, sxq, seval, evP, evX, evR, blkOf, evA, storeA, resL, resV, oneOrTup, noUnk, AV.cells, Cells.get, ↓bnd_assoc]
    refine Fin.call e5 fun H4 h4 => ?_
    have ga := (h4.ord [3]).get
    have gb := (h4.ord [2]).get
    simp only [↓ga, ↓gb, ↓ev8, ↓ev4, eq_self, s_eql, s_neq, ↓sxp, sxq, seval, evP, evX, evR, blkOf, evA, storeA, resL, resV, oneOrTup, noUnk, AV.cells, Cells.get, ↓bnd_assoc]
    refine Fin.call (c_bsame hE.toEnvW (RdLike.nil (W := W) R) (RdLike.nil (W := W) R2) (by simp) h4) fun H5 h5 => ?_
    have ga := (h5.ord [3]).get
    have gb := (h5.ord [2]).get
    simp only [↓ga, ↓gb, ↓ev8, ↓ev4, eq_self, s_eql, s_neq, ↓sxp, sxq, seval, evP, evX, evR, blkOf, evA, storeA, resL, resV, oneOrTup, noUnk, AV.cells, Cells.get, ↓bnd_assoc]
    refine Fin.call (c_bsame hE.toEnvW hR.1 hR2.1 (by omega) h5) fun H6 h6 => ?_
    have ga := (h6.ord [3]).get
    have gb := (h6.ord [2]).get
    simp only [↓ga, ↓gb, ↓ev8, ↓ev4, eq_self, s_eql, s_neq, ↓sxp, sxq, seval, evP, evX, evR, blkOf, evA, storeA, resL, resV, oneOrTup, noUnk, AV.cells, Cells.get, ↓bnd_assoc]
    refine Fin.call (c_bsame hE.toEnvW hR.2 hR2.2 (by omega) h6) fun H7 h7 => ?_
    simp only [↓sxp, sxq, seval, evP, evX, evR, blkOf, evA, storeA, resL, resV, oneOrTup, noUnk, AV.cells, Cells.get, ↓bnd_assoc]
    exact ⟨_, rfl, rfl, (h7.rm 2).rm 2⟩
theorem lg4 (a b c d : AV) : Cells.getN (.lst [a, b, c, d]) 0 4 = some [a, b, c, d] := rfl
theorem c_mayEv (hE : EnvM E) {e : PEv} (he : EOk e) {a b : AV} {R : HP} (hR : pevR W (e, a, b) R) (h : Holds H (R :: Γ)) : ∃ H', go W E 15 [.agg (pevC e a b)] H = some (.bool true, H') ∧ Holds H' (R :: Γ) := by
  apply Ends.out
  refine (show Fin (fun r : AV × Heap => r.1 = .bool true ∧ Holds r.2 (R :: Γ)) _ from ?_)
  have h3 := h.push (c := pevC e a b) (t := 46)
  have ga := h3.get
  rw [go_code hE.f15 (by simp [sf15])]
  cases he with
  | call c hc =>
    simp only [pevC, cfC, List.cons_append, List.nil_append] at h3 ga
    simp only [sf15, pevC, cfC, List.cons_append, List.nil_append, ↓ga, ↓ev8, ↓ev4, eq_self, s_eql, s_neq, ↓sxp, sxq, seval, evP, evX, evR, blkOf, evA, storeA, resL, resV, oneOrTup, noUnk, AV.cells, Cells.get, ↓bnd_assoc]
    refine Fin.call (c_may25 hE hc hR (h3.ord [1])) fun H4 h4 => ?_
    have ga := (h4.ord [1]).get
    simp only [↓ga, ↓ev8, ↓ev4, eq_self, s_eql, s_neq, ↓sxp, sxq, seval, evP, evX, evR, blkOf, evA, storeA, resL, resV, oneOrTup, noUnk, AV.cells, Cells.get, ↓bnd_assoc]
    refine Fin.write [.int .i64 0, nilS, .int .i64 0, nilS] (h4.push (c := [.int .i64 0, nilS, .int .i64 0, nilS]) (t := 44)) rfl (by simp) rfl fun H5 h5 => ?_
    have g5 := h5.get
    have ga := (h5.ord [2]).get
    simp only [↓ga, ↓g5, ↓ev8, ↓ev4, zi, eq_self, s_eql, s_neq, ↓sxp, sxq, seval, evP, evX, evR, blkOf, evA, storeA, resL, resV, oneOrTup, noUnk, AV.cells, Cells.get, ↓bnd_assoc]
    exact ⟨_, rfl, rfl, (h5.rm 2).rm 0⟩
  | pow fu ch ag mo z1 z2 z3 z4 =>
    have e5 := c_same hE.toEnvW (c := ⟨0, [], [], [], [], 0, 0, []⟩) (RdLike.nil (W := W) R) (RdLike.nil (W := W) _) (by simp) (h3.ord [1])
    have l1 := (hR.1 h).len
    have l2 := (hR.2 h).len
    have o1 := (hR.1 h).one.2.2
    have o2 := (hR.2 h).one.2.2
    rw [z2] at l1
    rw [z4] at l2
    have y1 : ¬ (fu : Int) < -1 := by omega
    have y2 : ¬ (1073741824 : Int) < fu := by omega
    have y3 : ¬ (ag : Int) < -1 := by omega
    have y4 : ¬ (1073741824 : Int) < ag := by omega
    simp only [pevC, c0, cfC, zi, List.cons_append, List.nil_append] at h3 ga e5
    simp only [sf15, pevC, c0, List.cons_append, List.nil_append, ↓ga, ↓ev8, ↓ev4, eq_self, s_eql, s_neq, ↓sxp, sxq, seval, evP, evX, evR, blkOf, evA, storeA, resL, resV, oneOrTup, noUnk, AV.cells, Cells.get, ↓bnd_assoc]
    refine Fin.call e5 fun H4 h4 => ?_
    have ga := (h4.ord [1]).get
    simp only [↓ga, ↓ev8, ↓ev4, eq_self, s_eql, s_neq, ↓sxp, sxq, seval, evP, evX, evR, blkOf, evA, storeA, resL, resV, oneOrTup, noUnk, AV.cells, Cells.get, ↓bnd_assoc]
    refine Fin.write [.int .i64 (fu : Int), a, .int .i64 (ag : Int), b] (h4.push (c := [.int .i64 0, nilS, .int .i64 0, nilS]) (t := 44)) rfl (by simp) (by simp only [List.all_cons, List.all_nil, o1, o2, oneC_int, Bool.and_self]) fun H5 h5 => ?_
    have g5 := h5.get
    have ga := (h5.ord [2]).get
    simp only [↓ga, ↓g5, ↓ev8, ↓ev4, zi, nlit, l1, l2, y1, y2, y3, y4, eq_self, s_eql, s_neq, ↓sxp, sxq, seval, evP, evX, evR, blkOf, evA, storeA, resL, resV, oneOrTup, noUnk, AV.cells, Cells.get, ↓bnd_assoc]
    exact ⟨_, rfl, rfl, (h5.rm 2).rm 0⟩
end
end Go.Proofs.YtjfnhdiimibmiaaDoor.Sx

/- The law of events that may be. -/
namespace Go.Proofs.YtjfnhdiimibmiaaDoor.Sx
open HP
theorem rem8 (b : UInt8) : bin .rem (.int .u8 (b.toNat : Int)) (.int .u8 40) = some (.int .u8 ((b.toNat % 40 : Nat) : Int)) := by
  have h1 : ¬ (40 : Int) = 0 := by omega
  have h2 := b.toNat_lt
  have h3 : (40 : Int) = ((40 : Nat) : Int) := rfl
  simp only [bin, binI, if_true, if_neg h1]
  rw [h3, ← Int.ofNat_tmod]
section
variable {W : World} {E : Env} {H : Heap} {Γ : List HP}
theorem loop4 (hE : EnvM E) {xs ys : List (PEv × AV × AV)} {D D2 : HP} (hm : xs.map Prod.fst = ys.map Prod.fst) (hx : ∀ x ∈ xs, EOk x.1) (hR : ∀ x ∈ xs, pevR W x D) (hS : ∀ x ∈ ys, pevR W x D2) (hl : xs.length < 65536) {v w : AV} {df : List Nat} : ∀ (m i : Nat) (A : Tm) (H : Heap), i + m = xs.length → getX A 8 = w → getX A 34 = v → getX A 35 = .int .i64 (xs.length : Int) → getX A 36 = .int .i64 i → Holds H (row 46 17 (flatE xs) v :: D :: row 46 17 (flatE ys) w :: D2 :: Γ) →
    ∃ lv A' H', run W E (.loop lp4_0) ⟨A, df, none⟩ H = some (lv, ⟨A', df, none⟩, H') ∧ (lv = .exit 0 ∧ getX A' 6 = getX A 6 ∧ Holds H' (row 46 17 (flatE xs) v :: D :: row 46 17 (flatE ys) w :: D2 :: Γ)) := by
  have hlp : ∀ f H, run W E lp4_0 f H = run W E lp4_0 f H := fun _ _ => rfl
  conv at hlp => enter [f, H, 2]; unfold lp4_0
  have hlen : ys.length = xs.length := by
    have := congrArg List.length hm
    simpa using this.symm
  intro m
  induction m with
  | zero =>
    intro i A H him a8 a34 a35 a36 h
    have : i = xs.length := by omega
    subst this
    have hlt : ¬ (xs.length : Int) < xs.length := by omega
    rw [run_loop]
    simp only [hlp, a35, a36, hlt, ↓sxp, sxq, seval, evP, evX, evR, blkOf, evA, storeA, resL, resV, oneOrTup, noUnk, AV.cells, Cells.get, ↓bnd_assoc]
    exact ⟨_, _, _, rfl, rfl, by simp only [↓sxp, sxq, seval, evP, evX, evR, blkOf, evA, storeA, resL, resV, oneOrTup, noUnk, AV.cells, Cells.get, ↓bnd_assoc], h⟩
  | succ m ih =>
    intro i A H him a8 a34 a35 a36 h
    have hi : i < xs.length := by omega
    have hi' : i < ys.length := by omega
    have hlt : (i : Int) < xs.length := by omega
    have hwr : IntKind.i64.wrap ((i : Int) + 1) = ((i + 1 : Nat) : Int) := by rw [w64 (by omega)]; simp
    obtain ⟨j, l, c, rfl, g⟩ := h.row_get (by omega) (n := xs.length) (by rw [flatE_len]) (by omega)
    obtain ⟨j', l', c', rfl, g'⟩ := (h.ord [2]).row_get (by omega) (n := xs.length) (by rw [flatE_len, hlen]) (by omega)
    have hgn := flatE_getN xs i hi
    have hgn' := flatE_getN ys i hi'
    have hxi := hx _ (List.getElem_mem hi)
    have hRi := hR _ (List.getElem_mem hi)
    have hSi := hS _ (List.getElem_mem hi')
    have hee : (xs[i]'hi).1 = (ys[i]'hi').1 := by
      have := congrArg (fun l => l[i]?) hm
      simpa [List.getElem?_map, List.getElem?_eq_getElem hi, List.getElem?_eq_getElem hi'] using this
    generalize hxe : xs[i]'hi = x at *
    generalize hye : ys[i]'hi' = y at *
    obtain ⟨e, a, b⟩ := x
    obtain ⟨e', a2, b2⟩ := y
    simp only at hgn hxi hgn' hee
    subst hee
    have hg1 : Cells.getN (.lst (pevC e a b)) 0 17 = some (pevC e a b) := by
      have := getN_all (pevC e a b)
      rw [pevC_len] at this; exact this
    have hpl := pevC_len e a b
    have h1 := h.push (c := ev0) (t := 46)
    have hpo : (pevC e a b).all oneC = true := by
      cases hxi with
      | call c hc =>
        have o1 := (show RdLike W c.data a D from hRi) (h.ord [1]) |>.one.2.2
        simp only [pevC, cfC, List.cons_append, List.nil_append, List.all_cons, List.all_nil, o1, oneC_int, oneC_str, oneC_sl, Bool.and_self]
      | pow fu ch ag mo z1 z2 z3 z4 =>
        have o1 := (hRi.1 (h.ord [1])).one.2.2
        have o2 := (hRi.2 (h.ord [1])).one.2.2
        simp only [pevC, c0, List.cons_append, List.nil_append, List.all_cons, List.all_nil, o1, o2, oneC_int, oneC_str, oneC_sl, Bool.and_self]
    have hcs : ∀ {H : Heap} {Γ : List HP}, Holds H (D :: D2 :: Γ) → ∃ H', go W E 14 [.agg (pevC e a b), .agg (pevC e a2 b2)] H = some (.bool true, H') ∧ Holds H' (D :: D2 :: Γ) := fun h => c_sameEv hE hxi hRi hSi h
    have hcm : ∀ {H : Heap} {Γ : List HP}, Holds H (D :: Γ) → ∃ H', go W E 15 [.agg (pevC e a b)] H = some (.bool true, H') ∧ Holds H' (D :: Γ) := fun h => c_mayEv hE hxi hRi h
    generalize pevC e a b = C at *
    generalize pevC e a2 b2 = C2 at *
    apply Fin.ex3
    rw [run_loop]
    simp only [hlp, a8, a34, a35, a36, hlt, Int.natCast_nonneg, and_self, Int.toNat_natCast, ↓g, ↓hgn, hpl, ↓sxp, sxq, seval, evP, evX, evR, blkOf, evA, storeA, resL, resV, oneOrTup, noUnk, AV.cells, Cells.get, ↓bnd_assoc]
    generalize H.next = j10 at *
    refine Fin.write C h1 (setN_all (by rw [hpl]; rfl)) (by rw [hpl]; exact Nat.le_refl _) hpo fun H2 h2 => ?_
    have h3 := h2.bump 12
    have g3 := h2.get
    obtain ⟨_, _, _, hq, g4⟩ := (h2.ord [3]).row_get (by omega) (n := xs.length) (by rw [flatE_len, hlen]) (by omega)
    cases hq
    simp only [a8, hlt, Int.natCast_nonneg, and_self, Int.toNat_natCast, ↓g3, ↓g4, ↓hg1, ↓hgn', ↓sxp, sxq, seval, evP, evX, evR, blkOf, evA, storeA, resL, resV, oneOrTup, noUnk, AV.cells, Cells.get, ↓bnd_assoc]
    refine Fin.call (hcs (h3.ord [2, 3])) fun H4 h4 => ?_
    have g5 := (h4.ord [2]).get
    simp only [↓g3, ↓g5, ↓hg1, ↓sxp, sxq, seval, evP, evX, evR, blkOf, evA, storeA, resL, resV, oneOrTup, noUnk, AV.cells, Cells.get, ↓bnd_assoc]
    refine Fin.call (hcm h4) fun H5 h5 => ?_
    simp only [a36, hwr, ↓sxp, sxq, seval, evP, evX, evR, blkOf, evA, storeA, resL, resV, oneOrTup, noUnk, AV.cells, Cells.get, ↓bnd_assoc]
    exact Fin.of3 (ih (i + 1) _ _ (by omega) (by simp only [a8, ↓sxp, sxq, seval, evP, evX, evR, blkOf, evA, storeA, resL, resV, oneOrTup, noUnk, AV.cells, Cells.get, ↓bnd_assoc]) (by simp only [a34, ↓sxp, sxq, seval, evP, evX, evR, blkOf, evA, storeA, resL, resV, oneOrTup, noUnk, AV.cells, Cells.get, ↓bnd_assoc]) (by simp only [a35, ↓sxp, sxq, seval, evP, evX, evR, blkOf, evA, storeA, resL, resV, oneOrTup, noUnk, AV.cells, Cells.get, ↓bnd_assoc]) (by simp only [↓sxp, sxq, seval, evP, evX, evR, blkOf, evA, storeA, resL, resV, oneOrTup, noUnk, AV.cells, Cells.get, ↓bnd_assoc]) ((h5.rm 2).ord [2, 0, 1])) fun lv A' H' ⟨q1, q2, q3⟩ => ⟨q1, q2.trans (by simp only [↓sxp, sxq, seval, evP, evX, evR, blkOf, evA, storeA, resL, resV, oneOrTup, noUnk, AV.cells, Cells.get, ↓bnd_assoc]), q3⟩
theorem law_may (hE : EnvM E) (hG : GK W) (hM : GM W) {seed : List UInt8} (hs : seed.length = 32) (b : UInt8) (h : Holds H Γ) : ∃ H', go W E 4 [.agg (cb seed), .int .u8 (b.toNat : Int)] H = some (.bool true, H') := by
  suffices hh : Fin (fun r : AV × Heap => r.1 = .bool true) (go W E 4 [.agg (cb seed), .int .u8 (b.toNat : Int)] H) by
    obtain ⟨⟨r, H'⟩, e, hr⟩ := hh
    simp only at hr
    subst hr
    exact ⟨H', e⟩
  have h1 := h.push (c := cb seed) (t := 22)
  have hgs := getN_cb hs
  have hr8 := rem8 b
  have hk : b.toNat % 40 ≤ 1024 := by omega
  have hw : IntKind.i64.wrap ((b.toNat % 40 : Nat) : Int) = ((b.toNat % 40 : Nat) : Int) := by rw [w64 (by omega)]
  have hn40 : b.toNat % 40 < 40 := Nat.mod_lt _ (by omega)
  rw [go_code hE.f4 (by simp [sf4])]
  generalize hcs : cb seed = cs at *
  simp only [sf4, ↓sxp, sxq, seval, evP, evX, evR, blkOf, evA, storeA, resL, resV, oneOrTup, noUnk, AV.cells, Cells.get, ↓bnd_assoc]
  generalize H.next = j3 at *
  refine Fin.call (c_awake hE.toEnvL hG h1) fun H2 h2 => ?_
  have g2 := h2.get
  simp only [↓g2, ↓hgs, ↓hr8, hw, ↓sxp, sxq, seval, evP, evX, evR, blkOf, evA, storeA, resL, resV, oneOrTup, noUnk, AV.cells, Cells.get, ↓bnd_assoc]
  generalize b.toNat % 40 = q at *
  subst hcs
  refine Fin.callX (fun r H' => ∃ v, r = .tup [v, .int .i64 0] ∧ EsH W (pevs seed q) H' v (blk j3 (cb seed) 22 :: Γ)) (by obtain ⟨v, H', e, z⟩ := c_events (W := W) hE.toEnvW hG hs hk h2; exact ⟨_, H', e, v, rfl, z⟩) fun r K2 ⟨v1, hr, xs, D, hx1, hx2, k2⟩ => ?_
  subst hr
  have g3 := (k2.ord [2]).get
  generalize hcs : cb seed = cs at *
  simp only [↓g3, ↓hgs, ↓sxp, sxq, seval, evP, evX, evR, blkOf, evA, storeA, resL, resV, oneOrTup, noUnk, AV.cells, Cells.get, ↓bnd_assoc]
  subst hcs
  refine Fin.callX (fun r H' => EsH W (pevs seed q) H' r (blk j3 (cb seed) 22 :: row 46 17 (flatE xs) v1 :: D :: Γ)) (by obtain ⟨v, H', e, z⟩ := c_devents (W := W) hE.toEnvW hE.f13 hs hk (k2.ord [2]); exact ⟨_, H', e, z⟩) fun v2 K3 ⟨ys, D2, hy1, hy2, k3⟩ => ?_
  have k4 : Holds K3 (row 46 17 (flatE xs) v1 :: D :: row 46 17 (flatE ys) v2 :: D2 :: Γ) := (k3.rm 2).ord [2, 2, 0, 0]
  have hlx : xs.length = (pevs seed q).length := by rw [← hx1, List.length_map]
  have hly : ys.length = (pevs seed q).length := by rw [← hy1, List.length_map]
  have hpl := pevs_len seed q
  have hok : ∀ x ∈ xs, EOk x.1 := fun x hx => pevs_ok seed q _ (by rw [← hx1]; exact List.mem_map_of_mem hx)
  obtain ⟨_, _, ev1⟩ := k4.row_len (by omega) (n := xs.length) (by rw [flatE_len])
  obtain ⟨_, _, ev2⟩ := (k4.ord [2]).row_len (by omega) (n := xs.length) (by rw [flatE_len, hly, hlx])
  have l1 : lenV v1 = some (.int .i64 xs.length) := by rw [ev1]; rfl
  have l2 : lenV v2 = some (.int .i64 xs.length) := by rw [ev2]; rfl
  have o1 : oneC v1 = true := by rw [ev1]; rfl
  simp only [l1, l2, eq_self, ↓sxp, sxq, seval, evP, evX, evR, blkOf, evA, storeA, resL, resV, oneOrTup, noUnk, AV.cells, Cells.get, ↓bnd_assoc]
  refine Fin.loop (loop4 hE (by rw [hx1, hy1]) hok hx2 hy2 (by omega) xs.length 0 _ _ (by omega) (by simp only [↓sxp, sxq, seval, evP, evX, evR, blkOf, evA, storeA, resL, resV, oneOrTup, noUnk, AV.cells, Cells.get, ↓bnd_assoc]) (by simp only [↓sxp, sxq, seval, evP, evX, evR, blkOf, evA, storeA, resL, resV, oneOrTup, noUnk, AV.cells, Cells.get, ↓bnd_assoc]) (by simp only [↓sxp, sxq, seval, evP, evX, evR, blkOf, evA, storeA, resL, resV, oneOrTup, noUnk, AV.cells, Cells.get, ↓bnd_assoc]) (by simp only [↓sxp, sxq, seval, evP, evX, evR, blkOf, evA, storeA, resL, resV, oneOrTup, noUnk, AV.cells, Cells.get, ↓bnd_assoc] <;> rfl) k4) fun lv A K5 ⟨e1, a6, k5⟩ => ?_
  subst e1
  simp only [↓sxp, sxq, seval, evP, evX, evR, blkOf, evA, storeA, resL, resV, oneOrTup, noUnk, AV.cells, Cells.get, ↓bnd_assoc] at a6
  simp only [a6, o1, ↓sxp, sxq, seval, evP, evX, evR, blkOf, evA, storeA, resL, resV, oneOrTup, noUnk, AV.cells, Cells.get, ↓bnd_assoc]
  refine Fin.call (c_smay16 hE hM hok hx2 (by omega) k5) fun K6 k6 => ?_
  simp only [↓sxp, sxq, seval, evP, evX, evR, blkOf, evA, storeA, resL, resV, oneOrTup, noUnk, AV.cells, Cells.get, ↓bnd_assoc]
  exact ⟨_, rfl, rfl⟩
end
end Go.Proofs.YtjfnhdiimibmiaaDoor.Sx

/- From the second reading to a row. -/
namespace Go.Proofs.YtjfnhdiimibmiaaDoor.Sx
open Go.RowKit Go.WideShapes Go.ChangeShapes
section
variable {H : Type} {enc' : TypeId × Value → H} {P : Program}
theorem post_of_below' {f : Func} {s : ChangeSpec} {apart fresh handsOn again : Bool} {W W' : World} {args : Array Value} {v : Value} {ds gs : List (DataW H)} {before pa pv : List MemPlace}
    (hW : DataW.Whole enc' P f.params.toList s.vars apart W args.toList ds gs before)
    (hres : ∀ (b : Nat) (sp : Nat → Bool) (hd : Bool), DataW.TrodAll enc' P W' b sp hd f.resultTypes.toList (v.resultList f.resultTypes.size) (s.fn H (ds ++ gs)).results [])
    (hargs : ∀ sp : Nat → Bool, (∀ p ∈ before, sp p.block = true) → DataW.TrodAll enc' P W' 0 sp true f.params.toList args.toList (s.fn H (ds ++ gs)).args pa)
    (hvars : ∀ sp : Nat → Bool, (∀ p ∈ before, sp p.block = true) → DataW.TrodVars enc' P W' sp s.vars (s.fn H (ds ++ gs)).vars pv)
    (hps : before = pa ++ pv) (hb : Below W.heap.size W W')
    (hok : ∀ (j : Nat) (t : TypeId) (r : Value), f.resultTypes[j]? = some t → (v.resultList f.resultTypes.size)[j]? = some r → Value.okWide P W' .any 0 t r) :
    s.post enc' P f apart fresh handsOn again W args v W' := by
  have hlt : ∀ p ∈ before, p.block < W.heap.size := fun p hp => hW.lt p hp
  have hold : ∀ p ∈ before, (fun b => decide (b < W.heap.size)) p.block = true := fun p hp => by simpa using hlt p hp
  refine ⟨ds, gs, before, [], pa, pv, hW, hres _ _ _, hargs _ hold, hvars _ hold, World.keptBut_mono (fun p hp => ⟨hp, ?_⟩) (hb.frame (· ∈ before)), fun _ => ?_⟩
  · rw [hps, List.mem_append] at hp
    exact Or.inr hp
  · obtain ⟨_, _, _, _, _, hz, hn⟩ := hW
    refine ⟨hok, _, _, ([] ++ pa) ++ pv, ⟨[] ++ pa, pv, trodAll_append (hargs _ (fun _ _ => rfl)) (hres _ _ _), hvars _ (fun _ _ => rfl), rfl, ?_, ?_⟩, ?_⟩
    · intro b off hp
      have hin : MemPlace.cell b off ∈ before := by rw [hps]; simpa using hp
      rw [hb.frozen (hlt _ hin)]
      exact hz b off hin
    · intro ha
      have := hn ha
      rw [hps] at this
      simpa using this
    · intro p hp _
      rw [hps]
      simpa using hp

/-- What the second reading answers, the call answers, and leaves all that was there as it was. -/
theorem calls_true {W : World} {E : Env} (hE : EnvOk P W E) {f : FuncId} {avs : List AV} {args : Array Value} (ha : VRL ⟨fun _ => none, fun _ => 0, fun _ => 0⟩ avs args.toList) (hg : ∃ H', go W E f avs ⟨0, .e, .e⟩ = some (.bool true, H')) :
    Calls P f args W fun e W' => e = .returned (.bool true) ∧ Below W.heap.size W W' := by
  obtain ⟨H', hg⟩ := hg
  intro cs
  obtain ⟨_, h⟩ := go_sound W E hE f avs ⟨0, .e, .e⟩ _ _ hg _ W args (HR.start W) ha
  obtain ⟨μ', w', fr, v', hs, hl, hf, hr, _, hv⟩ := h cs
  cases hv
  exact ⟨.returned (.bool true), w', fr, ⟨rfl, hr.os, hr.tape, hr.output, hr.size, hr.old⟩, hs, hf, hl⟩

theorem args_stay (hl : laidOutB P = true) {W W' : World} (hb : Below W.heap.size W W') : ∀ {ts : List TypeId} {vs : List Value} {ds : List (DataW H)} {ps : List MemPlace}, ts.all (fun t => P.readableRec t && decide (t < P.types.size)) = true → DataW.TrodAll enc' P W 0 (fun _ => true) true ts vs ds ps → (∀ p ∈ ps, p.block < W.heap.size) →
    ∀ sp : Nat → Bool, (∀ p ∈ ps, sp p.block = true) → DataW.TrodAll enc' P W' 0 sp true ts vs ds ps
  | [], [], [], _, _, h, _ => fun _ _ => h
  | [], [], _ :: _, _, _, h, _ => h.elim
  | [], _ :: _, _, _, _, h, _ => h.elim
  | _ :: _, [], _, _, _, h, _ => h.elim
  | _ :: _, _ :: _, [], _, _, h, _ => h.elim
  | t :: ts, v :: vs, d :: ds, ps, ht, ⟨p, q, h1, h2, e⟩, hlt => fun sp hsp => by
    simp only [List.all_cons, Bool.and_eq_true, decide_eq_true_eq] at ht
    exact ⟨p, q, WideElems.Trod_stays hl ht.1.1 ht.1.2 h1 (fun x hx => hb.same (hlt x (by rw [e]; exact List.mem_append_left _ hx))) (fun x hx => hsp x (by rw [e]; exact List.mem_append_left _ hx)),
      args_stay hl hb ht.2 h2 (fun x hx => hlt x (by rw [e]; exact List.mem_append_right _ hx)) sp (fun x hx => hsp x (by rw [e]; exact List.mem_append_right _ hx)), e⟩
theorem trodAll_length {W : World} {base : Nat} {sp : Nat → Bool} {hd : Bool} : ∀ {ts : List TypeId} {vs : List Value} {ds : List (DataW H)} {ps : List MemPlace}, DataW.TrodAll enc' P W base sp hd ts vs ds ps → ds.length = ts.length
  | [], [], [], _, _ => rfl
  | [], [], _ :: _, _, h => h.elim
  | [], _ :: _, _, _, h => h.elim
  | _ :: _, [], _, _, h => h.elim
  | _ :: _, _ :: _, [], _, h => h.elim
  | _ :: _, _ :: _, _ :: _, _, ⟨_, _, _, h2, _⟩ => by simp [trodAll_length h2]
/-- A law whose call, in the second reading, answers true at all that can be read. -/
theorem law_lifted {C : Checked} {os : Os} {f : FuncId} {fn : Func} {s : ChangeSpec} {apart fresh handsOn again : Bool} {tb : TypeId}
    (own : ownKnob C.prog.godebug = none) (started : os.Started) (noInit : C.prog.inits.idxOf? f = none) (hfn : C.prog.funcs[f]? = some fn)
    (witness : ∃ (w : World) (tape : Tape) (i : Input), w.os = os ∧ (w.forCall tape i).Shaped C.prog ∧ i.vars = [] ∧ Input.okWide C.prog (w.forCall tape i) .any w.heap.size f i ∧
      s.pre6 enc' C.prog fn [] apart (w.forCall tape i).memory i.args ∧ ({} : Assume).holds C.prog (lone (Frame.enter C.prog f i.args .normal) [] (w.forCall tape i)))
    (hl : laidOutB C.prog = true) (hts : fn.params.toList.all (fun t => C.prog.readableRec t && decide (t < C.prog.types.size)) = true) (hvars : s.vars = [])
    (hres : fn.resultTypes = #[tb]) (hb : C.prog.underlying tb = some .bool) (hspec : ∀ ds : List (DataW H), ds.length = fn.params.toList.length → s.fn H (ds ++ []) = { results := [.lit (.bool true)], args := ds })
    {E : World → Env} (hE : ∀ W, EnvOk C.prog W (E W))
    (law : ∀ (W : World) (base : Nat) (args : Array Value) (ds : List (DataW H)) (ps : List MemPlace), (∀ (j : Nat) t v, fn.params[j]? = some t → args[j]? = some v → Value.okWide C.prog W .any base t v) → DataW.TrodAll enc' C.prog W 0 (fun _ => true) true fn.params.toList args.toList ds ps →
      ∃ avs, VRL ⟨fun _ => none, fun _ => 0, fun _ => 0⟩ avs args.toList ∧ ∃ H', go W (E W) f avs ⟨0, .e, .e⟩ = some (.bool true, H')) :
    ReturnsInHanded {} C os f .any (s.pre6 enc' C.prog fn [] apart) (s.post enc' C.prog fn apart fresh handsOn again) := by
  refine returnsInHanded_of_change own started noInit hfn witness ?_
  intro W base args ds gs before hval hW _ _
  have hW' := hW
  obtain ⟨p, q, hA, hV, rfl, hfz, hnd⟩ := hW
  rw [hvars] at hV
  obtain ⟨rfl, rfl⟩ := trodVars_none hV
  obtain ⟨avs, h1, h2⟩ := law W base args ds p hval hA
  refine (calls_true (hE W) h1 h2).mono fun e W' ⟨he, hbel⟩ => ?_
  subst he
  have hs := hspec ds (trodAll_length hA)
  refine ⟨_, rfl, post_of_below' (pa := p) (pv := []) hW' (fun _ _ _ => ?_) (fun sp hsp => ?_) (fun sp _ => ?_) rfl hbel ?_⟩
  · rw [hs, hres]
    exact trodAll_mk1 (shut_bool hb true)
  · rw [hs]
    have hlt : ∀ x ∈ p, x.block < W.heap.size := fun x hx => hW'.lt x (by simpa using hx)
    exact args_stay hl hbel hts hA hlt sp (fun x hx => hsp x (by simpa using hx))
  · rw [hs, hvars]; rfl
  · exact ok_one hres rfl (by simp [Value.okWide, hb, Cell.okWide, Cell.ok])
end
section
variable {P : Program} {W : World} {H : Type} {enc' : TypeId × Value → H} {sp : Nat → Bool} {hd : Bool}
theorem getN_of {l : List AV} : ∀ (n off : Nat) (cs : List AV), cs.length = n → (∀ i, i < n → l[off + i]? = cs[i]?) → Cells.getN (.lst l) off n = some cs := by
  intro n
  induction n with
  | zero => intro off cs hc _; rw [List.eq_nil_of_length_eq_zero hc]; rfl
  | succ n ih =>
    intro off cs hc h
    cases cs with
    | nil => simp at hc
    | cons c cs =>
      have h0 := h 0 (by omega)
      simp only [Nat.add_zero, List.getElem?_cons_zero] at h0
      simp only [Cells.getN, Cells.get, h0]
      rw [ih (off + 1) cs (by simpa using hc) (fun i hi => by have := h (i + 1) (by omega); rw [show off + 1 + i = off + (i + 1) from by omega, this]; simp)]
theorem cells_old {a : Addr} {n base : Nat} {cs : List Value} (h : W.cells? base a n = some cs) (hn : 0 < n) : a.spot = none ∧ ∃ c, (∀ H, blkOf W H (.old a.block) = some c) ∧ c.getN a.off n = some (cs.map enc) := by
  obtain ⟨_, hlen, hc⟩ := World.cells?_some h
  have h0 := hc 0 hn
  have e0 : a.add 0 = a := by unfold Addr.add; cases a; simp
  rw [e0, List.getElem?_eq_getElem (by omega)] at h0
  have hsp := World.cell?_spot h0
  refine ⟨hsp, ?_⟩
  unfold World.cell? at h0
  cases hb : W.heap[a.block]? with
  | none => rw [hb] at h0; cases h0
  | some o =>
    cases o with
    | cells c t fz =>
      refine ⟨.lst (c.toList.map enc), fun H => by simp only [blkOf, hb], getN_of n a.off _ (by simpa using hlen) (fun i hi => ?_)⟩
      have hi' := hc i hi
      have hai : (a.add i).block = a.block ∧ (a.add i).off = a.off + i ∧ (a.add i).spot = none := by
        unfold Addr.add
        split
        · rename_i e; subst e; exact ⟨rfl, rfl, hsp⟩
        · simp_all
      unfold World.cell? at hi'
      rw [hai.1, hb, hai.2.1, hai.2.2] at hi'
      simp only [Option.isSome_none, Bool.false_eq_true, if_false] at hi'
      rw [List.getElem?_map, List.getElem?_map, ← hi']
      simp
    | _ => rw [hb] at h0; cases h0
end
end Go.Proofs.YtjfnhdiimibmiaaDoor.Sx

/- The seat's functions are what they were compiled to. -/
namespace Go.Proofs.YtjfnhdiimibmiaaDoor.Sx
open Go.Proofs
theorem hc3 : compFn Tryd.prog 3 = some sf3 := by kernel_rfl
theorem hc4 : compFn Tryd.prog 4 = some sf4 := by kernel_rfl
theorem hc5 : compFn Tryd.prog 5 = some sf5 := by kernel_rfl
theorem hc6 : compFn Tryd.prog 6 = some sf6 := by kernel_rfl
theorem hc7 : compFn Tryd.prog 7 = some sf7 := by kernel_rfl
theorem hc8 : compFn Tryd.prog 8 = some sf8 := by kernel_rfl
theorem hc9 : compFn Tryd.prog 9 = some sf9 := by kernel_rfl
theorem hc10 : compFn Tryd.prog 10 = some sf10 := by kernel_rfl
theorem hc11 : compFn Tryd.prog 11 = some sf11 := by kernel_rfl
theorem hc12 : compFn Tryd.prog 12 = some sf12 := by kernel_rfl
theorem hc13 : compFn Tryd.prog 13 = some sf13 := by kernel_rfl
theorem hc14 : compFn Tryd.prog 14 = some sf14 := by kernel_rfl
theorem hc15 : compFn Tryd.prog 15 = some sf15 := by kernel_rfl
theorem hc16 : compFn Tryd.prog 16 = some sf16 := by kernel_rfl
theorem hc17 : compFn Tryd.prog 17 = some sf17 := by kernel_rfl
theorem hc18 : compFn Tryd.prog 18 = some sf18 := by kernel_rfl
theorem hc19 : compFn Tryd.prog 19 = some sf19 := by kernel_rfl
theorem hc20 : compFn Tryd.prog 20 = some sf20 := by kernel_rfl
theorem hc21 : compFn Tryd.prog 21 = some sf21 := by kernel_rfl
theorem hc22 : compFn Tryd.prog 22 = some sf22 := by kernel_rfl
theorem hc23 : compFn Tryd.prog 23 = some sf23 := by kernel_rfl
theorem hc24 : compFn Tryd.prog 24 = some sf24 := by kernel_rfl
theorem hc25 : compFn Tryd.prog 25 = some sf25 := by kernel_rfl
theorem hc26 : compFn Tryd.prog 26 = some sf26 := by kernel_rfl
theorem hc27 : compFn Tryd.prog 27 = some sf27 := by kernel_rfl
theorem hc28 : compFn Tryd.prog 28 = some sf28 := by kernel_rfl
theorem hc29 : compFn Tryd.prog 29 = some sf29 := by kernel_rfl
theorem hc30 : compFn Tryd.prog 30 = some sf30 := by kernel_rfl
theorem hc31 : compFn Tryd.prog 31 = some sf31 := by kernel_rfl
theorem hc32 : compFn Tryd.prog 32 = some sf32 := by kernel_rfl
theorem hc33 : compFn Tryd.prog 33 = some sf33 := by kernel_rfl
theorem hc34 : compFn Tryd.prog 34 = some sf34 := by kernel_rfl
theorem hc35 : compFn Tryd.prog 35 = some sf35 := by kernel_rfl
theorem hc36 : compFn Tryd.prog 36 = some sf36 := by kernel_rfl
theorem hc37 : compFn Tryd.prog 37 = some sf37 := by kernel_rfl
theorem hc38 : compFn Tryd.prog 38 = some sf38 := by kernel_rfl
theorem hc39 : compFn Tryd.prog 39 = some sf39 := by kernel_rfl
theorem hc40 : compFn Tryd.prog 40 = some sf40 := by kernel_rfl
theorem hc41 : compFn Tryd.prog 41 = some sf41 := by kernel_rfl
theorem hc42 : compFn Tryd.prog 42 = some sf42 := by kernel_rfl
theorem hc43 : compFn Tryd.prog 43 = some sf43 := by kernel_rfl
theorem hc44 : compFn Tryd.prog 44 = some sf44 := by kernel_rfl
theorem hc45 : compFn Tryd.prog 45 = some sf45 := by kernel_rfl
theorem hc46 : compFn Tryd.prog 46 = some sf46 := by kernel_rfl
theorem hc47 : compFn Tryd.prog 47 = some sf47 := by kernel_rfl
theorem hc48 : compFn Tryd.prog 48 = some sf48 := by kernel_rfl
theorem hc49 : compFn Tryd.prog 49 = some sf49 := by kernel_rfl
theorem hc50 : compFn Tryd.prog 50 = some sf50 := by kernel_rfl
theorem hc51 : compFn Tryd.prog 51 = some sf51 := by kernel_rfl
theorem hc52 : compFn Tryd.prog 52 = some sf52 := by kernel_rfl
theorem hc53 : compFn Tryd.prog 53 = some sf53 := by kernel_rfl
theorem hc54 : compFn Tryd.prog 54 = some sf54 := by kernel_rfl
theorem hc55 : compFn Tryd.prog 55 = some sf55 := by kernel_rfl
theorem hc56 : compFn Tryd.prog 56 = some sf56 := by kernel_rfl
theorem hc57 : compFn Tryd.prog 57 = some sf57 := by kernel_rfl
theorem hc58 : compFn Tryd.prog 58 = some sf58 := by kernel_rfl
theorem hc59 : compFn Tryd.prog 59 = some sf59 := by kernel_rfl
theorem hc60 : compFn Tryd.prog 60 = some sf60 := by kernel_rfl
theorem hc61 : compFn Tryd.prog 61 = some sf61 := by kernel_rfl
theorem hc62 : compFn Tryd.prog 62 = some sf62 := by kernel_rfl
theorem hc63 : compFn Tryd.prog 63 = some sf63 := by kernel_rfl
theorem hc64 : compFn Tryd.prog 64 = some sf64 := by kernel_rfl
theorem hc65 : compFn Tryd.prog 65 = some sf65 := by kernel_rfl
theorem hc66 : compFn Tryd.prog 66 = some sf66 := by kernel_rfl
theorem hc67 : compFn Tryd.prog 67 = some sf67 := by kernel_rfl
theorem hc68 : compFn Tryd.prog 68 = some sf68 := by kernel_rfl
theorem hc69 : compFn Tryd.prog 69 = some sf69 := by kernel_rfl
theorem hc70 : compFn Tryd.prog 70 = some sf70 := by kernel_rfl
theorem hc71 : compFn Tryd.prog 71 = some sf71 := by kernel_rfl
theorem hc72 : compFn Tryd.prog 72 = some sf72 := by kernel_rfl
theorem hc73 : compFn Tryd.prog 73 = some sf73 := by kernel_rfl
theorem hc74 : compFn Tryd.prog 74 = some sf74 := by kernel_rfl
theorem hc75 : compFn Tryd.prog 75 = some sf75 := by kernel_rfl
def envF : Env
  | 3 => some (.code sf3)
  | 4 => some (.code sf4)
  | 5 => some (.code sf5)
  | 6 => some (.code sf6)
  | 7 => some (.code sf7)
  | 8 => some (.code sf8)
  | 9 => some (.code sf9)
  | 10 => some (.code sf10)
  | 11 => some (.code sf11)
  | 12 => some (.code sf12)
  | 13 => some (.code sf13)
  | 14 => some (.code sf14)
  | 15 => some (.code sf15)
  | 16 => some (.code sf16)
  | 17 => some (.code sf17)
  | 18 => some (.code sf18)
  | 19 => some (.code sf19)
  | 20 => some (.code sf20)
  | 21 => some (.code sf21)
  | 22 => some (.code sf22)
  | 23 => some (.code sf23)
  | 24 => some (.code sf24)
  | 25 => some (.code sf25)
  | 26 => some (.code sf26)
  | 27 => some (.code sf27)
  | 28 => some (.code sf28)
  | 29 => some (.code sf29)
  | 30 => some (.code sf30)
  | 31 => some (.code sf31)
  | 32 => some (.code sf32)
  | 33 => some (.code sf33)
  | 34 => some (.code sf34)
  | 35 => some (.code sf35)
  | 36 => some (.code sf36)
  | 37 => some (.code sf37)
  | 38 => some (.code sf38)
  | 39 => some (.code sf39)
  | 40 => some (.code sf40)
  | 41 => some (.code sf41)
  | 42 => some (.code sf42)
  | 43 => some (.code sf43)
  | 44 => some (.code sf44)
  | 45 => some (.code sf45)
  | 46 => some (.code sf46)
  | 47 => some (.code sf47)
  | 48 => some (.code sf48)
  | 49 => some (.code sf49)
  | 50 => some (.code sf50)
  | 51 => some (.code sf51)
  | 52 => some (.code sf52)
  | 53 => some (.code sf53)
  | 54 => some (.code sf54)
  | 55 => some (.code sf55)
  | 56 => some (.code sf56)
  | 57 => some (.code sf57)
  | 58 => some (.code sf58)
  | 59 => some (.code sf59)
  | 60 => some (.code sf60)
  | 61 => some (.code sf61)
  | 62 => some (.code sf62)
  | 63 => some (.code sf63)
  | 64 => some (.code sf64)
  | 65 => some (.code sf65)
  | 66 => some (.code sf66)
  | 67 => some (.code sf67)
  | 68 => some (.code sf68)
  | 69 => some (.code sf69)
  | 70 => some (.code sf70)
  | 71 => some (.code sf71)
  | 72 => some (.code sf72)
  | 73 => some (.code sf73)
  | 74 => some (.code sf74)
  | 75 => some (.code sf75)
  | _ => none
theorem envF_ok (W : World) : EnvOk Tryd.prog W envF := by
  intro f e h
  unfold envF at h
  split at h
  · cases h; exact hc3
  · cases h; exact hc4
  · cases h; exact hc5
  · cases h; exact hc6
  · cases h; exact hc7
  · cases h; exact hc8
  · cases h; exact hc9
  · cases h; exact hc10
  · cases h; exact hc11
  · cases h; exact hc12
  · cases h; exact hc13
  · cases h; exact hc14
  · cases h; exact hc15
  · cases h; exact hc16
  · cases h; exact hc17
  · cases h; exact hc18
  · cases h; exact hc19
  · cases h; exact hc20
  · cases h; exact hc21
  · cases h; exact hc22
  · cases h; exact hc23
  · cases h; exact hc24
  · cases h; exact hc25
  · cases h; exact hc26
  · cases h; exact hc27
  · cases h; exact hc28
  · cases h; exact hc29
  · cases h; exact hc30
  · cases h; exact hc31
  · cases h; exact hc32
  · cases h; exact hc33
  · cases h; exact hc34
  · cases h; exact hc35
  · cases h; exact hc36
  · cases h; exact hc37
  · cases h; exact hc38
  · cases h; exact hc39
  · cases h; exact hc40
  · cases h; exact hc41
  · cases h; exact hc42
  · cases h; exact hc43
  · cases h; exact hc44
  · cases h; exact hc45
  · cases h; exact hc46
  · cases h; exact hc47
  · cases h; exact hc48
  · cases h; exact hc49
  · cases h; exact hc50
  · cases h; exact hc51
  · cases h; exact hc52
  · cases h; exact hc53
  · cases h; exact hc54
  · cases h; exact hc55
  · cases h; exact hc56
  · cases h; exact hc57
  · cases h; exact hc58
  · cases h; exact hc59
  · cases h; exact hc60
  · cases h; exact hc61
  · cases h; exact hc62
  · cases h; exact hc63
  · cases h; exact hc64
  · cases h; exact hc65
  · cases h; exact hc66
  · cases h; exact hc67
  · cases h; exact hc68
  · cases h; exact hc69
  · cases h; exact hc70
  · cases h; exact hc71
  · cases h; exact hc72
  · cases h; exact hc73
  · cases h; exact hc74
  · cases h; exact hc75
  · cases h
end Go.Proofs.YtjfnhdiimibmiaaDoor.Sx

/- LotMay: the row. -/
namespace Go.Proofs.YtjfnhdiimibmiaaDoor.Sx
open Go.Proofs
open Go.RowKit Go.WideShapes Go.ChangeShapes Go.ChangeAt Go.WideMaps Go.WideElems
theorem Tryd.own' : ownKnob Tryd.prog.godebug = none := by kernel_rfl
theorem Tryd.laidOut' : laidOutB Tryd.prog = true := by kernel_rfl
theorem envW : EnvW envF := by constructor <;> first | rfl | (constructor <;> rfl)
theorem envL : EnvL envF := by constructor <;> first | exact envW | rfl
theorem envM : EnvM envF := by constructor <;> first | exact envL | rfl
theorem gFields : Tryd.prog.globalNamed "bastille/call.fields" = some 1 := by kernel_rfl
theorem gKinds : Tryd.prog.globalNamed "bastille/lot.kinds" = some 0 := by kernel_rfl
theorem u22 : Tryd.prog.underlying 22 = some (.array 32 5) := by kernel_rfl
theorem c22 : Tryd.prog.cellsOf 22 = 32 := by kernel_rfl
theorem u5 : Tryd.prog.underlying 5 = some (.int .u8) := by kernel_rfl
theorem c5 : Tryd.prog.cellsOf 5 = 1 := by kernel_rfl
theorem tFields : (Tryd.prog.globals[1]?).map (·.type) = some 74 := by kernel_rfl
theorem tKinds : (Tryd.prog.globals[0]?).map (·.type) = some 74 := by kernel_rfl
section
variable {W : World} {H : Type} {enc' : TypeId × Value → H} {hd : Bool}
theorem byte_in {P : Program} {e : TypeId} (he : P.underlying e = some (.int .u8)) {n : Nat} {cs : List Value} {x : DataW H × List MemPlace} (h : DataW.trod enc' P W 0 (fun _ => true) hd n e cs = some x) : ∃ b : UInt8, cs = [.int .u8 b.toNat] := by
  obtain ⟨k, rfl, _, hw⟩ := DataW.trod_int he h
  have hk : 0 ≤ k ∧ k ≤ 255 := by simpa [Lit.wf, IntKind.min, IntKind.max, IntKind.signed, IntKind.bits] using hw
  refine ⟨UInt8.ofNat k.toNat, ?_⟩
  have : ((UInt8.ofNat k.toNat).toNat : Int) = k := by
    rw [UInt8.toNat_ofNat']; omega
  rw [this]
theorem vrl_bytes {μ : Emb} : ∀ (L : List UInt8), VRL μ (cb L) (L.map fun b => .int .u8 b.toNat)
  | [] => .nil
  | _ :: L => .cons (.int _ _) (vrl_bytes L)
theorem cells_bytes : ∀ (n : Nat) (cs : List Value), cs.length = n → (∀ i, i < n → ∃ b : UInt8, (cs.drop (i * 1)).take 1 = [.int .u8 b.toNat]) → ∃ L : List UInt8, L.length = n ∧ cs = L.map fun b => .int .u8 b.toNat := by
  intro n
  induction n with
  | zero => intro cs hc _; exact ⟨[], rfl, by rw [List.eq_nil_of_length_eq_zero hc]; rfl⟩
  | succ n ih =>
    intro cs hc h
    cases cs with
    | nil => simp at hc
    | cons c cs =>
      obtain ⟨b, hb⟩ := h 0 (by omega)
      simp at hb
      obtain ⟨L, h1, h2⟩ := ih cs (by simpa using hc) (fun i hi => by have := h (i + 1) (by omega); simpa using this)
      exact ⟨b :: L, by simp [h1], by rw [hb, h2]; rfl⟩
/-- Thirty-two bytes that are read. -/
theorem seed_in {v : Value} {d : DataW H} {ps : List MemPlace} (h : DataW.Trod enc' Tryd.prog W 0 (fun _ => true) hd 22 v d ps) : ∃ L : List UInt8, L.length = 32 ∧ VR ⟨fun _ => none, fun _ => 0, fun _ => 0⟩ (.agg (cb L)) v := by
  obtain ⟨n, h⟩ := h
  obtain ⟨xs, m, rfl, _, hl, hxl, hf⟩ := DataW.trod_array u22 h
  rw [c22] at hl
  obtain ⟨L, h1, h2⟩ := cells_bytes 32 v.cells.toList hl (fun i hi => by
    have := hf i hi
    rw [c5, List.getElem?_eq_getElem (by omega)] at this
    obtain ⟨b, hb⟩ := byte_in u5 this
    exact ⟨b, hb⟩)
  refine ⟨L, h1, ?_⟩
  cases v with
  | agg a =>
    have h2 : a.toList = L.map fun b => .int .u8 b.toNat := h2
    exact .agg (by rw [h2]; exact vrl_bytes L)
  | _ => simp [Value.cells] at hl
theorem u74 : Tryd.prog.underlying 74 = some (.array 17 3) := by kernel_rfl
theorem c74 : Tryd.prog.cellsOf 74 = 17 := by kernel_rfl
theorem c3' : Tryd.prog.cellsOf 3 = 1 := by kernel_rfl
theorem u3' : Tryd.prog.underlying 3 = some (.int .i64) := by kernel_rfl
theorem ints_in {x : List (DataW H × List MemPlace)} {m : Nat} : ∀ (n : Nat) (cs : List Value) (ds : List Int), cs.length = n → x.length = n → x.map (·.1) = ds.map (fun k => .lit (.int .i64 k)) → (∀ i, i < n → DataW.trod enc' Tryd.prog W 0 (fun _ => true) hd m 3 ((cs.drop (i * 1)).take 1) = x[i]?) → ∀ i, i < n → cs[i]? = (ds[i]?).map fun k => .int .i64 k := by
  intro n cs ds hc hx hm hf i hi
  have h1 := hf i hi
  rw [List.getElem?_eq_getElem (by omega)] at h1
  obtain ⟨k, e1, e2, _⟩ := DataW.trod_int u3' h1
  have hm2 := congrArg (fun l => l[i]?) hm
  simp only [List.getElem?_map] at hm2
  rw [List.getElem?_eq_getElem (show i < x.length by omega), e2] at hm2
  have e3 : cs[i]? = some (.int .i64 k) := by
    have := congrArg List.head? e1
    rw [List.head?_take, List.head?_drop] at this
    simpa using this
  rw [e3]
  cases hd : ds[i]? with
  | none => rw [hd] at hm2; simp at hm2
  | some k' =>
    rw [hd] at hm2
    simp at hm2
    subst hm2; rfl
theorem laid17 {W : World} {n : String} {g : Nat} {tot : List Int} {cs0 : Array Value} {f0 : Nat} {p0 : List MemPlace} (hl17 : tot.length = 17) (hg : Tryd.prog.globalNamed n = some g) (hv : W.var? Tryd.prog n = some cs0) (hd0 : DataW.trod (fun _ => ()) Tryd.prog W 0 (fun _ => true) false f0 74 cs0.toList = some (.agg (tot.map fun k => .lit (.int .i64 k)), p0)) : ∃ c : Cells, (∀ H, blkOf W H (.old g) = some c) ∧ ∀ i, i < 17 → c.get i = (tot[i]?).map fun k => (.int .i64 k : AV) := by
  obtain ⟨xs, m, _, hx, hl, hxl, hf⟩ := DataW.trod_array u74 hd0
  rw [c74] at hl
  simp only [Prod.mk.injEq] at hx
  have hm : xs.map (·.1) = tot.map (fun k => .lit (.int .i64 k)) := by
    have := hx.1
    simp only [DataW.agg.injEq] at this
    exact this.symm
  rw [c3'] at hf
  have hi := ints_in 17 cs0.toList _ hl hxl hm hf
  have hcell : ∀ i, i < 17 → W.cell? ⟨g, i, none⟩ = (tot[i]?).map fun k => (.int .i64 k : Value) := fun i h17 => by
    have h1 := World.var?_cell hg hv i
    rw [h1, ← Array.getElem?_toList, hi i h17]
  have h0 := hcell 0 (by omega)
  rw [List.getElem?_eq_getElem (by omega)] at h0
  unfold World.cell? at h0
  cases hb : W.heap[g]? with
  | none => rw [hb] at h0; cases h0
  | some o =>
    cases o with
    | cells c t fz =>
      refine ⟨.lst (c.toList.map enc), fun H => by simp only [blkOf, hb], fun i h17 => ?_⟩
      have h2 := hcell i h17
      unfold World.cell? at h2
      rw [hb] at h2
      simp only [Option.isSome_none, Bool.false_eq_true, if_false] at h2
      simp only [Cells.get]
      rw [List.getElem?_map, Array.getElem?_toList, h2]
      cases tot[i]? <;> rfl
    | _ => rw [hb] at h0; cases h0
theorem tots (tot : List Int) (N : List Nat) (h : tot = N.map fun k : Nat => (k : Int)) (hl : N.length = 17) : ∀ i, i < 17 → (tot[i]?).map (fun k => (.int .i64 k : AV)) = some (.int .i64 ((N.getD i 0 : Nat) : Int)) := fun i hi => by
  subst h
  rw [List.getElem?_map, List.getElem?_eq_getElem (by omega), List.getD_eq_getElem?_getD, List.getElem?_eq_getElem (by omega)]; rfl
theorem gk_of {W : World} (h : laidMetH Tryd.prog Go.Proofs.YtjfnhdiimibmiaaDoor.Rows.lotMayRow.laid W) : GK W ∧ GM W := by
  rw [MakeChecks.laidMetH_plain _ _ _ (by kernel_rfl)] at h
  obtain ⟨ps, ⟨g0, t0, cs0, f0, p0, q0, hg0, ht0, hv0, hd0, ⟨g1, t1, cs1, f1, p1, q1, hg1, ht1, hv1, hd1, _, _⟩, _⟩, _, _⟩ := h
  obtain rfl := Option.some.inj (gKinds.symm.trans hg0)
  obtain rfl := Option.some.inj (tKinds.symm.trans ht0)
  obtain rfl := Option.some.inj (gFields.symm.trans hg1)
  obtain rfl := Option.some.inj (tFields.symm.trans ht1)
  obtain ⟨c, b1, b2⟩ := laid17 (tot := [2, 8, 8, 8, 5, 5, 6, 7, 9, 9, 10, 12, 13, 11, 3, 4, 14]) rfl hg0 hv0 hd0
  obtain ⟨c', b3, b4⟩ := laid17 (tot := [0, 0, 9, 9, 1, 21, 21, 5, 67, 35, 1, 3, 3, 1, 4, 0, 4]) rfl hg1 hv1 hd1
  exact ⟨⟨c, b1, fun i hi => (b2 i hi).trans (tots _ KND rfl rfl i hi)⟩, ⟨c', b3, fun i hi => (b4 i hi).trans (tots _ FLD rfl rfl i hi)⟩⟩
end
open Go.Proofs.YtjfnhdiimibmiaaDoor
theorem door_met (os : Os) (args : Array Value) : laidMetH Tryd.prog Rows.lotMayRow.laid ((World.doorLaid Tryd.prog 400 os).forCall (fun _ _ => 0) ⟨#[], args, []⟩).memory :=
  laidMetH_of_parts3 (fuel := 8) (laidMet_of_run' 8 (by kernel_rfl) (by kernel_rfl)) (by kernel_rfl) (by kernel_rfl)
set_option maxRecDepth 100000 in
theorem lotMay_lifted (os : Os) (started : os.Started) (H : Type) (enc' : TypeId × Value → H) :
    ReturnsInHanded {} Tryd.checked os 4 .any (fun w args => (Rows.lotMaySpec.pre enc' Tryd.prog Tryd.f4 [] false w args ∧ laidMetH Tryd.prog Rows.lotMayRow.laid w) ∧ sizedMet enc' Tryd.prog Tryd.f4 (OpenSpec.ofChange Rows.lotMaySpec) false w args)
      (Rows.lotMaySpec.post enc' Tryd.prog Tryd.f4 false true false false) := by
  refine returnsInHanded_of_change_and (C := Tryd.checked) (X := fun w _ => laidMetH Tryd.prog Rows.lotMayRow.laid w) (fun _ _ _ hh h => h.of_heap hh) Tryd.own' started (by kernel_rfl) Tryd.func4
    (ChangeSpec.witness_shaped (enc := enc') (C := Tryd.checked) (os := os) (X := fun w _ => laidMetH Tryd.prog Rows.lotMayRow.laid w) false (World.doorLaid Tryd.prog 400 os) #[.agg (Array.replicate 32 (.int .u8 0)), .int .u8 0] 8 rfl (World.shaped_of_RefB (by kernel_rfl) (by kernel_rfl)) (by kernel_rfl) (by kernel_rfl) (by kernel_rfl) (door_met os _)) ?_
  intro W base args ds gs before hval0 hW _ _ hL _
  have hval : ∀ (j : Nat) t v, Tryd.f4.params[j]? = some t → args[j]? = some v → Value.okWide Tryd.prog W .any base t v := hval0
  have hW' := hW
  obtain ⟨p, q, hA0, hV, rfl, hfz, hnd⟩ := hW
  have hA : DataW.TrodAll enc' Tryd.prog W 0 (fun _ => true) true Tryd.f4.params.toList args.toList ds p := hA0
  obtain ⟨rfl, rfl⟩ := trodVars_none hV
  have hA3 : DataW.TrodAll enc' Tryd.prog W 0 (fun _ => true) true [22, 5] args.toList ds p := by
    have := hA
    rw [Tryd.params4] at this; exact this
  obtain ⟨v0, v1, d0, d1, p0, p1, rfl, rfl, rfl, h0, h1⟩ := trodAll_two hA3
  rw [Tryd.params4] at hval
  obtain ⟨n1, rfl, rfl, rfl, hwf⟩ := open_int u5 (hval 1 5 v1 rfl rfl) h1
  have hnb : 0 ≤ n1 ∧ n1 ≤ 255 := by simpa [Lit.wf, IntKind.min, IntKind.max, IntKind.signed, IntKind.bits] using hwf
  obtain ⟨b, rfl⟩ : ∃ b : UInt8, n1 = (b.toNat : Int) := ⟨UInt8.ofNat n1.toNat, by rw [UInt8.toNat_ofNat']; omega⟩
  obtain ⟨L, hl, hvr⟩ := seed_in h0
  obtain ⟨hg, hm⟩ := gk_of hL
  obtain ⟨H', hgo⟩ := law_may (W := W) (E := envF) (H := ⟨0, .e, .e⟩) (Γ := []) envM hg hm hl b (Holds.nil HWf.empty)
  refine (calls_true (envF_ok W) (f := 4) (avs := [.agg (cb L), .int .u8 (b.toNat : Int)]) (.cons hvr (.cons (.int _ _) .nil)) ⟨H', hgo⟩).mono fun e W' ⟨he, hbel⟩ => ?_
  subst he
  refine ⟨_, rfl, post_of_below' (pa := p0 ++ []) (pv := []) hW' (fun _ _ _ => ?_) (fun sp hsp => ?_) (fun sp _ => rfl) rfl hbel ?_⟩
  · exact trodAll_mk1 (shut_bool Tryd.underlying4 true)
  · have hlt : ∀ x ∈ p0 ++ [], x.block < W.heap.size := fun x hx => hW'.lt x (by simpa using hx)
    exact args_stay Tryd.laidOut' hbel (by rw [Tryd.params4]; kernel_rfl) hA hlt sp (fun x hx => hsp x (by simpa using hx))
  · exact ok_one (by kernel_rfl) rfl (okWide_bool_mk Tryd.underlying4 _)
theorem lotMay_holds : Rows.LotMaySaid :=
  OpenClaim.holds_of_wide 4 Tryd.f4 rfl rfl rfl rfl rfl rfl rfl ⟨rfl, rfl, rfl, rfl, rfl⟩ rfl rfl rfl rfl rfl (by kernel_rfl) Tryd.func4 (by kernel_rfl)
    (of_decide_eq_true (by kernel_rfl)) (by unfold Func.isWrapper; first | (rw [if_pos (by decide +kernel)]; kernel_rfl) | (rw [if_neg (by decide +kernel)]; exact ⟨rfl, rfl⟩))
    (fun os started H enc _ => lotMay_lifted os started H enc)
end Go.Proofs.YtjfnhdiimibmiaaDoor.Sx

/- LotMay: the card. -/
namespace Go.Proofs.YtjfnhdiimibmiaaDoor.Sx
open Go.Proofs
open Go.Proofs.YtjfnhdiimibmiaaDoor
theorem lotMayCard_holds : Rows.LotMayCardSaid :=
  Claim7.holds_tied_plain_at .later [] [.data, .data] true (true, "b9ce61e8288dbd922feb2430169bee0c13e856a5f3c4720026433ba06d84c94c") false
    lotMay_holds (fun _ h => by cases h) (by kernel_rfl) (fun _ h => by cases h) lotMay_row_tie rfl ⟨rfl, rfl⟩ (by kernel_rfl) rfl
    (fun f fn hf hfn => by
      obtain rfl : f = 4 := Option.some.inj ((show Tryd.prog.funcNamed "bastille/bastillelaw43.LotMay" = some 4 by kernel_rfl).symm.trans hf) |>.symm
      obtain rfl : fn = Tryd.f4 := (Option.some.inj (Tryd.func4.symm.trans hfn)).symm
      exact ⟨by kernel_rfl, fun j t ht => by
        rw [Tryd.params4] at ht
        have hm : t ∈ [22, 5] := by simpa using Array.mem_of_getElem? ht
        have hall : ([22, 5].all fun u => !Tryd.prog.wantsStandIn u) = true := by kernel_rfl
        exact (show Tryd.prog.wantsStandIn t = false by simpa using List.all_eq_true.1 hall t hm)⟩)
    (by kernel_rfl)
end Go.Proofs.YtjfnhdiimibmiaaDoor.Sx

namespace Go.Proofs.YtjfnhdiimibmiaaDoor
theorem lotMayCard_holds : Rows.LotMayCardSaid := Sx.lotMayCard_holds
end Go.Proofs.YtjfnhdiimibmiaaDoor
