/- A second, deterministic reading of the program, part 6: proved sound for every order and every capacity; then what the functions do. -/
import Derived.Test.YtjfnhdiimibmiaaDoorCaE
/- Names, and what is chosen. -/
namespace Go.Proofs.YtjfnhdiimibmiaaDoor.Sx
open HP
def nameF (l : UInt8) (n : Nat) : List UInt8 := [l, 48 + UInt8.ofNat n]
def otherF (n : Nat) (b : List UInt8) : List UInt8 := if n < 5 ∧ nameF 102 n ≠ b then nameF 102 n else []
section
variable {W : World} {E : Env} {H : Heap} {Γ : List HP}
theorem c_name (hE : EnvW E) (l : UInt8) (n : Nat) (h : Holds H Γ) : ∃ H', go W E 19 [.int .u8 l.toNat, .int .i64 (n : Int)] H = some (.str (nameF l n), H') ∧ Holds H' Γ := by
  apply Ends.out
  refine (show Fin (fun r : AV × Heap => r.1 = .str (nameF l n) ∧ Holds r.2 Γ) _ from ?_)
  have e1 := wrap_u8' n
  have e2 : IntKind.u8.wrap (48 + ((UInt8.ofNat n).toNat : Int)) = ((48 + UInt8.ofNat n : UInt8).toNat : Int) := by
    have := wrap_u8' (48 + (UInt8.ofNat n).toNat)
    rw [Int.natCast_add] at this
    refine Eq.trans this ?_
    congr 2
  have h2 := h.push (c := cb [l, 48 + UInt8.ofNat n]) (t := 5)
  have g2 := h2.get
  have hz2 : zerosL [AV.int .u8 0] 2 = [AV.int .u8 0, AV.int .u8 0] := rfl
  have hcb : cb [l, 48 + UInt8.ofNat n] = [.int .u8 l.toNat, .int .u8 (48 + UInt8.ofNat n : UInt8).toNat] := rfl
  have hb := bytesOf_cb [l, 48 + UInt8.ofNat n]
  have hg := getN_cb (L := [l, 48 + UInt8.ofNat n]) (n := 2) rfl
  rw [hcb] at h2 g2 hb hg
  have hs : b2sV W (H.push (.cells (.lst [.int .u8 l.toNat, .int .u8 (48 + UInt8.ofNat n : UInt8).toNat]) 5 none)) (.sl (some ⟨.own H.next, 0⟩) 2 (.exact 2)) = some (.str [l, 48 + UInt8.ofNat n]) := by
    simp only [b2sV, blkOf, g2, hg, hb, Option.map_some]
  rw [go_code hE.f19 (by simp [sf19])]
  simp only [sf19, e1, e2, hz2, hs, ↓sxp, sxq, ↓reduceIte, Nat.reduceBEq, Nat.reduceLT, evP, evX, evR, blkOf, evA, storeA, Nat.reduceEqDiff, resL, resV, oneOrTup, Int.reduceEq, Int.reduceLT, Int.reduceLE, Int.reduceNeg, Int.reduceAdd, Int.reduceSub, Int.reduceMul, Int.reduceToNat, Nat.reduceAdd, noUnk, AV.cells, reduceCtorEq, Nat.reduceLeDiff, Cells.get, Nat.reduceMul, ↓bnd_assoc]
  exact Fin.ret ⟨rfl, h2.tail⟩
theorem s_neq (x y : List UInt8) : bin .neq (.str x) (.str y) = some (.bool !(x == y)) := (Eq.refl _).trans rfl
theorem s_eql (x y : List UInt8) : bin .eql (.str x) (.str y) = some (.bool (x == y)) := (Eq.refl _).trans rfl
theorem c_other (hE : EnvW E) (n : Nat) (b : List UInt8) (h : Holds H Γ) : ∃ H', go W E 35 [.int .i64 (n : Int), .str b] H = some (.str (otherF n b), H') ∧ Holds H' Γ := by
  apply Ends.out
  refine (show Fin (fun r : AV × Heap => r.1 = .str (otherF n b) ∧ Holds r.2 Γ) _ from ?_)
  rw [go_code hE.f35 (by simp [sf35])]
  simp only [sf35, ↓sxp, sxq, ↓reduceIte, Nat.reduceBEq, Nat.reduceLT, evP, evX, evR, blkOf, evA, storeA, Nat.reduceEqDiff, resL, resV, oneOrTup, Int.reduceEq, Int.reduceLT, Int.reduceLE, Int.reduceNeg, Int.reduceAdd, Int.reduceSub, Int.reduceMul, Int.reduceToNat, Nat.reduceAdd, noUnk, AV.cells, reduceCtorEq, Nat.reduceLeDiff, Cells.get, Nat.reduceMul, ↓bnd_assoc]
  refine Fin.call (c_name hE 102 n h) fun H2 h2 => ?_
  by_cases h5 : n < 5
  · have h5' : (n : Int) < 5 := by omega
    by_cases hb : nameF 102 n = b
    · have e : (nameF 102 n == b) = true := by rw [hb]; exact beq_self_eq_true b
      simp only [h5', s_neq, e, ↓sxp, sxq, ↓reduceIte, Nat.reduceBEq, Nat.reduceLT, evP, evX, evR, blkOf, evA, storeA, Nat.reduceEqDiff, resL, resV, oneOrTup, Int.reduceEq, Int.reduceLT, Int.reduceLE, Int.reduceNeg, Int.reduceAdd, Int.reduceSub, Int.reduceMul, Int.reduceToNat, Nat.reduceAdd, noUnk, AV.cells, reduceCtorEq, Nat.reduceLeDiff, Cells.get, Nat.reduceMul, ↓bnd_assoc]
      exact Fin.ret ⟨by unfold otherF; rw [if_neg (fun h => h.2 hb)], h2⟩
    · have e : (nameF 102 n == b) = false := by simpa using hb
      simp only [h5', s_neq, e, ↓sxp, sxq, ↓reduceIte, Nat.reduceBEq, Nat.reduceLT, evP, evX, evR, blkOf, evA, storeA, Nat.reduceEqDiff, resL, resV, oneOrTup, Int.reduceEq, Int.reduceLT, Int.reduceLE, Int.reduceNeg, Int.reduceAdd, Int.reduceSub, Int.reduceMul, Int.reduceToNat, Nat.reduceAdd, noUnk, AV.cells, reduceCtorEq, Nat.reduceLeDiff, Cells.get, Nat.reduceMul, ↓bnd_assoc]
      exact Fin.ret ⟨by unfold otherF; rw [if_pos ⟨h5, hb⟩], h2⟩
  · have h5' : ¬ (n : Int) < 5 := by omega
    simp only [h5', ↓sxp, sxq, ↓reduceIte, Nat.reduceBEq, Nat.reduceLT, evP, evX, evR, blkOf, evA, storeA, Nat.reduceEqDiff, resL, resV, oneOrTup, Int.reduceEq, Int.reduceLT, Int.reduceLE, Int.reduceNeg, Int.reduceAdd, Int.reduceSub, Int.reduceMul, Int.reduceToNat, Nat.reduceAdd, noUnk, AV.cells, reduceCtorEq, Nat.reduceLeDiff, Cells.get, Nat.reduceMul, ↓bnd_assoc]
    exact Fin.ret ⟨by unfold otherF; rw [if_neg (fun h => h5 h.1)], h2⟩
def atF (L : List UInt8) (i n : Nat) : Nat := (L.getD i 0).toNat % n
theorem conv_i64 (b : UInt8) : IntKind.i64.wrap (b.toNat : Int) = (b.toNat : Int) := by
  have := b.toNat_lt
  rw [w64 (by omega)]
theorem c_at (hE : EnvW E) {L : List UInt8} {jb i n : Nat} (hl : L.length = 32) (hi : i < 32) (hn : 0 < n) (g : H.get jb = some (.cells (.lst (cb L)) 22 none)) :
    go W E 34 [.int .i64 (i : Int), .int .i64 (n : Int), .ptr (some ⟨.own jb, 0⟩)] H = some (.int .i64 ((atF L i n : Nat) : Int), H) := by
  have hlt : (i : Int) < 32 := by omega
  have hx := cb_get (show i < L.length by omega)
  have e1 := conv_i64 (L.getD i 0)
  have e2 := i_rem (L.getD i 0).toNat n (by omega)
  have e3 : (L.getD i 0).toNat % n = atF L i n := rfl
  rw [e3] at e2
  rw [go_code hE.f34 (by simp [sf34])]
  simp only [sf34, nc32, hlt, ↓g, hx, e1, e2, Int.natCast_nonneg, and_self, Int.toNat_natCast, ↓sxp, sxq, ↓reduceIte, Nat.reduceBEq, Nat.reduceLT, evP, evX, evR, blkOf, evA, storeA, Nat.reduceEqDiff, resL, resV, oneOrTup, Int.reduceEq, Int.reduceLT, Int.reduceLE, Int.reduceNeg, Int.reduceAdd, Int.reduceSub, Int.reduceMul, Int.reduceToNat, Nat.reduceAdd, noUnk, AV.cells, reduceCtorEq, Nat.reduceLeDiff, Cells.get, Nat.reduceMul, ↓bnd_assoc]
def bndF (n : Nat) (a : Int) (v : AV) : Option (Nat × Nat × Nat) := bounds .e n n (some (.c (.int .i64 a))) (some (.c v)) none
theorem bnd_ct (A : Tm) (n i : Nat) (a : Int) : bounds A n n (some (.c (.int .i64 a))) (some (.tmp i)) none = bndF n a (getX A i) := (Eq.refl _).trans rfl
theorem Holds.empty (h : Holds H Γ) : Holds H (HP.emp :: Γ) := by
  obtain ⟨fp, hp⟩ := h.a
  exact ⟨h.wf, fp, [], fp, rfl, hp, by simp, by simp⟩
def KND : List Nat := [2, 8, 8, 8, 5, 5, 6, 7, 9, 9, 10, 12, 13, 11, 3, 4, 14]
/-- The kinds lie in memory. -/
def GK (W : World) : Prop := ∃ c, (∀ H, blkOf W H (.old 0) = some c) ∧ ∀ i, i < 17 → c.get i = some (.int .i64 ((KND.getD i 0 : Nat) : Int))
theorem GK.load (h : GK W) {i : Nat} (hi : i < 17) (H : Heap) : loadV W H none (.ptr (some ⟨.old 0, i⟩)) = some (.int .i64 ((KND.getD i 0 : Nat) : Int)) := by
  obtain ⟨c, h1, h2⟩ := h
  simp only [loadV, h1 H, h2 i hi]
/-- A call. -/
structure CF where
  (kind : Nat) (user folder name other : List UInt8) (role version : Nat) (data : List UInt8)
def cfC (c : CF) (dv : AV) : List AV := [.int .i64 (c.kind : Int), .str c.user, .str c.folder, .str c.name, .str c.other, .int .i64 (c.role : Int), .int .i64 (c.version : Int), dv]
def choF (L : List UInt8) : CF :=
  let k := KND.getD (atF L 0 17) 0
  let u := nameF 117 (atF L 1 4)
  let f := nameF 102 (atF L 2 5)
  let x := nameF 120 (atF L 3 2)
  let o := nameF 117 (atF L 7 4)
  if k = 14 then ⟨k, u, [], [], nameF 117 ((atF L 1 4 + 1 + atF L 7 3) % 4), 0, 0, []⟩
  else if k = 2 ∨ k = 3 then ⟨k, u, f, [], otherF (atF L 7 6) f, 0, 0, []⟩
  else if k = 5 ∨ k = 6 then ⟨k, u, f, [], o, 1 + atF L 4 4, 0, []⟩
  else if k = 7 then ⟨k, u, f, [], o, 0, 0, []⟩
  else if k = 8 then ⟨k, u, f, x, [], 0, 0, (L.drop 16).take (atF L 6 9)⟩
  else if k = 9 then ⟨k, u, f, x, [], 0, atF L 5 3, []⟩
  else if k = 11 ∨ k = 12 then ⟨k, u, f, x, [], 0, 0, []⟩
  else ⟨k, u, f, [], [], 0, 0, []⟩
theorem KND_in : ∀ a, a < 17 → KND.getD a 0 ∈ [2, 3, 4, 5, 6, 7, 8, 9, 10, 11, 12, 13, 14] := by decide
abbrev c0 : List AV := [.int .i64 0, .str [], .str [], .str [], .str [], .int .i64 0, .int .i64 0, .sl none 0 (.exact 0)]
theorem c0_eq : [AV.int .i64 0, .str [], .str [], .str [], .str [], .int .i64 0, .int .i64 0, .sl none 0 (.exact 0)] = c0 := rfl
theorem c_chosen (hE : EnvW E) (hG : GK W) {L : List UInt8} (hl : L.length = 32) (h : Holds H Γ) :
    ∃ dv H', go W E 20 [.agg (cb L)] H = some (.agg (cfC (choF L) dv), H') ∧ ∃ R, RdLike W (choF L).data dv R ∧ Holds H' (R :: Γ) := by
  suffices hh : Fin (fun r : AV × Heap => ∃ dv, r.1 = .agg (cfC (choF L) dv) ∧ ∃ R, RdLike W (choF L).data dv R ∧ Holds r.2 (R :: Γ)) (go W E 20 [.agg (cb L)] H) by
    obtain ⟨⟨r, H'⟩, e, dv, hr, q⟩ := hh
    simp only at hr
    subst hr
    exact ⟨dv, H', e, q⟩
  have hg8 : ∀ a b c d e f g h : AV, Cells.getN (.lst [a, b, c, d, e, f, g, h]) 0 8 = some [a, b, c, d, e, f, g, h] := fun _ _ _ _ _ _ _ _ => rfl
  have h2 := (h.push (c := cb L) (t := 22)).push (c := c0) (t := 29)
  simp only [push_next] at h2
  have h3 := h2.bump1 10 8
  simp only [push_next] at h3
  have at17 : atF L 0 17 < 17 := Nat.mod_lt _ (by omega)
  have i17 : ((atF L 0 17 : Nat) : Int) < ((17 : Nat) : Int) := by omega
  have hld := hG.load at17
  have hkin := KND_in _ at17
  rw [go_code hE.f20 (by simp [sf20])]
  generalize hcs : cb L = cs at *
  simp only [sf20, ↓stepK_v, ↓sxp, sxq, ↓reduceIte, Nat.reduceBEq, Nat.reduceLT, evP, evX, evR, blkOf, evA, storeA, Nat.reduceEqDiff, resL, resV, oneOrTup, Int.reduceEq, Int.reduceLT, Int.reduceLE, Int.reduceNeg, Int.reduceAdd, Int.reduceSub, Int.reduceMul, Int.reduceToNat, Nat.reduceAdd, noUnk, AV.cells, reduceCtorEq, Nat.reduceLeDiff, Cells.get, Nat.reduceMul, ↓bnd_assoc]
  generalize H.next = jb at *
  have a0_17 : ∀ H : Heap, H.get jb = some (.cells (.lst cs) 22 none) → go W E 34 [.int .i64 0, .int .i64 17, .ptr (some ⟨.own jb, 0⟩)] H = some (.int .i64 ((atF L 0 17 : Nat) : Int), H) := fun H g => by subst hcs; exact c_at hE hl (i := 0) (n := 17) (by omega) (by omega) g
  have a1_4 : ∀ H : Heap, H.get jb = some (.cells (.lst cs) 22 none) → go W E 34 [.int .i64 1, .int .i64 4, .ptr (some ⟨.own jb, 0⟩)] H = some (.int .i64 ((atF L 1 4 : Nat) : Int), H) := fun H g => by subst hcs; exact c_at hE hl (i := 1) (n := 4) (by omega) (by omega) g
  have a2_5 : ∀ H : Heap, H.get jb = some (.cells (.lst cs) 22 none) → go W E 34 [.int .i64 2, .int .i64 5, .ptr (some ⟨.own jb, 0⟩)] H = some (.int .i64 ((atF L 2 5 : Nat) : Int), H) := fun H g => by subst hcs; exact c_at hE hl (i := 2) (n := 5) (by omega) (by omega) g
  have a7_6 : ∀ H : Heap, H.get jb = some (.cells (.lst cs) 22 none) → go W E 34 [.int .i64 7, .int .i64 6, .ptr (some ⟨.own jb, 0⟩)] H = some (.int .i64 ((atF L 7 6 : Nat) : Int), H) := fun H g => by subst hcs; exact c_at hE hl (i := 7) (n := 6) (by omega) (by omega) g
  have a7_4 : ∀ H : Heap, H.get jb = some (.cells (.lst cs) 22 none) → go W E 34 [.int .i64 7, .int .i64 4, .ptr (some ⟨.own jb, 0⟩)] H = some (.int .i64 ((atF L 7 4 : Nat) : Int), H) := fun H g => by subst hcs; exact c_at hE hl (i := 7) (n := 4) (by omega) (by omega) g
  have a7_3 : ∀ H : Heap, H.get jb = some (.cells (.lst cs) 22 none) → go W E 34 [.int .i64 7, .int .i64 3, .ptr (some ⟨.own jb, 0⟩)] H = some (.int .i64 ((atF L 7 3 : Nat) : Int), H) := fun H g => by subst hcs; exact c_at hE hl (i := 7) (n := 3) (by omega) (by omega) g
  have a4_4 : ∀ H : Heap, H.get jb = some (.cells (.lst cs) 22 none) → go W E 34 [.int .i64 4, .int .i64 4, .ptr (some ⟨.own jb, 0⟩)] H = some (.int .i64 ((atF L 4 4 : Nat) : Int), H) := fun H g => by subst hcs; exact c_at hE hl (i := 4) (n := 4) (by omega) (by omega) g
  have a3_2 : ∀ H : Heap, H.get jb = some (.cells (.lst cs) 22 none) → go W E 34 [.int .i64 3, .int .i64 2, .ptr (some ⟨.own jb, 0⟩)] H = some (.int .i64 ((atF L 3 2 : Nat) : Int), H) := fun H g => by subst hcs; exact c_at hE hl (i := 3) (n := 2) (by omega) (by omega) g
  have a6_9 : ∀ H : Heap, H.get jb = some (.cells (.lst cs) 22 none) → go W E 34 [.int .i64 6, .int .i64 9, .ptr (some ⟨.own jb, 0⟩)] H = some (.int .i64 ((atF L 6 9 : Nat) : Int), H) := fun H g => by subst hcs; exact c_at hE hl (i := 6) (n := 9) (by omega) (by omega) g
  have a5_3 : ∀ H : Heap, H.get jb = some (.cells (.lst cs) 22 none) → go W E 34 [.int .i64 5, .int .i64 3, .ptr (some ⟨.own jb, 0⟩)] H = some (.int .i64 ((atF L 5 3 : Nat) : Int), H) := fun H g => by subst hcs; exact c_at hE hl (i := 5) (n := 3) (by omega) (by omega) g
  have g3 := (h3.ord [2]).get
  simp only [a0_17, a1_4, ↓g3, i17, Int.natCast_nonneg, and_self, Int.toNat_natCast, hld, ↓sxp, sxq, ↓reduceIte, Nat.reduceBEq, Nat.reduceLT, evP, evX, evR, blkOf, evA, storeA, Nat.reduceEqDiff, resL, resV, oneOrTup, Int.reduceEq, Int.reduceLT, Int.reduceLE, Int.reduceNeg, Int.reduceAdd, Int.reduceSub, Int.reduceMul, Int.reduceToNat, Nat.reduceAdd, noUnk, AV.cells, reduceCtorEq, Nat.reduceLeDiff, Cells.get, Nat.reduceMul, ↓bnd_assoc]
  refine Fin.call (c_name hE 117 (atF L 1 4) h3) fun H4 h4 => ?_
  have h5 := h4.lay (c := c0) (t := 29)
  simp only [↓sxp, sxq, ↓reduceIte, Nat.reduceBEq, Nat.reduceLT, evP, evX, evR, blkOf, evA, storeA, Nat.reduceEqDiff, resL, resV, oneOrTup, Int.reduceEq, Int.reduceLT, Int.reduceLE, Int.reduceNeg, Int.reduceAdd, Int.reduceSub, Int.reduceMul, Int.reduceToNat, Nat.reduceAdd, noUnk, AV.cells, reduceCtorEq, Nat.reduceLeDiff, Cells.get, Nat.reduceMul, ↓bnd_assoc]
  generalize jb + 1 + 1 + 8 = j4 at *
  generalize hk : KND.getD (atF L 0 17) 0 = k at *
  refine Fin.write [.int .i64 (k : Int), .str (nameF 117 (atF L 1 4)), .str [], .str [], .str [], .int .i64 0, .int .i64 0, .sl none 0 (.exact 0)] h5 rfl (by simp) rfl fun H6 h6 => ?_
  have g6 := h6.get
  have g6b := (h6.ord [2]).get
  by_cases k14 : k = 14
  · subst k14
    have m4 : atF L 1 4 < 4 := Nat.mod_lt _ (by omega)
    have m3 : atF L 7 3 < 3 := Nat.mod_lt _ (by omega)
    have w1 : IntKind.i64.wrap (((atF L 1 4 : Nat) : Int) + 1) = ((atF L 1 4 + 1 : Nat) : Int) := by rw [w64 (by omega)]; omega
    have w2 : IntKind.i64.wrap (((atF L 1 4 + 1 : Nat) : Int) + ((atF L 7 3 : Nat) : Int)) = ((atF L 1 4 + 1 + atF L 7 3 : Nat) : Int) := by rw [w64 (by omega)]; omega
    have w3 : bin .rem (.int .i64 ((atF L 1 4 + 1 + atF L 7 3 : Nat) : Int)) (.int .i64 4) = some (.int .i64 (((atF L 1 4 + 1 + atF L 7 3) % 4 : Nat) : Int)) := i_rem _ 4 (by omega)
    have n14 : ((14 : Nat) : Int) = 14 := rfl
    simp only [↓g6, n14, a1_4, a7_3, ↓g6b, ↓stepK_v, w1, w2, w3, ↓sxp, sxq, ↓reduceIte, Nat.reduceBEq, Nat.reduceLT, evP, evX, evR, blkOf, evA, storeA, Nat.reduceEqDiff, resL, resV, oneOrTup, Int.reduceEq, Int.reduceLT, Int.reduceLE, Int.reduceNeg, Int.reduceAdd, Int.reduceSub, Int.reduceMul, Int.reduceToNat, Nat.reduceAdd, noUnk, AV.cells, reduceCtorEq, Nat.reduceLeDiff, Cells.get, Nat.reduceMul, ↓bnd_assoc]
    refine Fin.call (c_name hE 117 ((atF L 1 4 + 1 + atF L 7 3) % 4) h6) fun H7 h7 => ?_
    simp only [↓sxp, sxq, ↓reduceIte, Nat.reduceBEq, Nat.reduceLT, evP, evX, evR, blkOf, evA, storeA, Nat.reduceEqDiff, resL, resV, oneOrTup, Int.reduceEq, Int.reduceLT, Int.reduceLE, Int.reduceNeg, Int.reduceAdd, Int.reduceSub, Int.reduceMul, Int.reduceToNat, Nat.reduceAdd, noUnk, AV.cells, reduceCtorEq, Nat.reduceLeDiff, Cells.get, Nat.reduceMul, ↓bnd_assoc]
    refine Fin.write [.int .i64 14, .str (nameF 117 (atF L 1 4)), .str [], .str [], .str (nameF 117 ((atF L 1 4 + 1 + atF L 7 3) % 4)), .int .i64 0, .int .i64 0, .sl none 0 (.exact 0)] h7 rfl (by simp) rfl fun H8 h8 => ?_
    have gz := h8.get
    simp only [↓gz, ↓hg8, ↓sxp, sxq, ↓reduceIte, Nat.reduceBEq, Nat.reduceLT, evP, evX, evR, blkOf, evA, storeA, Nat.reduceEqDiff, resL, resV, oneOrTup, Int.reduceEq, Int.reduceLT, Int.reduceLE, Int.reduceNeg, Int.reduceAdd, Int.reduceSub, Int.reduceMul, Int.reduceToNat, Nat.reduceAdd, noUnk, AV.cells, reduceCtorEq, Nat.reduceLeDiff, Cells.get, Nat.reduceMul, ↓bnd_assoc]
    refine Fin.write [.int .i64 14, .str (nameF 117 (atF L 1 4)), .str [], .str [], .str (nameF 117 ((atF L 1 4 + 1 + atF L 7 3) % 4)), .int .i64 0, .int .i64 0, .sl none 0 (.exact 0)] (h8.ord [1]) rfl (by simp) rfl fun Hy hy => ?_
    have gy := hy.get
    simp only [↓gy, ↓hg8, ↓sxp, sxq, ↓reduceIte, Nat.reduceBEq, Nat.reduceLT, evP, evX, evR, blkOf, evA, storeA, Nat.reduceEqDiff, resL, resV, oneOrTup, Int.reduceEq, Int.reduceLT, Int.reduceLE, Int.reduceNeg, Int.reduceAdd, Int.reduceSub, Int.reduceMul, Int.reduceToNat, Nat.reduceAdd, noUnk, AV.cells, reduceCtorEq, Nat.reduceLeDiff, Cells.get, Nat.reduceMul, ↓bnd_assoc]
    exact Fin.ret ⟨_, by rw [show choF L = ⟨14, nameF 117 (atF L 1 4), [], [], nameF 117 ((atF L 1 4 + 1 + atF L 7 3) % 4), 0, 0, []⟩ from by unfold choF; rw [hk]; rfl]; rfl, HP.emp, by rw [show choF L = ⟨14, nameF 117 (atF L 1 4), [], [], nameF 117 ((atF L 1 4 + 1 + atF L 7 3) % 4), 0, 0, []⟩ from by unfold choF; rw [hk]; rfl]; exact fun _ => Rd.nil, (hy.tail.tail.tail).empty⟩
  · have k14' : ¬ (k : Int) = 14 := by omega
    simp only [↓g6, k14', a2_5, ↓g6b, ↓stepK_v, ↓sxp, sxq, ↓reduceIte, Nat.reduceBEq, Nat.reduceLT, evP, evX, evR, blkOf, evA, storeA, Nat.reduceEqDiff, resL, resV, oneOrTup, Int.reduceEq, Int.reduceLT, Int.reduceLE, Int.reduceNeg, Int.reduceAdd, Int.reduceSub, Int.reduceMul, Int.reduceToNat, Nat.reduceAdd, noUnk, AV.cells, reduceCtorEq, Nat.reduceLeDiff, Cells.get, Nat.reduceMul, ↓bnd_assoc]
    refine Fin.call (c_name hE 102 (atF L 2 5) h6) fun H7 h7 => ?_
    simp only [↓sxp, sxq, ↓reduceIte, Nat.reduceBEq, Nat.reduceLT, evP, evX, evR, blkOf, evA, storeA, Nat.reduceEqDiff, resL, resV, oneOrTup, Int.reduceEq, Int.reduceLT, Int.reduceLE, Int.reduceNeg, Int.reduceAdd, Int.reduceSub, Int.reduceMul, Int.reduceToNat, Nat.reduceAdd, noUnk, AV.cells, reduceCtorEq, Nat.reduceLeDiff, Cells.get, Nat.reduceMul, ↓bnd_assoc]
    refine Fin.write [.int .i64 (k : Int), .str (nameF 117 (atF L 1 4)), .str (nameF 102 (atF L 2 5)), .str [], .str [], .int .i64 0, .int .i64 0, .sl none 0 (.exact 0)] h7 rfl (by simp) rfl fun H8 h8 => ?_
    have g8 := h8.get
    have g8b := (h8.ord [2]).get
    simp only [List.mem_cons, List.not_mem_nil, or_false] at hkin
    rcases hkin with rfl | rfl | rfl | rfl | rfl | rfl | rfl | rfl | rfl | rfl | rfl | rfl | rfl
    · have nk : ((2 : Nat) : Int) = 2 := rfl
      have g8d := (h8.bump 7).get
      have g8e := ((h8.bump 7).ord [2]).get
      simp only [↓g8, nk, a7_6, ↓g8b, ↓g8d, ↓g8e, ↓stepK_v, ↓sxp, sxq, ↓reduceIte, Nat.reduceBEq, Nat.reduceLT, evP, evX, evR, blkOf, evA, storeA, Nat.reduceEqDiff, resL, resV, oneOrTup, Int.reduceEq, Int.reduceLT, Int.reduceLE, Int.reduceNeg, Int.reduceAdd, Int.reduceSub, Int.reduceMul, Int.reduceToNat, Nat.reduceAdd, noUnk, AV.cells, reduceCtorEq, Nat.reduceLeDiff, Cells.get, Nat.reduceMul, ↓bnd_assoc]
      refine Fin.call (c_other hE (atF L 7 6) (nameF 102 (atF L 2 5)) (h8.bump 7)) fun H9 h9 => ?_
      simp only [↓sxp, sxq, ↓reduceIte, Nat.reduceBEq, Nat.reduceLT, evP, evX, evR, blkOf, evA, storeA, Nat.reduceEqDiff, resL, resV, oneOrTup, Int.reduceEq, Int.reduceLT, Int.reduceLE, Int.reduceNeg, Int.reduceAdd, Int.reduceSub, Int.reduceMul, Int.reduceToNat, Nat.reduceAdd, noUnk, AV.cells, reduceCtorEq, Nat.reduceLeDiff, Cells.get, Nat.reduceMul, ↓bnd_assoc]
      refine Fin.write [.int .i64 2, .str (nameF 117 (atF L 1 4)), .str (nameF 102 (atF L 2 5)), .str [], .str (otherF (atF L 7 6) (nameF 102 (atF L 2 5))), .int .i64 0, .int .i64 0, .sl none 0 (.exact 0)] h9 rfl (by simp) rfl fun H10 h10 => ?_
      have gz := h10.get
      simp only [↓gz, ↓hg8, ↓sxp, sxq, ↓reduceIte, Nat.reduceBEq, Nat.reduceLT, evP, evX, evR, blkOf, evA, storeA, Nat.reduceEqDiff, resL, resV, oneOrTup, Int.reduceEq, Int.reduceLT, Int.reduceLE, Int.reduceNeg, Int.reduceAdd, Int.reduceSub, Int.reduceMul, Int.reduceToNat, Nat.reduceAdd, noUnk, AV.cells, reduceCtorEq, Nat.reduceLeDiff, Cells.get, Nat.reduceMul, ↓bnd_assoc]
      refine Fin.write [.int .i64 2, .str (nameF 117 (atF L 1 4)), .str (nameF 102 (atF L 2 5)), .str [], .str (otherF (atF L 7 6) (nameF 102 (atF L 2 5))), .int .i64 0, .int .i64 0, .sl none 0 (.exact 0)] (h10.ord [1]) rfl (by simp) rfl fun Hy hy => ?_
      have gy := hy.get
      simp only [↓gy, ↓hg8, ↓sxp, sxq, ↓reduceIte, Nat.reduceBEq, Nat.reduceLT, evP, evX, evR, blkOf, evA, storeA, Nat.reduceEqDiff, resL, resV, oneOrTup, Int.reduceEq, Int.reduceLT, Int.reduceLE, Int.reduceNeg, Int.reduceAdd, Int.reduceSub, Int.reduceMul, Int.reduceToNat, Nat.reduceAdd, noUnk, AV.cells, reduceCtorEq, Nat.reduceLeDiff, Cells.get, Nat.reduceMul, ↓bnd_assoc]
      exact Fin.ret ⟨_, by rw [show choF L = ⟨2, nameF 117 (atF L 1 4), nameF 102 (atF L 2 5), [], otherF (atF L 7 6) (nameF 102 (atF L 2 5)), 0, 0, []⟩ from by unfold choF; rw [hk]; rfl]; rfl, HP.emp, by rw [show choF L = ⟨2, nameF 117 (atF L 1 4), nameF 102 (atF L 2 5), [], otherF (atF L 7 6) (nameF 102 (atF L 2 5)), 0, 0, []⟩ from by unfold choF; rw [hk]; rfl]; exact fun _ => Rd.nil, (hy.tail.tail.tail).empty⟩
    · have nk : ((3 : Nat) : Int) = 3 := rfl
      have g8d := (h8.bump 7).get
      have g8e := ((h8.bump 7).ord [2]).get
      simp only [↓g8, nk, a7_6, ↓g8b, ↓g8d, ↓g8e, ↓stepK_v, ↓sxp, sxq, ↓reduceIte, Nat.reduceBEq, Nat.reduceLT, evP, evX, evR, blkOf, evA, storeA, Nat.reduceEqDiff, resL, resV, oneOrTup, Int.reduceEq, Int.reduceLT, Int.reduceLE, Int.reduceNeg, Int.reduceAdd, Int.reduceSub, Int.reduceMul, Int.reduceToNat, Nat.reduceAdd, noUnk, AV.cells, reduceCtorEq, Nat.reduceLeDiff, Cells.get, Nat.reduceMul, ↓bnd_assoc]
      refine Fin.call (c_other hE (atF L 7 6) (nameF 102 (atF L 2 5)) (h8.bump 7)) fun H9 h9 => ?_
      simp only [↓sxp, sxq, ↓reduceIte, Nat.reduceBEq, Nat.reduceLT, evP, evX, evR, blkOf, evA, storeA, Nat.reduceEqDiff, resL, resV, oneOrTup, Int.reduceEq, Int.reduceLT, Int.reduceLE, Int.reduceNeg, Int.reduceAdd, Int.reduceSub, Int.reduceMul, Int.reduceToNat, Nat.reduceAdd, noUnk, AV.cells, reduceCtorEq, Nat.reduceLeDiff, Cells.get, Nat.reduceMul, ↓bnd_assoc]
      refine Fin.write [.int .i64 3, .str (nameF 117 (atF L 1 4)), .str (nameF 102 (atF L 2 5)), .str [], .str (otherF (atF L 7 6) (nameF 102 (atF L 2 5))), .int .i64 0, .int .i64 0, .sl none 0 (.exact 0)] h9 rfl (by simp) rfl fun H10 h10 => ?_
      have gz := h10.get
      simp only [↓gz, ↓hg8, ↓sxp, sxq, ↓reduceIte, Nat.reduceBEq, Nat.reduceLT, evP, evX, evR, blkOf, evA, storeA, Nat.reduceEqDiff, resL, resV, oneOrTup, Int.reduceEq, Int.reduceLT, Int.reduceLE, Int.reduceNeg, Int.reduceAdd, Int.reduceSub, Int.reduceMul, Int.reduceToNat, Nat.reduceAdd, noUnk, AV.cells, reduceCtorEq, Nat.reduceLeDiff, Cells.get, Nat.reduceMul, ↓bnd_assoc]
      refine Fin.write [.int .i64 3, .str (nameF 117 (atF L 1 4)), .str (nameF 102 (atF L 2 5)), .str [], .str (otherF (atF L 7 6) (nameF 102 (atF L 2 5))), .int .i64 0, .int .i64 0, .sl none 0 (.exact 0)] (h10.ord [1]) rfl (by simp) rfl fun Hy hy => ?_
      have gy := hy.get
      simp only [↓gy, ↓hg8, ↓sxp, sxq, ↓reduceIte, Nat.reduceBEq, Nat.reduceLT, evP, evX, evR, blkOf, evA, storeA, Nat.reduceEqDiff, resL, resV, oneOrTup, Int.reduceEq, Int.reduceLT, Int.reduceLE, Int.reduceNeg, Int.reduceAdd, Int.reduceSub, Int.reduceMul, Int.reduceToNat, Nat.reduceAdd, noUnk, AV.cells, reduceCtorEq, Nat.reduceLeDiff, Cells.get, Nat.reduceMul, ↓bnd_assoc]
      exact Fin.ret ⟨_, by rw [show choF L = ⟨3, nameF 117 (atF L 1 4), nameF 102 (atF L 2 5), [], otherF (atF L 7 6) (nameF 102 (atF L 2 5)), 0, 0, []⟩ from by unfold choF; rw [hk]; rfl]; rfl, HP.emp, by rw [show choF L = ⟨3, nameF 117 (atF L 1 4), nameF 102 (atF L 2 5), [], otherF (atF L 7 6) (nameF 102 (atF L 2 5)), 0, 0, []⟩ from by unfold choF; rw [hk]; rfl]; exact fun _ => Rd.nil, (hy.tail.tail.tail).empty⟩
    · have nk : ((4 : Nat) : Int) = 4 := rfl
      simp only [↓g8, nk, ↓g8b, ↓stepK_v, ↓hg8, ↓sxp, sxq, ↓reduceIte, Nat.reduceBEq, Nat.reduceLT, evP, evX, evR, blkOf, evA, storeA, Nat.reduceEqDiff, resL, resV, oneOrTup, Int.reduceEq, Int.reduceLT, Int.reduceLE, Int.reduceNeg, Int.reduceAdd, Int.reduceSub, Int.reduceMul, Int.reduceToNat, Nat.reduceAdd, noUnk, AV.cells, reduceCtorEq, Nat.reduceLeDiff, Cells.get, Nat.reduceMul, ↓bnd_assoc]
      refine Fin.write [.int .i64 4, .str (nameF 117 (atF L 1 4)), .str (nameF 102 (atF L 2 5)), .str [], .str [], .int .i64 0, .int .i64 0, .sl none 0 (.exact 0)] (h8.ord [1]) rfl (by simp) rfl fun Hy hy => ?_
      have gy := hy.get
      simp only [↓gy, ↓hg8, ↓sxp, sxq, ↓reduceIte, Nat.reduceBEq, Nat.reduceLT, evP, evX, evR, blkOf, evA, storeA, Nat.reduceEqDiff, resL, resV, oneOrTup, Int.reduceEq, Int.reduceLT, Int.reduceLE, Int.reduceNeg, Int.reduceAdd, Int.reduceSub, Int.reduceMul, Int.reduceToNat, Nat.reduceAdd, noUnk, AV.cells, reduceCtorEq, Nat.reduceLeDiff, Cells.get, Nat.reduceMul, ↓bnd_assoc]
      exact Fin.ret ⟨_, by rw [show choF L = ⟨4, nameF 117 (atF L 1 4), nameF 102 (atF L 2 5), [], [], 0, 0, []⟩ from by unfold choF; rw [hk]; rfl]; rfl, HP.emp, by rw [show choF L = ⟨4, nameF 117 (atF L 1 4), nameF 102 (atF L 2 5), [], [], 0, 0, []⟩ from by unfold choF; rw [hk]; rfl]; exact fun _ => Rd.nil, (hy.tail.tail.tail).empty⟩
    · have nk : ((5 : Nat) : Int) = 5 := rfl
      have m4 : atF L 4 4 < 4 := Nat.mod_lt _ (by omega)
      have w1 : IntKind.i64.wrap (1 + ((atF L 4 4 : Nat) : Int)) = ((1 + atF L 4 4 : Nat) : Int) := by rw [w64 (by omega)]; omega
      simp only [↓g8, nk, a7_4, ↓g8b, ↓stepK_v, ↓sxp, sxq, ↓reduceIte, Nat.reduceBEq, Nat.reduceLT, evP, evX, evR, blkOf, evA, storeA, Nat.reduceEqDiff, resL, resV, oneOrTup, Int.reduceEq, Int.reduceLT, Int.reduceLE, Int.reduceNeg, Int.reduceAdd, Int.reduceSub, Int.reduceMul, Int.reduceToNat, Nat.reduceAdd, noUnk, AV.cells, reduceCtorEq, Nat.reduceLeDiff, Cells.get, Nat.reduceMul, ↓bnd_assoc]
      refine Fin.call (c_name hE 117 (atF L 7 4) h8) fun H9 h9 => ?_
      have g9b := (h9.ord [2]).get
      simp only [a4_4, ↓g9b, ↓stepK_v, w1, ↓sxp, sxq, ↓reduceIte, Nat.reduceBEq, Nat.reduceLT, evP, evX, evR, blkOf, evA, storeA, Nat.reduceEqDiff, resL, resV, oneOrTup, Int.reduceEq, Int.reduceLT, Int.reduceLE, Int.reduceNeg, Int.reduceAdd, Int.reduceSub, Int.reduceMul, Int.reduceToNat, Nat.reduceAdd, noUnk, AV.cells, reduceCtorEq, Nat.reduceLeDiff, Cells.get, Nat.reduceMul, ↓bnd_assoc]
      refine Fin.write [.int .i64 5, .str (nameF 117 (atF L 1 4)), .str (nameF 102 (atF L 2 5)), .str [], .str (nameF 117 (atF L 7 4)), .int .i64 0, .int .i64 0, .sl none 0 (.exact 0)] h9 rfl (by simp) rfl fun H10 h10 => ?_
      refine Fin.write [.int .i64 5, .str (nameF 117 (atF L 1 4)), .str (nameF 102 (atF L 2 5)), .str [], .str (nameF 117 (atF L 7 4)), .int .i64 ((1 + atF L 4 4 : Nat) : Int), .int .i64 0, .sl none 0 (.exact 0)] h10 rfl (by simp) rfl fun H11 h11 => ?_
      have gz := h11.get
      simp only [↓gz, ↓hg8, ↓sxp, sxq, ↓reduceIte, Nat.reduceBEq, Nat.reduceLT, evP, evX, evR, blkOf, evA, storeA, Nat.reduceEqDiff, resL, resV, oneOrTup, Int.reduceEq, Int.reduceLT, Int.reduceLE, Int.reduceNeg, Int.reduceAdd, Int.reduceSub, Int.reduceMul, Int.reduceToNat, Nat.reduceAdd, noUnk, AV.cells, reduceCtorEq, Nat.reduceLeDiff, Cells.get, Nat.reduceMul, ↓bnd_assoc]
      refine Fin.write [.int .i64 5, .str (nameF 117 (atF L 1 4)), .str (nameF 102 (atF L 2 5)), .str [], .str (nameF 117 (atF L 7 4)), .int .i64 ((1 + atF L 4 4 : Nat) : Int), .int .i64 0, .sl none 0 (.exact 0)] (h11.ord [1]) rfl (by simp) rfl fun Hy hy => ?_
      have gy := hy.get
      simp only [↓gy, ↓hg8, ↓sxp, sxq, ↓reduceIte, Nat.reduceBEq, Nat.reduceLT, evP, evX, evR, blkOf, evA, storeA, Nat.reduceEqDiff, resL, resV, oneOrTup, Int.reduceEq, Int.reduceLT, Int.reduceLE, Int.reduceNeg, Int.reduceAdd, Int.reduceSub, Int.reduceMul, Int.reduceToNat, Nat.reduceAdd, noUnk, AV.cells, reduceCtorEq, Nat.reduceLeDiff, Cells.get, Nat.reduceMul, ↓bnd_assoc]
      exact Fin.ret ⟨_, by rw [show choF L = ⟨5, nameF 117 (atF L 1 4), nameF 102 (atF L 2 5), [], nameF 117 (atF L 7 4), 1 + atF L 4 4, 0, []⟩ from by unfold choF; rw [hk]; rfl]; rfl, HP.emp, by rw [show choF L = ⟨5, nameF 117 (atF L 1 4), nameF 102 (atF L 2 5), [], nameF 117 (atF L 7 4), 1 + atF L 4 4, 0, []⟩ from by unfold choF; rw [hk]; rfl]; exact fun _ => Rd.nil, (hy.tail.tail.tail).empty⟩
    · have nk : ((6 : Nat) : Int) = 6 := rfl
      have m4 : atF L 4 4 < 4 := Nat.mod_lt _ (by omega)
      have w1 : IntKind.i64.wrap (1 + ((atF L 4 4 : Nat) : Int)) = ((1 + atF L 4 4 : Nat) : Int) := by rw [w64 (by omega)]; omega
      simp only [↓g8, nk, a7_4, ↓g8b, ↓stepK_v, ↓sxp, sxq, ↓reduceIte, Nat.reduceBEq, Nat.reduceLT, evP, evX, evR, blkOf, evA, storeA, Nat.reduceEqDiff, resL, resV, oneOrTup, Int.reduceEq, Int.reduceLT, Int.reduceLE, Int.reduceNeg, Int.reduceAdd, Int.reduceSub, Int.reduceMul, Int.reduceToNat, Nat.reduceAdd, noUnk, AV.cells, reduceCtorEq, Nat.reduceLeDiff, Cells.get, Nat.reduceMul, ↓bnd_assoc]
      refine Fin.call (c_name hE 117 (atF L 7 4) h8) fun H9 h9 => ?_
      have g9b := (h9.ord [2]).get
      simp only [a4_4, ↓g9b, ↓stepK_v, w1, ↓sxp, sxq, ↓reduceIte, Nat.reduceBEq, Nat.reduceLT, evP, evX, evR, blkOf, evA, storeA, Nat.reduceEqDiff, resL, resV, oneOrTup, Int.reduceEq, Int.reduceLT, Int.reduceLE, Int.reduceNeg, Int.reduceAdd, Int.reduceSub, Int.reduceMul, Int.reduceToNat, Nat.reduceAdd, noUnk, AV.cells, reduceCtorEq, Nat.reduceLeDiff, Cells.get, Nat.reduceMul, ↓bnd_assoc]
      refine Fin.write [.int .i64 6, .str (nameF 117 (atF L 1 4)), .str (nameF 102 (atF L 2 5)), .str [], .str (nameF 117 (atF L 7 4)), .int .i64 0, .int .i64 0, .sl none 0 (.exact 0)] h9 rfl (by simp) rfl fun H10 h10 => ?_
      refine Fin.write [.int .i64 6, .str (nameF 117 (atF L 1 4)), .str (nameF 102 (atF L 2 5)), .str [], .str (nameF 117 (atF L 7 4)), .int .i64 ((1 + atF L 4 4 : Nat) : Int), .int .i64 0, .sl none 0 (.exact 0)] h10 rfl (by simp) rfl fun H11 h11 => ?_
      have gz := h11.get
      simp only [↓gz, ↓hg8, ↓sxp, sxq, ↓reduceIte, Nat.reduceBEq, Nat.reduceLT, evP, evX, evR, blkOf, evA, storeA, Nat.reduceEqDiff, resL, resV, oneOrTup, Int.reduceEq, Int.reduceLT, Int.reduceLE, Int.reduceNeg, Int.reduceAdd, Int.reduceSub, Int.reduceMul, Int.reduceToNat, Nat.reduceAdd, noUnk, AV.cells, reduceCtorEq, Nat.reduceLeDiff, Cells.get, Nat.reduceMul, ↓bnd_assoc]
      refine Fin.write [.int .i64 6, .str (nameF 117 (atF L 1 4)), .str (nameF 102 (atF L 2 5)), .str [], .str (nameF 117 (atF L 7 4)), .int .i64 ((1 + atF L 4 4 : Nat) : Int), .int .i64 0, .sl none 0 (.exact 0)] (h11.ord [1]) rfl (by simp) rfl fun Hy hy => ?_
      have gy := hy.get
      simp only [↓gy, ↓hg8, ↓sxp, sxq, ↓reduceIte, Nat.reduceBEq, Nat.reduceLT, evP, evX, evR, blkOf, evA, storeA, Nat.reduceEqDiff, resL, resV, oneOrTup, Int.reduceEq, Int.reduceLT, Int.reduceLE, Int.reduceNeg, Int.reduceAdd, Int.reduceSub, Int.reduceMul, Int.reduceToNat, Nat.reduceAdd, noUnk, AV.cells, reduceCtorEq, Nat.reduceLeDiff, Cells.get, Nat.reduceMul, ↓bnd_assoc]
      exact Fin.ret ⟨_, by rw [show choF L = ⟨6, nameF 117 (atF L 1 4), nameF 102 (atF L 2 5), [], nameF 117 (atF L 7 4), 1 + atF L 4 4, 0, []⟩ from by unfold choF; rw [hk]; rfl]; rfl, HP.emp, by rw [show choF L = ⟨6, nameF 117 (atF L 1 4), nameF 102 (atF L 2 5), [], nameF 117 (atF L 7 4), 1 + atF L 4 4, 0, []⟩ from by unfold choF; rw [hk]; rfl]; exact fun _ => Rd.nil, (hy.tail.tail.tail).empty⟩
    · have nk : ((7 : Nat) : Int) = 7 := rfl
      simp only [↓g8, nk, a7_4, ↓g8b, ↓stepK_v, ↓sxp, sxq, ↓reduceIte, Nat.reduceBEq, Nat.reduceLT, evP, evX, evR, blkOf, evA, storeA, Nat.reduceEqDiff, resL, resV, oneOrTup, Int.reduceEq, Int.reduceLT, Int.reduceLE, Int.reduceNeg, Int.reduceAdd, Int.reduceSub, Int.reduceMul, Int.reduceToNat, Nat.reduceAdd, noUnk, AV.cells, reduceCtorEq, Nat.reduceLeDiff, Cells.get, Nat.reduceMul, ↓bnd_assoc]
      refine Fin.call (c_name hE 117 (atF L 7 4) h8) fun H9 h9 => ?_
      simp only [↓sxp, sxq, ↓reduceIte, Nat.reduceBEq, Nat.reduceLT, evP, evX, evR, blkOf, evA, storeA, Nat.reduceEqDiff, resL, resV, oneOrTup, Int.reduceEq, Int.reduceLT, Int.reduceLE, Int.reduceNeg, Int.reduceAdd, Int.reduceSub, Int.reduceMul, Int.reduceToNat, Nat.reduceAdd, noUnk, AV.cells, reduceCtorEq, Nat.reduceLeDiff, Cells.get, Nat.reduceMul, ↓bnd_assoc]
      refine Fin.write [.int .i64 7, .str (nameF 117 (atF L 1 4)), .str (nameF 102 (atF L 2 5)), .str [], .str (nameF 117 (atF L 7 4)), .int .i64 0, .int .i64 0, .sl none 0 (.exact 0)] h9 rfl (by simp) rfl fun H10 h10 => ?_
      have gz := h10.get
      simp only [↓gz, ↓hg8, ↓sxp, sxq, ↓reduceIte, Nat.reduceBEq, Nat.reduceLT, evP, evX, evR, blkOf, evA, storeA, Nat.reduceEqDiff, resL, resV, oneOrTup, Int.reduceEq, Int.reduceLT, Int.reduceLE, Int.reduceNeg, Int.reduceAdd, Int.reduceSub, Int.reduceMul, Int.reduceToNat, Nat.reduceAdd, noUnk, AV.cells, reduceCtorEq, Nat.reduceLeDiff, Cells.get, Nat.reduceMul, ↓bnd_assoc]
      refine Fin.write [.int .i64 7, .str (nameF 117 (atF L 1 4)), .str (nameF 102 (atF L 2 5)), .str [], .str (nameF 117 (atF L 7 4)), .int .i64 0, .int .i64 0, .sl none 0 (.exact 0)] (h10.ord [1]) rfl (by simp) rfl fun Hy hy => ?_
      have gy := hy.get
      simp only [↓gy, ↓hg8, ↓sxp, sxq, ↓reduceIte, Nat.reduceBEq, Nat.reduceLT, evP, evX, evR, blkOf, evA, storeA, Nat.reduceEqDiff, resL, resV, oneOrTup, Int.reduceEq, Int.reduceLT, Int.reduceLE, Int.reduceNeg, Int.reduceAdd, Int.reduceSub, Int.reduceMul, Int.reduceToNat, Nat.reduceAdd, noUnk, AV.cells, reduceCtorEq, Nat.reduceLeDiff, Cells.get, Nat.reduceMul, ↓bnd_assoc]
      exact Fin.ret ⟨_, by rw [show choF L = ⟨7, nameF 117 (atF L 1 4), nameF 102 (atF L 2 5), [], nameF 117 (atF L 7 4), 0, 0, []⟩ from by unfold choF; rw [hk]; rfl]; rfl, HP.emp, by rw [show choF L = ⟨7, nameF 117 (atF L 1 4), nameF 102 (atF L 2 5), [], nameF 117 (atF L 7 4), 0, 0, []⟩ from by unfold choF; rw [hk]; rfl]; exact fun _ => Rd.nil, (hy.tail.tail.tail).empty⟩
    · have nk : ((8 : Nat) : Int) = 8 := rfl
      simp only [↓g8, nk, a3_2, ↓g8b, ↓stepK_v, ↓sxp, sxq, ↓reduceIte, Nat.reduceBEq, Nat.reduceLT, evP, evX, evR, blkOf, evA, storeA, Nat.reduceEqDiff, resL, resV, oneOrTup, Int.reduceEq, Int.reduceLT, Int.reduceLE, Int.reduceNeg, Int.reduceAdd, Int.reduceSub, Int.reduceMul, Int.reduceToNat, Nat.reduceAdd, noUnk, AV.cells, reduceCtorEq, Nat.reduceLeDiff, Cells.get, Nat.reduceMul, ↓bnd_assoc]
      refine Fin.call (c_name hE 120 (atF L 3 2) h8) fun H9 h9 => ?_
      have h10 := h9.push (c := []) (t := 5)
      have g10 := (h10.ord [3]).get
      have m9 : atF L 6 9 < 9 := Nat.mod_lt _ (by omega)
      have w1 : IntKind.i64.wrap (16 + ((atF L 6 9 : Nat) : Int)) = ((16 + atF L 6 9 : Nat) : Int) := by rw [w64 (by omega)]; omega
      simp only [a6_9, ↓g10, ↓stepK_v, w1, ↓sxp, sxq, ↓reduceIte, Nat.reduceBEq, Nat.reduceLT, evP, evX, evR, blkOf, evA, storeA, Nat.reduceEqDiff, resL, resV, oneOrTup, Int.reduceEq, Int.reduceLT, Int.reduceLE, Int.reduceNeg, Int.reduceAdd, Int.reduceSub, Int.reduceMul, Int.reduceToNat, Nat.reduceAdd, noUnk, AV.cells, reduceCtorEq, Nat.reduceLeDiff, Cells.get, Nat.reduceMul, ↓bnd_assoc]
      generalize hm : atF L 6 9 = m at *
      have hb : bndF 32 16 (.int .i64 ((16 + m : Nat) : Int)) = some (16, 16 + m, 32) := by
        have e1 : inI ((16 + m : Nat) : Int) 32 = some (16 + m) := by unfold inI; rw [if_pos (by omega), if_pos (by omega), Int.toNat_natCast]
        have e2 : inI 16 (16 + m) = some 16 := by unfold inI; rw [if_pos (by omega), if_pos (by omega)]; rfl
        simp only [bndF, bounds, bound, evX, e1, e2]
      have hsub : 16 + m - 16 = m := by omega
      have hcho : choF L = ⟨8, nameF 117 (atF L 1 4), nameF 102 (atF L 2 5), nameF 120 (atF L 3 2), [], 0, 0, (L.drop 16).take m⟩ := by unfold choF; rw [hk, ← hm]; rfl
      have hdl : ((L.drop 16).take m).length = m := by rw [List.length_take, List.length_drop]; omega
      have hsrc : srcA W (H9.push (.cells (.lst []) 5 none)) 1 false (.sl (some ⟨.own jb, 16⟩) m (.exact 16)) = some (m, cb ((L.drop 16).take m)) := by
        have hgl := getN_cb hl
        rw [hcs] at hgl
        have := getN_sub 16 m hgl (by omega)
        rw [← hcs, cb_sub, Nat.zero_add] at this
        rw [hcs] at this
        simp only [srcA, blkOf, g10, Nat.mul_one, this]
      simp only [↓bnd_ct, hb, hsub, Nat.reduceSub, ↓sxp, sxq, ↓reduceIte, Nat.reduceBEq, Nat.reduceLT, evP, evX, evR, blkOf, evA, storeA, Nat.reduceEqDiff, resL, resV, oneOrTup, Int.reduceEq, Int.reduceLT, Int.reduceLE, Int.reduceNeg, Int.reduceAdd, Int.reduceSub, Int.reduceMul, Int.reduceToNat, Nat.reduceAdd, noUnk, AV.cells, reduceCtorEq, Nat.reduceLeDiff, Cells.get, Nat.reduceMul, ↓bnd_assoc]
      by_cases m0 : m = 0
      · subst m0
        have happ : appA W (H9.push (.cells (.lst []) 5 none)) 5 1 1 false (.sl (some ⟨.own H9.next, 0⟩) 0 (.exact 0)) (.sl (some ⟨.own jb, 16⟩) 0 (.exact 16)) = some (.sl (some ⟨.own H9.next, 0⟩) 0 (.exact 0), H9.push (.cells (.lst []) 5 none)) := by
          simp only [appA, hsrc]; rfl
        generalize H9.next = b9 at *
        simp only [↓happ, ↓sxp, sxq, ↓reduceIte, Nat.reduceBEq, Nat.reduceLT, evP, evX, evR, blkOf, evA, storeA, Nat.reduceEqDiff, resL, resV, oneOrTup, Int.reduceEq, Int.reduceLT, Int.reduceLE, Int.reduceNeg, Int.reduceAdd, Int.reduceSub, Int.reduceMul, Int.reduceToNat, Nat.reduceAdd, noUnk, AV.cells, reduceCtorEq, Nat.reduceLeDiff, Cells.get, Nat.reduceMul, ↓bnd_assoc]
        refine Fin.write [.int .i64 8, .str (nameF 117 (atF L 1 4)), .str (nameF 102 (atF L 2 5)), .str (nameF 120 (atF L 3 2)), .str [], .int .i64 0, .int .i64 0, .sl none 0 (.exact 0)] (h10.ord [1]) rfl (by simp) rfl fun H11 h11 => ?_
        refine Fin.write [.int .i64 8, .str (nameF 117 (atF L 1 4)), .str (nameF 102 (atF L 2 5)), .str (nameF 120 (atF L 3 2)), .str [], .int .i64 0, .int .i64 0, .sl (some ⟨.own b9, 0⟩) 0 (.exact 0)] h11 rfl (by simp) rfl fun H12 h12 => ?_
        have gz := h12.get
        simp only [↓gz, ↓hg8, ↓sxp, sxq, ↓reduceIte, Nat.reduceBEq, Nat.reduceLT, evP, evX, evR, blkOf, evA, storeA, Nat.reduceEqDiff, resL, resV, oneOrTup, Int.reduceEq, Int.reduceLT, Int.reduceLE, Int.reduceNeg, Int.reduceAdd, Int.reduceSub, Int.reduceMul, Int.reduceToNat, Nat.reduceAdd, noUnk, AV.cells, reduceCtorEq, Nat.reduceLeDiff, Cells.get, Nat.reduceMul, ↓bnd_assoc]
        refine Fin.write [.int .i64 8, .str (nameF 117 (atF L 1 4)), .str (nameF 102 (atF L 2 5)), .str (nameF 120 (atF L 3 2)), .str [], .int .i64 0, .int .i64 0, .sl (some ⟨.own b9, 0⟩) 0 (.exact 0)] (h12.ord [2]) rfl (by simp) rfl fun Hy hy => ?_
        have gy := hy.get
        simp only [↓gy, ↓hg8, ↓sxp, sxq, ↓reduceIte, Nat.reduceBEq, Nat.reduceLT, evP, evX, evR, blkOf, evA, storeA, Nat.reduceEqDiff, resL, resV, oneOrTup, Int.reduceEq, Int.reduceLT, Int.reduceLE, Int.reduceNeg, Int.reduceAdd, Int.reduceSub, Int.reduceMul, Int.reduceToNat, Nat.reduceAdd, noUnk, AV.cells, reduceCtorEq, Nat.reduceLeDiff, Cells.get, Nat.reduceMul, ↓bnd_assoc]
        exact Fin.ret ⟨_, by rw [hcho]; rfl, blk b9 (cb []) 5, by rw [hcho]; exact @RdLike.exb W [] b9 0 rfl 5, (hy.tail.tail).rm 1⟩
      · obtain ⟨v', H11, e11, h11⟩ := h10.eadd (W := W) (ty := 5) (bytes := 1) (k := m) (new := cb ((L.drop 16).take m)) (by omega) (by rw [cb_len, hdl]) (cb_one _) (by omega)
        have happ : appA W (H9.push (.cells (.lst []) 5 none)) 5 1 1 false (.sl (some ⟨.own H9.next, 0⟩) 0 (.exact 0)) (.sl (some ⟨.own jb, 16⟩) m (.exact 16)) = some (v', H11) := by
          simp only [appA, hsrc]; exact e11
        obtain ⟨u1, u2, u3⟩ := ((RdLike.row (W := W) _ v') h11).one
        unfold AV.cells at u1
        unfold noUnk at u2
        generalize H9.next = b9 at *
        simp only [↓happ, ↓u1, ↓u2, ↓sxp, sxq, ↓reduceIte, Nat.reduceBEq, Nat.reduceLT, evP, evX, evR, blkOf, evA, storeA, Nat.reduceEqDiff, resL, resV, oneOrTup, Int.reduceEq, Int.reduceLT, Int.reduceLE, Int.reduceNeg, Int.reduceAdd, Int.reduceSub, Int.reduceMul, Int.reduceToNat, Nat.reduceAdd, noUnk, AV.cells, reduceCtorEq, Nat.reduceLeDiff, Cells.get, Nat.reduceMul, ↓bnd_assoc]
        refine Fin.write [.int .i64 8, .str (nameF 117 (atF L 1 4)), .str (nameF 102 (atF L 2 5)), .str (nameF 120 (atF L 3 2)), .str [], .int .i64 0, .int .i64 0, .sl none 0 (.exact 0)] (h11.ord [2]) rfl (by simp) rfl fun H12 h12 => ?_
        refine Fin.write [.int .i64 8, .str (nameF 117 (atF L 1 4)), .str (nameF 102 (atF L 2 5)), .str (nameF 120 (atF L 3 2)), .str [], .int .i64 0, .int .i64 0, v'] h12 rfl (by simp) (by simp [u3]) fun H13 h13 => ?_
        have gz := h13.get
        simp only [↓gz, ↓hg8, ↓sxp, sxq, ↓reduceIte, Nat.reduceBEq, Nat.reduceLT, evP, evX, evR, blkOf, evA, storeA, Nat.reduceEqDiff, resL, resV, oneOrTup, Int.reduceEq, Int.reduceLT, Int.reduceLE, Int.reduceNeg, Int.reduceAdd, Int.reduceSub, Int.reduceMul, Int.reduceToNat, Nat.reduceAdd, noUnk, AV.cells, reduceCtorEq, Nat.reduceLeDiff, Cells.get, Nat.reduceMul, ↓bnd_assoc]
        refine Fin.write [.int .i64 8, .str (nameF 117 (atF L 1 4)), .str (nameF 102 (atF L 2 5)), .str (nameF 120 (atF L 3 2)), .str [], .int .i64 0, .int .i64 0, v'] (h13.ord [3]) rfl (by simp) (by simp only [List.all_cons, List.all_nil, u3]; rfl) fun Hy hy => ?_
        have gy := hy.get
        simp only [↓gy, ↓hg8, ↓sxp, sxq, ↓reduceIte, Nat.reduceBEq, Nat.reduceLT, evP, evX, evR, blkOf, evA, storeA, Nat.reduceEqDiff, resL, resV, oneOrTup, Int.reduceEq, Int.reduceLT, Int.reduceLE, Int.reduceNeg, Int.reduceAdd, Int.reduceSub, Int.reduceMul, Int.reduceToNat, Nat.reduceAdd, noUnk, AV.cells, reduceCtorEq, Nat.reduceLeDiff, Cells.get, Nat.reduceMul, ↓bnd_assoc]
        exact Fin.ret ⟨_, by rw [hcho]; rfl, row 5 1 (cb ((L.drop 16).take m)) v', by rw [hcho]; exact RdLike.row _ v', ((hy.tail.tail).rm 1).rm 1⟩
    · have nk : ((9 : Nat) : Int) = 9 := rfl
      simp only [↓g8, nk, a3_2, ↓g8b, ↓stepK_v, ↓sxp, sxq, ↓reduceIte, Nat.reduceBEq, Nat.reduceLT, evP, evX, evR, blkOf, evA, storeA, Nat.reduceEqDiff, resL, resV, oneOrTup, Int.reduceEq, Int.reduceLT, Int.reduceLE, Int.reduceNeg, Int.reduceAdd, Int.reduceSub, Int.reduceMul, Int.reduceToNat, Nat.reduceAdd, noUnk, AV.cells, reduceCtorEq, Nat.reduceLeDiff, Cells.get, Nat.reduceMul, ↓bnd_assoc]
      refine Fin.call (c_name hE 120 (atF L 3 2) h8) fun H9 h9 => ?_
      have g9b := (h9.ord [2]).get
      simp only [a5_3, ↓g9b, ↓stepK_v, ↓sxp, sxq, ↓reduceIte, Nat.reduceBEq, Nat.reduceLT, evP, evX, evR, blkOf, evA, storeA, Nat.reduceEqDiff, resL, resV, oneOrTup, Int.reduceEq, Int.reduceLT, Int.reduceLE, Int.reduceNeg, Int.reduceAdd, Int.reduceSub, Int.reduceMul, Int.reduceToNat, Nat.reduceAdd, noUnk, AV.cells, reduceCtorEq, Nat.reduceLeDiff, Cells.get, Nat.reduceMul, ↓bnd_assoc]
      refine Fin.write [.int .i64 9, .str (nameF 117 (atF L 1 4)), .str (nameF 102 (atF L 2 5)), .str (nameF 120 (atF L 3 2)), .str [], .int .i64 0, .int .i64 0, .sl none 0 (.exact 0)] h9 rfl (by simp) rfl fun H10 h10 => ?_
      refine Fin.write [.int .i64 9, .str (nameF 117 (atF L 1 4)), .str (nameF 102 (atF L 2 5)), .str (nameF 120 (atF L 3 2)), .str [], .int .i64 0, .int .i64 ((atF L 5 3 : Nat) : Int), .sl none 0 (.exact 0)] h10 rfl (by simp) rfl fun H11 h11 => ?_
      have gz := h11.get
      simp only [↓gz, ↓hg8, ↓sxp, sxq, ↓reduceIte, Nat.reduceBEq, Nat.reduceLT, evP, evX, evR, blkOf, evA, storeA, Nat.reduceEqDiff, resL, resV, oneOrTup, Int.reduceEq, Int.reduceLT, Int.reduceLE, Int.reduceNeg, Int.reduceAdd, Int.reduceSub, Int.reduceMul, Int.reduceToNat, Nat.reduceAdd, noUnk, AV.cells, reduceCtorEq, Nat.reduceLeDiff, Cells.get, Nat.reduceMul, ↓bnd_assoc]
      refine Fin.write [.int .i64 9, .str (nameF 117 (atF L 1 4)), .str (nameF 102 (atF L 2 5)), .str (nameF 120 (atF L 3 2)), .str [], .int .i64 0, .int .i64 ((atF L 5 3 : Nat) : Int), .sl none 0 (.exact 0)] (h11.ord [1]) rfl (by simp) rfl fun Hy hy => ?_
      have gy := hy.get
      simp only [↓gy, ↓hg8, ↓sxp, sxq, ↓reduceIte, Nat.reduceBEq, Nat.reduceLT, evP, evX, evR, blkOf, evA, storeA, Nat.reduceEqDiff, resL, resV, oneOrTup, Int.reduceEq, Int.reduceLT, Int.reduceLE, Int.reduceNeg, Int.reduceAdd, Int.reduceSub, Int.reduceMul, Int.reduceToNat, Nat.reduceAdd, noUnk, AV.cells, reduceCtorEq, Nat.reduceLeDiff, Cells.get, Nat.reduceMul, ↓bnd_assoc]
      exact Fin.ret ⟨_, by rw [show choF L = ⟨9, nameF 117 (atF L 1 4), nameF 102 (atF L 2 5), nameF 120 (atF L 3 2), [], 0, atF L 5 3, []⟩ from by unfold choF; rw [hk]; rfl]; rfl, HP.emp, by rw [show choF L = ⟨9, nameF 117 (atF L 1 4), nameF 102 (atF L 2 5), nameF 120 (atF L 3 2), [], 0, atF L 5 3, []⟩ from by unfold choF; rw [hk]; rfl]; exact fun _ => Rd.nil, (hy.tail.tail.tail).empty⟩
    · have nk : ((10 : Nat) : Int) = 10 := rfl
      simp only [↓g8, nk, ↓g8b, ↓stepK_v, ↓hg8, ↓sxp, sxq, ↓reduceIte, Nat.reduceBEq, Nat.reduceLT, evP, evX, evR, blkOf, evA, storeA, Nat.reduceEqDiff, resL, resV, oneOrTup, Int.reduceEq, Int.reduceLT, Int.reduceLE, Int.reduceNeg, Int.reduceAdd, Int.reduceSub, Int.reduceMul, Int.reduceToNat, Nat.reduceAdd, noUnk, AV.cells, reduceCtorEq, Nat.reduceLeDiff, Cells.get, Nat.reduceMul, ↓bnd_assoc]
      refine Fin.write [.int .i64 10, .str (nameF 117 (atF L 1 4)), .str (nameF 102 (atF L 2 5)), .str [], .str [], .int .i64 0, .int .i64 0, .sl none 0 (.exact 0)] (h8.ord [1]) rfl (by simp) rfl fun Hy hy => ?_
      have gy := hy.get
      simp only [↓gy, ↓hg8, ↓sxp, sxq, ↓reduceIte, Nat.reduceBEq, Nat.reduceLT, evP, evX, evR, blkOf, evA, storeA, Nat.reduceEqDiff, resL, resV, oneOrTup, Int.reduceEq, Int.reduceLT, Int.reduceLE, Int.reduceNeg, Int.reduceAdd, Int.reduceSub, Int.reduceMul, Int.reduceToNat, Nat.reduceAdd, noUnk, AV.cells, reduceCtorEq, Nat.reduceLeDiff, Cells.get, Nat.reduceMul, ↓bnd_assoc]
      exact Fin.ret ⟨_, by rw [show choF L = ⟨10, nameF 117 (atF L 1 4), nameF 102 (atF L 2 5), [], [], 0, 0, []⟩ from by unfold choF; rw [hk]; rfl]; rfl, HP.emp, by rw [show choF L = ⟨10, nameF 117 (atF L 1 4), nameF 102 (atF L 2 5), [], [], 0, 0, []⟩ from by unfold choF; rw [hk]; rfl]; exact fun _ => Rd.nil, (hy.tail.tail.tail).empty⟩
    · have nk : ((11 : Nat) : Int) = 11 := rfl
      simp only [↓g8, nk, a3_2, ↓g8b, ↓stepK_v, ↓sxp, sxq, ↓reduceIte, Nat.reduceBEq, Nat.reduceLT, evP, evX, evR, blkOf, evA, storeA, Nat.reduceEqDiff, resL, resV, oneOrTup, Int.reduceEq, Int.reduceLT, Int.reduceLE, Int.reduceNeg, Int.reduceAdd, Int.reduceSub, Int.reduceMul, Int.reduceToNat, Nat.reduceAdd, noUnk, AV.cells, reduceCtorEq, Nat.reduceLeDiff, Cells.get, Nat.reduceMul, ↓bnd_assoc]
      refine Fin.call (c_name hE 120 (atF L 3 2) h8) fun H9 h9 => ?_
      simp only [↓sxp, sxq, ↓reduceIte, Nat.reduceBEq, Nat.reduceLT, evP, evX, evR, blkOf, evA, storeA, Nat.reduceEqDiff, resL, resV, oneOrTup, Int.reduceEq, Int.reduceLT, Int.reduceLE, Int.reduceNeg, Int.reduceAdd, Int.reduceSub, Int.reduceMul, Int.reduceToNat, Nat.reduceAdd, noUnk, AV.cells, reduceCtorEq, Nat.reduceLeDiff, Cells.get, Nat.reduceMul, ↓bnd_assoc]
      refine Fin.write [.int .i64 11, .str (nameF 117 (atF L 1 4)), .str (nameF 102 (atF L 2 5)), .str (nameF 120 (atF L 3 2)), .str [], .int .i64 0, .int .i64 0, .sl none 0 (.exact 0)] h9 rfl (by simp) rfl fun H10 h10 => ?_
      have gz := h10.get
      simp only [↓gz, ↓hg8, ↓sxp, sxq, ↓reduceIte, Nat.reduceBEq, Nat.reduceLT, evP, evX, evR, blkOf, evA, storeA, Nat.reduceEqDiff, resL, resV, oneOrTup, Int.reduceEq, Int.reduceLT, Int.reduceLE, Int.reduceNeg, Int.reduceAdd, Int.reduceSub, Int.reduceMul, Int.reduceToNat, Nat.reduceAdd, noUnk, AV.cells, reduceCtorEq, Nat.reduceLeDiff, Cells.get, Nat.reduceMul, ↓bnd_assoc]
      refine Fin.write [.int .i64 11, .str (nameF 117 (atF L 1 4)), .str (nameF 102 (atF L 2 5)), .str (nameF 120 (atF L 3 2)), .str [], .int .i64 0, .int .i64 0, .sl none 0 (.exact 0)] (h10.ord [1]) rfl (by simp) rfl fun Hy hy => ?_
      have gy := hy.get
      simp only [↓gy, ↓hg8, ↓sxp, sxq, ↓reduceIte, Nat.reduceBEq, Nat.reduceLT, evP, evX, evR, blkOf, evA, storeA, Nat.reduceEqDiff, resL, resV, oneOrTup, Int.reduceEq, Int.reduceLT, Int.reduceLE, Int.reduceNeg, Int.reduceAdd, Int.reduceSub, Int.reduceMul, Int.reduceToNat, Nat.reduceAdd, noUnk, AV.cells, reduceCtorEq, Nat.reduceLeDiff, Cells.get, Nat.reduceMul, ↓bnd_assoc]
      exact Fin.ret ⟨_, by rw [show choF L = ⟨11, nameF 117 (atF L 1 4), nameF 102 (atF L 2 5), nameF 120 (atF L 3 2), [], 0, 0, []⟩ from by unfold choF; rw [hk]; rfl]; rfl, HP.emp, by rw [show choF L = ⟨11, nameF 117 (atF L 1 4), nameF 102 (atF L 2 5), nameF 120 (atF L 3 2), [], 0, 0, []⟩ from by unfold choF; rw [hk]; rfl]; exact fun _ => Rd.nil, (hy.tail.tail.tail).empty⟩
    · have nk : ((12 : Nat) : Int) = 12 := rfl
      simp only [↓g8, nk, a3_2, ↓g8b, ↓stepK_v, ↓sxp, sxq, ↓reduceIte, Nat.reduceBEq, Nat.reduceLT, evP, evX, evR, blkOf, evA, storeA, Nat.reduceEqDiff, resL, resV, oneOrTup, Int.reduceEq, Int.reduceLT, Int.reduceLE, Int.reduceNeg, Int.reduceAdd, Int.reduceSub, Int.reduceMul, Int.reduceToNat, Nat.reduceAdd, noUnk, AV.cells, reduceCtorEq, Nat.reduceLeDiff, Cells.get, Nat.reduceMul, ↓bnd_assoc]
      refine Fin.call (c_name hE 120 (atF L 3 2) h8) fun H9 h9 => ?_
      simp only [↓sxp, sxq, ↓reduceIte, Nat.reduceBEq, Nat.reduceLT, evP, evX, evR, blkOf, evA, storeA, Nat.reduceEqDiff, resL, resV, oneOrTup, Int.reduceEq, Int.reduceLT, Int.reduceLE, Int.reduceNeg, Int.reduceAdd, Int.reduceSub, Int.reduceMul, Int.reduceToNat, Nat.reduceAdd, noUnk, AV.cells, reduceCtorEq, Nat.reduceLeDiff, Cells.get, Nat.reduceMul, ↓bnd_assoc]
      refine Fin.write [.int .i64 12, .str (nameF 117 (atF L 1 4)), .str (nameF 102 (atF L 2 5)), .str (nameF 120 (atF L 3 2)), .str [], .int .i64 0, .int .i64 0, .sl none 0 (.exact 0)] h9 rfl (by simp) rfl fun H10 h10 => ?_
      have gz := h10.get
      simp only [↓gz, ↓hg8, ↓sxp, sxq, ↓reduceIte, Nat.reduceBEq, Nat.reduceLT, evP, evX, evR, blkOf, evA, storeA, Nat.reduceEqDiff, resL, resV, oneOrTup, Int.reduceEq, Int.reduceLT, Int.reduceLE, Int.reduceNeg, Int.reduceAdd, Int.reduceSub, Int.reduceMul, Int.reduceToNat, Nat.reduceAdd, noUnk, AV.cells, reduceCtorEq, Nat.reduceLeDiff, Cells.get, Nat.reduceMul, ↓bnd_assoc]
      refine Fin.write [.int .i64 12, .str (nameF 117 (atF L 1 4)), .str (nameF 102 (atF L 2 5)), .str (nameF 120 (atF L 3 2)), .str [], .int .i64 0, .int .i64 0, .sl none 0 (.exact 0)] (h10.ord [1]) rfl (by simp) rfl fun Hy hy => ?_
      have gy := hy.get
      simp only [↓gy, ↓hg8, ↓sxp, sxq, ↓reduceIte, Nat.reduceBEq, Nat.reduceLT, evP, evX, evR, blkOf, evA, storeA, Nat.reduceEqDiff, resL, resV, oneOrTup, Int.reduceEq, Int.reduceLT, Int.reduceLE, Int.reduceNeg, Int.reduceAdd, Int.reduceSub, Int.reduceMul, Int.reduceToNat, Nat.reduceAdd, noUnk, AV.cells, reduceCtorEq, Nat.reduceLeDiff, Cells.get, Nat.reduceMul, ↓bnd_assoc]
      exact Fin.ret ⟨_, by rw [show choF L = ⟨12, nameF 117 (atF L 1 4), nameF 102 (atF L 2 5), nameF 120 (atF L 3 2), [], 0, 0, []⟩ from by unfold choF; rw [hk]; rfl]; rfl, HP.emp, by rw [show choF L = ⟨12, nameF 117 (atF L 1 4), nameF 102 (atF L 2 5), nameF 120 (atF L 3 2), [], 0, 0, []⟩ from by unfold choF; rw [hk]; rfl]; exact fun _ => Rd.nil, (hy.tail.tail.tail).empty⟩
    · have nk : ((13 : Nat) : Int) = 13 := rfl
      simp only [↓g8, nk, ↓g8b, ↓stepK_v, ↓hg8, ↓sxp, sxq, ↓reduceIte, Nat.reduceBEq, Nat.reduceLT, evP, evX, evR, blkOf, evA, storeA, Nat.reduceEqDiff, resL, resV, oneOrTup, Int.reduceEq, Int.reduceLT, Int.reduceLE, Int.reduceNeg, Int.reduceAdd, Int.reduceSub, Int.reduceMul, Int.reduceToNat, Nat.reduceAdd, noUnk, AV.cells, reduceCtorEq, Nat.reduceLeDiff, Cells.get, Nat.reduceMul, ↓bnd_assoc]
      refine Fin.write [.int .i64 13, .str (nameF 117 (atF L 1 4)), .str (nameF 102 (atF L 2 5)), .str [], .str [], .int .i64 0, .int .i64 0, .sl none 0 (.exact 0)] (h8.ord [1]) rfl (by simp) rfl fun Hy hy => ?_
      have gy := hy.get
      simp only [↓gy, ↓hg8, ↓sxp, sxq, ↓reduceIte, Nat.reduceBEq, Nat.reduceLT, evP, evX, evR, blkOf, evA, storeA, Nat.reduceEqDiff, resL, resV, oneOrTup, Int.reduceEq, Int.reduceLT, Int.reduceLE, Int.reduceNeg, Int.reduceAdd, Int.reduceSub, Int.reduceMul, Int.reduceToNat, Nat.reduceAdd, noUnk, AV.cells, reduceCtorEq, Nat.reduceLeDiff, Cells.get, Nat.reduceMul, ↓bnd_assoc]
      exact Fin.ret ⟨_, by rw [show choF L = ⟨13, nameF 117 (atF L 1 4), nameF 102 (atF L 2 5), [], [], 0, 0, []⟩ from by unfold choF; rw [hk]; rfl]; rfl, HP.emp, by rw [show choF L = ⟨13, nameF 117 (atF L 1 4), nameF 102 (atF L 2 5), [], [], 0, 0, []⟩ from by unfold choF; rw [hk]; rfl]; exact fun _ => Rd.nil, (hy.tail.tail.tail).empty⟩
    · exact absurd rfl k14
end
end Go.Proofs.YtjfnhdiimibmiaaDoor.Sx

/- Calls, the document's. -/
namespace Go.Proofs.YtjfnhdiimibmiaaDoor.Sx
open HP
def callF (seed : List UInt8) (i : Nat) : CF := if i < 4 then ⟨1, nameF 117 i, [], [], [], 0, 0, []⟩ else choF (lotF seed i)
def knl : List AV := KND.map fun n : Nat => .int .i64 ((n : Nat) : Int)
section
variable {W : World} {E : Env} {H : Heap} {Γ : List HP}
def bndG (n : Nat) (a b : AV) : Option (Nat × Nat × Nat) := bounds .e n n (some (.c a)) (some (.c b)) none
theorem RdLike.xh (bs : List UInt8) (v : AV) : RdLike W bs v (HP.xh bs v) := fun {H Γ} h => by
  obtain ⟨R, hR, h2⟩ := (XH.ofH h).out (W := W)
  exact hR h2
theorem bnd_tt (A : Tm) (n i j : Nat) : bounds A n n (some (.tmp i)) (some (.tmp j)) none = bndG n (getX A i) (getX A j) := (Eq.refl _).trans rfl
theorem digit : ∀ n : Nat, n < 10 → (([48, 49, 50, 51, 52, 53, 54, 55, 56, 57] : List UInt8).take (n + 1)).drop n = [48 + UInt8.ofNat n] := by decide
theorem c_named (hE : EnvW E) (l : UInt8) (n : Nat) (hn : n < 10) (H : Heap) : go W E 24 [.str [l], .int .i64 (n : Int)] H = some (.str (nameF l n), H) := by
  have w1 : IntKind.i64.wrap ((n : Int) + 1) = ((n + 1 : Nat) : Int) := by rw [w64 (by omega)]; simp
  have hb : bndG 10 (.int .i64 (n : Int)) (.int .i64 ((n + 1 : Nat) : Int)) = some (n, n + 1, 10) := by
    have e1 : inI ((n + 1 : Nat) : Int) 10 = some (n + 1) := by unfold inI; rw [if_pos (by omega), if_pos (by omega), Int.toNat_natCast]
    have e2 : inI (n : Int) (n + 1) = some n := by unfold inI; rw [if_pos (by omega), if_pos (by omega), Int.toNat_natCast]
    simp only [bndG, bounds, bound, evX, e1, e2]
  have hd := digit n hn
  generalize hL : ([48, 49, 50, 51, 52, 53, 54, 55, 56, 57] : List UInt8) = D at *
  have hDl : D.length = 10 := by rw [← hL]; rfl
  have hadd : bin .add (.str [l]) (.str [48 + UInt8.ofNat n]) = some (.str (nameF l n)) := rfl
  rw [go_code hE.f24 (by simp [sf24])]
  simp only [sf24, hL, w1, hDl, ↓bnd_tt, hb, hd, hadd, ↓sxp, sxq, ↓reduceIte, Nat.reduceBEq, Nat.reduceLT, evP, evX, evR, blkOf, evA, storeA, Nat.reduceEqDiff, resL, resV, oneOrTup, Int.reduceEq, Int.reduceLT, Int.reduceLE, Int.reduceNeg, Int.reduceAdd, Int.reduceSub, Int.reduceMul, Int.reduceToNat, Nat.reduceAdd, noUnk, AV.cells, reduceCtorEq, Nat.reduceLeDiff, Cells.get, Nat.reduceMul, ↓bnd_assoc]
theorem cd_loop {L : List UInt8} (hl : L.length = 32) {j9 j5 : Nat} {a b c d e f g : AV} {df : List Nat} : ∀ (m i : Nat) (A : Tm) (H : Heap) (dv : AV), i + m = atF L 6 9 → getX A 5 = .ptr (some ⟨.own j5, 0⟩) → getX A 9 = .ptr (some ⟨.own j9, 0⟩) → getX A 11 = .int .i64 i → XH H ((L.drop 16).take i) dv (blk j9 [a, b, c, d, e, f, g, dv] 29 :: blk j5 (cb L) 22 :: Γ) →
    ∃ lv A' H', run W E (.loop lp10_0) ⟨A, df, none⟩ H = some (lv, ⟨A', df, none⟩, H') ∧ (lv = .exit 0 ∧ getX A' 4 = getX A 4 ∧ getX A' 9 = getX A 9 ∧ ∃ dv', XH H' ((L.drop 16).take (atF L 6 9)) dv' (blk j9 [a, b, c, d, e, f, g, dv'] 29 :: blk j5 (cb L) 22 :: Γ)) := by
  have hlp : ∀ f H, run W E lp10_0 f H = run W E lp10_0 f H := fun _ _ => rfl
  conv at hlp => enter [f, H, 2]; unfold lp10_0
  have m9 : atF L 6 9 < 9 := Nat.mod_lt _ (by omega)
  have r6 : bin .rem (.int .i64 ((L.getD 6 0).toNat : Int)) (.int .i64 9) = some (.int .i64 ((atF L 6 9 : Nat) : Int)) := i_rem (L.getD 6 0).toNat 9 (by omega)
  have x6 : (cb L)[6]? = some (.int .u8 (L.getD 6 0).toNat) := cb_get (show 6 < L.length by omega)
  intro m
  induction m with
  | zero =>
    intro i A H dv him a5 a9 a11 h
    have hi : i = atF L 6 9 := by omega
    have hlt : ¬ (i : Int) < ((atF L 6 9 : Nat) : Int) := by omega
    have g5 := (h.toH.ord [2]).get
    rw [run_loop]
    simp only [hlp, a5, a9, a11, nc32, ↓g5, x6, conv_i64, r6, hlt, ↓sxp, sxq, ↓reduceIte, Nat.reduceBEq, Nat.reduceLT, evP, evX, evR, blkOf, evA, storeA, Nat.reduceEqDiff, resL, resV, oneOrTup, Int.reduceEq, Int.reduceLT, Int.reduceLE, Int.reduceNeg, Int.reduceAdd, Int.reduceSub, Int.reduceMul, Int.reduceToNat, Nat.reduceAdd, noUnk, AV.cells, reduceCtorEq, Nat.reduceLeDiff, Cells.get, Nat.reduceMul, ↓bnd_assoc]
    exact ⟨_, _, _, rfl, rfl, by simp only [↓sxp, sxq, ↓reduceIte, Nat.reduceBEq, Nat.reduceLT, evP, evX, evR, blkOf, evA, storeA, Nat.reduceEqDiff, resL, resV, oneOrTup, Int.reduceEq, Int.reduceLT, Int.reduceLE, Int.reduceNeg, Int.reduceAdd, Int.reduceSub, Int.reduceMul, Int.reduceToNat, Nat.reduceAdd, noUnk, AV.cells, reduceCtorEq, Nat.reduceLeDiff, Cells.get, Nat.reduceMul, ↓bnd_assoc], by simp only [a9, ↓sxp, sxq, ↓reduceIte, Nat.reduceBEq, Nat.reduceLT, evP, evX, evR, blkOf, evA, storeA, Nat.reduceEqDiff, resL, resV, oneOrTup, Int.reduceEq, Int.reduceLT, Int.reduceLE, Int.reduceNeg, Int.reduceAdd, Int.reduceSub, Int.reduceMul, Int.reduceToNat, Nat.reduceAdd, noUnk, AV.cells, reduceCtorEq, Nat.reduceLeDiff, Cells.get, Nat.reduceMul, ↓bnd_assoc], dv, by rw [← hi]; exact h⟩
  | succ m ih =>
    intro i A H dv him a5 a9 a11 h
    have hlt : (i : Int) < ((atF L 6 9 : Nat) : Int) := by omega
    have hwr : IntKind.i64.wrap ((i : Int) + 1) = ((i + 1 : Nat) : Int) := by rw [w64 (by omega)]; simp
    have w2 : IntKind.i64.wrap (16 + (i : Int)) = ((16 + i : Nat) : Int) := by rw [w64 (by omega)]; omega
    have i32 : ((16 + i : Nat) : Int) < 32 := by omega
    have g5 := (h.toH.ord [2]).get
    have g5b := ((h.toH.bump 10).ord [2]).get
    have g9b := ((h.toH.bump 10).ord [1]).get
    have xi := cb_get (show 16 + i < L.length by omega)
    have hx7 : ∀ v : AV, ([a, b, c, d, e, f, g, v] : List AV)[7]? = some v := fun v => rfl
    have h1 := ((h.toH).bump1 10 6).lay (c := [.int .u8 (L.getD (16 + i) 0).toNat]) (t := 5)
    have hb6 := h1.get
    have h2 : XH _ ((L.drop 16).take i) dv (blk (H.next + 6) [.int .u8 (L.getD (16 + i) 0).toNat] 5 :: blk j9 [a, b, c, d, e, f, g, dv] 29 :: blk j5 (cb L) 22 :: Γ) := XH.ofH (h1.ord [1])
    have hsrc : srcA W (({ H with next := H.next + 10 } : Heap).lay (H.next + 6) (.cells (.lst [.int .u8 (L.getD (16 + i) 0).toNat]) 5 none)) 1 false (.sl (some ⟨.own (H.next + 6), 0⟩) 1 (.exact 1)) = some (1, [.int .u8 (L.getD (16 + i) 0).toNat]) := by
      simp only [srcA, blkOf, hb6]; rfl
    obtain ⟨v', H3, e3, h3⟩ := XH.app (W := W) (ps := [L.getD (16 + i) 0]) h2 hsrc (by simp) (by rw [List.length_take]; simp; omega)
    have hts : (L.drop 16).take i ++ [L.getD (16 + i) 0] = (L.drop 16).take (i + 1) := by
      rw [take_succ_b _ i (by rw [List.length_drop]; omega)]
      congr 2
      simp only [List.getD_eq_getElem?_getD, List.getElem?_drop]
    rw [hts] at h3
    obtain ⟨u1, u2, u3⟩ := ((RdLike.row (W := W) _ v') h3).one
    unfold AV.cells at u1
    unfold noUnk at u2
    apply Fin.ex3
    rw [run_loop]
    simp only [hlp, a5, a9, a11, nc32, ↓g5, ↓g5b, ↓g9b, x6, xi, hx7, conv_i64, r6, hlt, w2, i32, Int.natCast_nonneg, and_self, Int.toNat_natCast, ↓e3, ↓u1, ↓u2, ↓sxp, sxq, ↓reduceIte, Nat.reduceBEq, Nat.reduceLT, evP, evX, evR, blkOf, evA, storeA, Nat.reduceEqDiff, resL, resV, oneOrTup, Int.reduceEq, Int.reduceLT, Int.reduceLE, Int.reduceNeg, Int.reduceAdd, Int.reduceSub, Int.reduceMul, Int.reduceToNat, Nat.reduceAdd, noUnk, AV.cells, reduceCtorEq, Nat.reduceLeDiff, Cells.get, Nat.reduceMul, ↓bnd_assoc]
    refine Fin.write [a, b, c, d, e, f, g, v'] (h3.ord [2]) rfl (by simp) (by simp [u3]) fun H4 h4 => ?_
    simp only [a11, hwr, ↓sxp, sxq, ↓reduceIte, Nat.reduceBEq, Nat.reduceLT, evP, evX, evR, blkOf, evA, storeA, Nat.reduceEqDiff, resL, resV, oneOrTup, Int.reduceEq, Int.reduceLT, Int.reduceLE, Int.reduceNeg, Int.reduceAdd, Int.reduceSub, Int.reduceMul, Int.reduceToNat, Nat.reduceAdd, noUnk, AV.cells, reduceCtorEq, Nat.reduceLeDiff, Cells.get, Nat.reduceMul, ↓bnd_assoc]
    refine Fin.of3 (ih (i + 1) _ _ v' (by omega) (by simp only [a5, ↓sxp, sxq, ↓reduceIte, Nat.reduceBEq, Nat.reduceLT, evP, evX, evR, blkOf, evA, storeA, Nat.reduceEqDiff, resL, resV, oneOrTup, Int.reduceEq, Int.reduceLT, Int.reduceLE, Int.reduceNeg, Int.reduceAdd, Int.reduceSub, Int.reduceMul, Int.reduceToNat, Nat.reduceAdd, noUnk, AV.cells, reduceCtorEq, Nat.reduceLeDiff, Cells.get, Nat.reduceMul, ↓bnd_assoc]) (by simp only [a9, ↓sxp, sxq, ↓reduceIte, Nat.reduceBEq, Nat.reduceLT, evP, evX, evR, blkOf, evA, storeA, Nat.reduceEqDiff, resL, resV, oneOrTup, Int.reduceEq, Int.reduceLT, Int.reduceLE, Int.reduceNeg, Int.reduceAdd, Int.reduceSub, Int.reduceMul, Int.reduceToNat, Nat.reduceAdd, noUnk, AV.cells, reduceCtorEq, Nat.reduceLeDiff, Cells.get, Nat.reduceMul, ↓bnd_assoc]) (by simp only [↓sxp, sxq, ↓reduceIte, Nat.reduceBEq, Nat.reduceLT, evP, evX, evR, blkOf, evA, storeA, Nat.reduceEqDiff, resL, resV, oneOrTup, Int.reduceEq, Int.reduceLT, Int.reduceLE, Int.reduceNeg, Int.reduceAdd, Int.reduceSub, Int.reduceMul, Int.reduceToNat, Nat.reduceAdd, noUnk, AV.cells, reduceCtorEq, Nat.reduceLeDiff, Cells.get, Nat.reduceMul, ↓bnd_assoc]) (.inl ((h4.rm 2).ord [1]))) fun lv A' H' ⟨q1, q2, q3, q⟩ => ⟨q1, q2.trans (by simp only [↓sxp, sxq, ↓reduceIte, Nat.reduceBEq, Nat.reduceLT, evP, evX, evR, blkOf, evA, storeA, Nat.reduceEqDiff, resL, resV, oneOrTup, Int.reduceEq, Int.reduceLT, Int.reduceLE, Int.reduceNeg, Int.reduceAdd, Int.reduceSub, Int.reduceMul, Int.reduceToNat, Nat.reduceAdd, noUnk, AV.cells, reduceCtorEq, Nat.reduceLeDiff, Cells.get, Nat.reduceMul, ↓bnd_assoc]), q3.trans (by simp only [a9, ↓sxp, sxq, ↓reduceIte, Nat.reduceBEq, Nat.reduceLT, evP, evX, evR, blkOf, evA, storeA, Nat.reduceEqDiff, resL, resV, oneOrTup, Int.reduceEq, Int.reduceLT, Int.reduceLE, Int.reduceNeg, Int.reduceAdd, Int.reduceSub, Int.reduceMul, Int.reduceToNat, Nat.reduceAdd, noUnk, AV.cells, reduceCtorEq, Nat.reduceLeDiff, Cells.get, Nat.reduceMul, ↓bnd_assoc]), q⟩
theorem c_dcall (hE : EnvW E) {seed : List UInt8} {i : Nat} (hs : seed.length = 32) (hi : i ≤ 1024) (h : Holds H Γ) :
    ∃ dv H', go W E 10 [.agg (cb seed), .int .i64 (i : Int)] H = some (.agg (cfC (callF seed i) dv), H') ∧ ∃ R, RdLike W (callF seed i).data dv R ∧ Holds H' (R :: Γ) := by
  suffices hh : Fin (fun r : AV × Heap => ∃ dv, r.1 = .agg (cfC (callF seed i) dv) ∧ ∃ R, RdLike W (callF seed i).data dv R ∧ Holds r.2 (R :: Γ)) (go W E 10 [.agg (cb seed), .int .i64 (i : Int)] H) by
    obtain ⟨⟨r, H'⟩, e, dv, hr, q⟩ := hh
    simp only at hr
    subst hr
    exact ⟨dv, H', e, q⟩
  have hg8 : ∀ a b c d e f g h : AV, Cells.getN (.lst [a, b, c, d, e, f, g, h]) 0 8 = some [a, b, c, d, e, f, g, h] := fun _ _ _ _ _ _ _ _ => rfl
  have h2 := (h.push (c := cb seed) (t := 22)).push (c := c0) (t := 29)
  simp only [push_next] at h2
  have hgs := getN_cb hs
  rw [go_code hE.f10 (by simp [sf10])]
  generalize hcs : cb seed = cs at *
  by_cases h4 : i < 4
  · have h4' : (i : Int) < 4 := by omega
    have hcf : callF seed i = ⟨1, nameF 117 i, [], [], [], 0, 0, []⟩ := by unfold callF; rw [if_pos h4]
    have dn := c_named (W := W) hE 117 i (by omega)
    rw [hcf]
    simp only [sf10, h4', dn, ↓sxp, sxq, ↓reduceIte, Nat.reduceBEq, Nat.reduceLT, evP, evX, evR, blkOf, evA, storeA, Nat.reduceEqDiff, resL, resV, oneOrTup, Int.reduceEq, Int.reduceLT, Int.reduceLE, Int.reduceNeg, Int.reduceAdd, Int.reduceSub, Int.reduceMul, Int.reduceToNat, Nat.reduceAdd, noUnk, AV.cells, reduceCtorEq, Nat.reduceLeDiff, Cells.get, Nat.reduceMul, ↓bnd_assoc]
    refine Fin.write [.int .i64 1, .str (nameF 117 i), .str [], .str [], .str [], .int .i64 0, .int .i64 0, .sl none 0 (.exact 0)] h2 rfl (by simp) rfl fun Hy hy => ?_
    have gy := hy.get
    simp only [↓gy, ↓hg8, ↓sxp, sxq, ↓reduceIte, Nat.reduceBEq, Nat.reduceLT, evP, evX, evR, blkOf, evA, storeA, Nat.reduceEqDiff, resL, resV, oneOrTup, Int.reduceEq, Int.reduceLT, Int.reduceLE, Int.reduceNeg, Int.reduceAdd, Int.reduceSub, Int.reduceMul, Int.reduceToNat, Nat.reduceAdd, noUnk, AV.cells, reduceCtorEq, Nat.reduceLeDiff, Cells.get, Nat.reduceMul, ↓bnd_assoc]
    exact Fin.ret ⟨_, rfl, HP.emp, fun _ => Rd.nil, (hy.tail.tail).empty⟩
  · have h4' : ¬ (i : Int) < 4 := by omega
    have hcf : callF seed i = choF (lotF seed i) := by unfold callF; rw [if_neg h4]
    have g2 := (h2.ord [1]).get
    have hkl : ∀ A id, evA A id (.bsl 3 17 1 [.int .i64 0] [(0, 1, .c (.int .i64 2)), (1, 1, .c (.int .i64 8)), (2, 1, .c (.int .i64 8)), (3, 1, .c (.int .i64 8)), (4, 1, .c (.int .i64 5)), (5, 1, .c (.int .i64 5)), (6, 1, .c (.int .i64 6)), (7, 1, .c (.int .i64 7)), (8, 1, .c (.int .i64 9)), (9, 1, .c (.int .i64 9)), (10, 1, .c (.int .i64 10)), (11, 1, .c (.int .i64 12)), (12, 1, .c (.int .i64 13)), (13, 1, .c (.int .i64 11)), (14, 1, .c (.int .i64 3)), (15, 1, .c (.int .i64 4)), (16, 1, .c (.int .i64 14))]) = some (.cells (.lst knl) 3 none, .sl (some ⟨.own id, 0⟩) 17 (.exact 17)) := fun _ _ => by kernel_rfl
    rw [hcf]
    simp only [sf10, z32_eq, h4', ↓g2, ↓hgs, ↓hkl, ↓sxp, sxq, ↓reduceIte, Nat.reduceBEq, Nat.reduceLT, evP, evX, evR, blkOf, evA, storeA, Nat.reduceEqDiff, resL, resV, oneOrTup, Int.reduceEq, Int.reduceLT, Int.reduceLE, Int.reduceNeg, Int.reduceAdd, Int.reduceSub, Int.reduceMul, Int.reduceToNat, Nat.reduceAdd, noUnk, AV.cells, reduceCtorEq, Nat.reduceLeDiff, Cells.get, Nat.reduceMul, ↓bnd_assoc]
    subst hcs
    refine Fin.call (c_dlot hE hs hi h2) fun H3 h3 => ?_
    have hl := lotF_len seed i
    generalize lotF seed i = L at *
    have hc32 : (cb L).length = 32 := by rw [cb_len, hl]
    have h5 := h3.push (c := z32) (t := 22)
    simp only [hc32, ↓sxp, sxq, ↓reduceIte, Nat.reduceBEq, Nat.reduceLT, evP, evX, evR, blkOf, evA, storeA, Nat.reduceEqDiff, resL, resV, oneOrTup, Int.reduceEq, Int.reduceLT, Int.reduceLE, Int.reduceNeg, Int.reduceAdd, Int.reduceSub, Int.reduceMul, Int.reduceToNat, Nat.reduceAdd, noUnk, AV.cells, reduceCtorEq, Nat.reduceLeDiff, Cells.get, Nat.reduceMul, ↓bnd_assoc]
    generalize H.next = j2 at *
    generalize H3.next = j5 at *
    refine Fin.write (cb L) h5 (setN_all (by rw [hc32]; rfl)) (by rw [hc32]; exact Nat.le_refl _) (cb_one L) fun H6 h6 => ?_
    have h7 := h6.push (c := knl) (t := 3)
    have g7 := h7.get
    have g7b := (h7.ord [1]).get
    have r0_17 : bin .rem (.int .i64 ((L.getD 0 0).toNat : Int)) (.int .i64 17) = some (.int .i64 ((atF L 0 17 : Nat) : Int)) := i_rem (L.getD 0 0).toNat 17 (by omega)
    have r1_4 : bin .rem (.int .i64 ((L.getD 1 0).toNat : Int)) (.int .i64 4) = some (.int .i64 ((atF L 1 4 : Nat) : Int)) := i_rem (L.getD 1 0).toNat 4 (by omega)
    have r2_5 : bin .rem (.int .i64 ((L.getD 2 0).toNat : Int)) (.int .i64 5) = some (.int .i64 ((atF L 2 5 : Nat) : Int)) := i_rem (L.getD 2 0).toNat 5 (by omega)
    have r7_6 : bin .rem (.int .i64 ((L.getD 7 0).toNat : Int)) (.int .i64 6) = some (.int .i64 ((atF L 7 6 : Nat) : Int)) := i_rem (L.getD 7 0).toNat 6 (by omega)
    have r7_4 : bin .rem (.int .i64 ((L.getD 7 0).toNat : Int)) (.int .i64 4) = some (.int .i64 ((atF L 7 4 : Nat) : Int)) := i_rem (L.getD 7 0).toNat 4 (by omega)
    have r7_3 : bin .rem (.int .i64 ((L.getD 7 0).toNat : Int)) (.int .i64 3) = some (.int .i64 ((atF L 7 3 : Nat) : Int)) := i_rem (L.getD 7 0).toNat 3 (by omega)
    have r4_4 : bin .rem (.int .i64 ((L.getD 4 0).toNat : Int)) (.int .i64 4) = some (.int .i64 ((atF L 4 4 : Nat) : Int)) := i_rem (L.getD 4 0).toNat 4 (by omega)
    have r3_2 : bin .rem (.int .i64 ((L.getD 3 0).toNat : Int)) (.int .i64 2) = some (.int .i64 ((atF L 3 2 : Nat) : Int)) := i_rem (L.getD 3 0).toNat 2 (by omega)
    have r6_9 : bin .rem (.int .i64 ((L.getD 6 0).toNat : Int)) (.int .i64 9) = some (.int .i64 ((atF L 6 9 : Nat) : Int)) := i_rem (L.getD 6 0).toNat 9 (by omega)
    have r5_3 : bin .rem (.int .i64 ((L.getD 5 0).toNat : Int)) (.int .i64 3) = some (.int .i64 ((atF L 5 3 : Nat) : Int)) := i_rem (L.getD 5 0).toNat 3 (by omega)
    have x0 : (cb L)[0]? = some (.int .u8 (L.getD 0 0).toNat) := cb_get (show 0 < L.length by omega)
    have x1 : (cb L)[1]? = some (.int .u8 (L.getD 1 0).toNat) := cb_get (show 1 < L.length by omega)
    have x2 : (cb L)[2]? = some (.int .u8 (L.getD 2 0).toNat) := cb_get (show 2 < L.length by omega)
    have x3 : (cb L)[3]? = some (.int .u8 (L.getD 3 0).toNat) := cb_get (show 3 < L.length by omega)
    have x4 : (cb L)[4]? = some (.int .u8 (L.getD 4 0).toNat) := cb_get (show 4 < L.length by omega)
    have x5 : (cb L)[5]? = some (.int .u8 (L.getD 5 0).toNat) := cb_get (show 5 < L.length by omega)
    have x6 : (cb L)[6]? = some (.int .u8 (L.getD 6 0).toNat) := cb_get (show 6 < L.length by omega)
    have x7 : (cb L)[7]? = some (.int .u8 (L.getD 7 0).toNat) := cb_get (show 7 < L.length by omega)
    have m0_17 : atF L 0 17 < 17 := Nat.mod_lt _ (by omega)
    have m1_4 : atF L 1 4 < 4 := Nat.mod_lt _ (by omega)
    have m2_5 : atF L 2 5 < 5 := Nat.mod_lt _ (by omega)
    have m7_6 : atF L 7 6 < 6 := Nat.mod_lt _ (by omega)
    have m7_4 : atF L 7 4 < 4 := Nat.mod_lt _ (by omega)
    have m7_3 : atF L 7 3 < 3 := Nat.mod_lt _ (by omega)
    have m4_4 : atF L 4 4 < 4 := Nat.mod_lt _ (by omega)
    have m3_2 : atF L 3 2 < 2 := Nat.mod_lt _ (by omega)
    have m6_9 : atF L 6 9 < 9 := Nat.mod_lt _ (by omega)
    have m5_3 : atF L 5 3 < 3 := Nat.mod_lt _ (by omega)
    have d1_4 := c_named (W := W) hE 117 (atF L 1 4) (by omega)
    have d2_5 := c_named (W := W) hE 102 (atF L 2 5) (by omega)
    have d7_4 := c_named (W := W) hE 117 (atF L 7 4) (by omega)
    have d3_2 := c_named (W := W) hE 120 (atF L 3 2) (by omega)
    have i17 : ((atF L 0 17 : Nat) : Int) < 17 := by omega
    have n17 : ((17 : Nat) : Int) = 17 := rfl
    have hkx : knl[atF L 0 17]? = some (.int .i64 ((KND.getD (atF L 0 17) 0 : Nat) : Int)) := by
      unfold knl
      rw [List.getElem?_map, List.getElem?_eq_getElem (show atF L 0 17 < KND.length from m0_17), List.getD_eq_getElem?_getD, List.getElem?_eq_getElem (show atF L 0 17 < KND.length from m0_17)]; rfl
    have hkin := KND_in _ m0_17
    have h8 := h7.push (c := c0) (t := 29)
    simp only [push_next] at h8
    simp only [nc32, n17, ↓g7, ↓g7b, conv_i64, r0_17, r1_4, r2_5, r7_6, r7_4, r7_3, r4_4, r3_2, r6_9, r5_3, x0, x1, x2, x3, x4, x5, x6, x7, d1_4, d2_5, d7_4, d3_2, Int.toNat_natCast, Int.natCast_nonneg, and_self, i17, hkx, ↓sxp, sxq, ↓reduceIte, Nat.reduceBEq, Nat.reduceLT, evP, evX, evR, blkOf, evA, storeA, Nat.reduceEqDiff, resL, resV, oneOrTup, Int.reduceEq, Int.reduceLT, Int.reduceLE, Int.reduceNeg, Int.reduceAdd, Int.reduceSub, Int.reduceMul, Int.reduceToNat, Nat.reduceAdd, noUnk, AV.cells, reduceCtorEq, Nat.reduceLeDiff, Cells.get, Nat.reduceMul, ↓bnd_assoc]
    generalize H6.next = j6 at *
    generalize hk : KND.getD (atF L 0 17) 0 = k at *
    refine Fin.write [.int .i64 (k : Int), .str (nameF 117 (atF L 1 4)), .str [], .str [], .str [], .int .i64 0, .int .i64 0, .sl none 0 (.exact 0)] h8 rfl (by simp) rfl fun H9 h9 => ?_
    have g9 := h9.get
    have g9b := (h9.ord [2]).get
    have h10 := ((h9.ord [0, 2, 1]).rm 3).rm 3
    have n14 : ((14 : Nat) : Int) = 14 := rfl
    clear g9 g9b
    generalize j6 + 1 = j9 at *
    generalize j2 + 1 = j4 at *
    have g9 := h10.get
    have g9b := (h10.ord [2]).get
    by_cases k14 : k = 14
    · subst k14
      have w1 : IntKind.i64.wrap (((atF L 1 4 : Nat) : Int) + 1) = ((atF L 1 4 + 1 : Nat) : Int) := by rw [w64 (by omega)]; omega
      have w2 : IntKind.i64.wrap (((atF L 1 4 + 1 : Nat) : Int) + ((atF L 7 3 : Nat) : Int)) = ((atF L 1 4 + 1 + atF L 7 3 : Nat) : Int) := by rw [w64 (by omega)]; omega
      have w3 : bin .rem (.int .i64 ((atF L 1 4 + 1 + atF L 7 3 : Nat) : Int)) (.int .i64 4) = some (.int .i64 (((atF L 1 4 + 1 + atF L 7 3) % 4 : Nat) : Int)) := i_rem _ 4 (by omega)
      have dn := c_named (W := W) hE 117 ((atF L 1 4 + 1 + atF L 7 3) % 4) (by omega)
      have hcho : choF L = ⟨14, nameF 117 (atF L 1 4), [], [], nameF 117 ((atF L 1 4 + 1 + atF L 7 3) % 4), 0, 0, []⟩ := by unfold choF; rw [hk]; rfl
      generalize hz : (atF L 1 4 + 1 + atF L 7 3 : Nat) = z at *
      simp only [n14, nc32, ↓g9, ↓g9b, conv_i64, r0_17, r1_4, r2_5, r7_6, r7_4, r7_3, r4_4, r3_2, r6_9, r5_3, x0, x1, x2, x3, x4, x5, x6, x7, d1_4, d2_5, d7_4, d3_2, Int.toNat_natCast, Int.natCast_nonneg, and_self, w1, w2, w3, dn, ↓sxp, sxq, ↓reduceIte, Nat.reduceBEq, Nat.reduceLT, evP, evX, evR, blkOf, evA, storeA, Nat.reduceEqDiff, resL, resV, oneOrTup, Int.reduceEq, Int.reduceLT, Int.reduceLE, Int.reduceNeg, Int.reduceAdd, Int.reduceSub, Int.reduceMul, Int.reduceToNat, Nat.reduceAdd, noUnk, AV.cells, reduceCtorEq, Nat.reduceLeDiff, Cells.get, Nat.reduceMul, ↓bnd_assoc]
      refine Fin.write [.int .i64 14, .str (nameF 117 (atF L 1 4)), .str [], .str [], .str (nameF 117 (z % 4)), .int .i64 0, .int .i64 0, .sl none 0 (.exact 0)] h10 rfl (by simp) rfl fun H11 h11 => ?_
      have nk := n14
      have gz := h11.get
      simp only [↓gz, ↓hg8, nk, ↓sxp, sxq, ↓reduceIte, Nat.reduceBEq, Nat.reduceLT, evP, evX, evR, blkOf, evA, storeA, Nat.reduceEqDiff, resL, resV, oneOrTup, Int.reduceEq, Int.reduceLT, Int.reduceLE, Int.reduceNeg, Int.reduceAdd, Int.reduceSub, Int.reduceMul, Int.reduceToNat, Nat.reduceAdd, noUnk, AV.cells, reduceCtorEq, Nat.reduceLeDiff, Cells.get, Nat.reduceMul, ↓bnd_assoc]
      refine Fin.write [.int .i64 14, .str (nameF 117 (atF L 1 4)), .str [], .str [], .str (nameF 117 (z % 4)), .int .i64 0, .int .i64 0, .sl none 0 (.exact 0)] (h11.ord [1]) rfl (by simp) rfl fun Hy hy => ?_
      have gy := hy.get
      simp only [↓gy, ↓hg8, ↓sxp, sxq, ↓reduceIte, Nat.reduceBEq, Nat.reduceLT, evP, evX, evR, blkOf, evA, storeA, Nat.reduceEqDiff, resL, resV, oneOrTup, Int.reduceEq, Int.reduceLT, Int.reduceLE, Int.reduceNeg, Int.reduceAdd, Int.reduceSub, Int.reduceMul, Int.reduceToNat, Nat.reduceAdd, noUnk, AV.cells, reduceCtorEq, Nat.reduceLeDiff, Cells.get, Nat.reduceMul, ↓bnd_assoc]
      exact Fin.ret ⟨_, by rw [hcho]; rfl, HP.emp, by rw [hcho]; exact fun _ => Rd.nil, (hy.tail.tail.tail).empty⟩
    · have k14' : ¬ (k : Int) = 14 := by omega
      simp only [k14', nc32, ↓g9, ↓g9b, conv_i64, r0_17, r1_4, r2_5, r7_6, r7_4, r7_3, r4_4, r3_2, r6_9, r5_3, x0, x1, x2, x3, x4, x5, x6, x7, d1_4, d2_5, d7_4, d3_2, Int.toNat_natCast, Int.natCast_nonneg, and_self, ↓sxp, sxq, ↓reduceIte, Nat.reduceBEq, Nat.reduceLT, evP, evX, evR, blkOf, evA, storeA, Nat.reduceEqDiff, resL, resV, oneOrTup, Int.reduceEq, Int.reduceLT, Int.reduceLE, Int.reduceNeg, Int.reduceAdd, Int.reduceSub, Int.reduceMul, Int.reduceToNat, Nat.reduceAdd, noUnk, AV.cells, reduceCtorEq, Nat.reduceLeDiff, Cells.get, Nat.reduceMul, ↓bnd_assoc]
      refine Fin.write [.int .i64 (k : Int), .str (nameF 117 (atF L 1 4)), .str (nameF 102 (atF L 2 5)), .str [], .str [], .int .i64 0, .int .i64 0, .sl none 0 (.exact 0)] h10 rfl (by simp) rfl fun H11 h11 => ?_
      have g11 := h11.get
      have g11b := (h11.ord [2]).get
      simp only [List.mem_cons, List.not_mem_nil, or_false] at hkin
      rcases hkin with rfl | rfl | rfl | rfl | rfl | rfl | rfl | rfl | rfl | rfl | rfl | rfl | rfl
      · have nk : ((2 : Nat) : Int) = 2 := rfl
        have hcho : choF L = ⟨2, nameF 117 (atF L 1 4), nameF 102 (atF L 2 5), [], otherF (atF L 7 6) (nameF 102 (atF L 2 5)), 0, 0, []⟩ := by unfold choF; rw [hk]; rfl
        have g11c := (h11.bump 9).get
        have d76 := c_named (W := W) hE 102 (atF L 7 6) (by omega)
        by_cases h5 : atF L 7 6 < 5
        · have h5' : ((atF L 7 6 : Nat) : Int) < 5 := by omega
          by_cases hb : nameF 102 (atF L 7 6) = nameF 102 (atF L 2 5)
          · have e : (nameF 102 (atF L 7 6) == nameF 102 (atF L 2 5)) = true := by rw [hb]; exact beq_self_eq_true _
            have ho : otherF (atF L 7 6) (nameF 102 (atF L 2 5)) = [] := by unfold otherF; rw [if_neg (fun h => h.2 hb)]
            rw [ho] at hcho
            simp only [↓g11, nk, nc32, ↓g11b, ↓g11c, conv_i64, r0_17, r1_4, r2_5, r7_6, r7_4, r7_3, r4_4, r3_2, r6_9, r5_3, x0, x1, x2, x3, x4, x5, x6, x7, d1_4, d2_5, d7_4, d3_2, Int.toNat_natCast, Int.natCast_nonneg, and_self, h5', d76, s_neq, e, ↓hg8, ↓sxp, sxq, ↓reduceIte, Nat.reduceBEq, Nat.reduceLT, evP, evX, evR, blkOf, evA, storeA, Nat.reduceEqDiff, resL, resV, oneOrTup, Int.reduceEq, Int.reduceLT, Int.reduceLE, Int.reduceNeg, Int.reduceAdd, Int.reduceSub, Int.reduceMul, Int.reduceToNat, Nat.reduceAdd, noUnk, AV.cells, reduceCtorEq, Nat.reduceLeDiff, Cells.get, Nat.reduceMul, ↓bnd_assoc]
            have h12 := h11.bump 9
            refine Fin.write [.int .i64 2, .str (nameF 117 (atF L 1 4)), .str (nameF 102 (atF L 2 5)), .str [], .str [], .int .i64 0, .int .i64 0, .sl none 0 (.exact 0)] (h12.ord [1]) rfl (by simp) rfl fun Hy hy => ?_
            have gy := hy.get
            simp only [↓gy, ↓hg8, ↓sxp, sxq, ↓reduceIte, Nat.reduceBEq, Nat.reduceLT, evP, evX, evR, blkOf, evA, storeA, Nat.reduceEqDiff, resL, resV, oneOrTup, Int.reduceEq, Int.reduceLT, Int.reduceLE, Int.reduceNeg, Int.reduceAdd, Int.reduceSub, Int.reduceMul, Int.reduceToNat, Nat.reduceAdd, noUnk, AV.cells, reduceCtorEq, Nat.reduceLeDiff, Cells.get, Nat.reduceMul, ↓bnd_assoc]
            exact Fin.ret ⟨_, by rw [hcho]; rfl, HP.emp, by rw [hcho]; exact fun _ => Rd.nil, (hy.tail.tail.tail).empty⟩
          · have e : (nameF 102 (atF L 7 6) == nameF 102 (atF L 2 5)) = false := by simpa using hb
            have ho : otherF (atF L 7 6) (nameF 102 (atF L 2 5)) = nameF 102 (atF L 7 6) := by unfold otherF; rw [if_pos ⟨h5, hb⟩]
            rw [ho] at hcho
            simp only [↓g11, nk, nc32, ↓g11b, ↓g11c, conv_i64, r0_17, r1_4, r2_5, r7_6, r7_4, r7_3, r4_4, r3_2, r6_9, r5_3, x0, x1, x2, x3, x4, x5, x6, x7, d1_4, d2_5, d7_4, d3_2, Int.toNat_natCast, Int.natCast_nonneg, and_self, h5', d76, s_neq, e, ↓sxp, sxq, ↓reduceIte, Nat.reduceBEq, Nat.reduceLT, evP, evX, evR, blkOf, evA, storeA, Nat.reduceEqDiff, resL, resV, oneOrTup, Int.reduceEq, Int.reduceLT, Int.reduceLE, Int.reduceNeg, Int.reduceAdd, Int.reduceSub, Int.reduceMul, Int.reduceToNat, Nat.reduceAdd, noUnk, AV.cells, reduceCtorEq, Nat.reduceLeDiff, Cells.get, Nat.reduceMul, ↓bnd_assoc]
            refine Fin.write [.int .i64 2, .str (nameF 117 (atF L 1 4)), .str (nameF 102 (atF L 2 5)), .str [], .str (nameF 102 (atF L 7 6)), .int .i64 0, .int .i64 0, .sl none 0 (.exact 0)] (h11.bump 9) rfl (by simp) rfl fun H12 h12 => ?_
            have gz := h12.get
            simp only [↓gz, ↓hg8, nk, ↓sxp, sxq, ↓reduceIte, Nat.reduceBEq, Nat.reduceLT, evP, evX, evR, blkOf, evA, storeA, Nat.reduceEqDiff, resL, resV, oneOrTup, Int.reduceEq, Int.reduceLT, Int.reduceLE, Int.reduceNeg, Int.reduceAdd, Int.reduceSub, Int.reduceMul, Int.reduceToNat, Nat.reduceAdd, noUnk, AV.cells, reduceCtorEq, Nat.reduceLeDiff, Cells.get, Nat.reduceMul, ↓bnd_assoc]
            refine Fin.write [.int .i64 2, .str (nameF 117 (atF L 1 4)), .str (nameF 102 (atF L 2 5)), .str [], .str (nameF 102 (atF L 7 6)), .int .i64 0, .int .i64 0, .sl none 0 (.exact 0)] (h12.ord [1]) rfl (by simp) rfl fun Hy hy => ?_
            have gy := hy.get
            simp only [↓gy, ↓hg8, ↓sxp, sxq, ↓reduceIte, Nat.reduceBEq, Nat.reduceLT, evP, evX, evR, blkOf, evA, storeA, Nat.reduceEqDiff, resL, resV, oneOrTup, Int.reduceEq, Int.reduceLT, Int.reduceLE, Int.reduceNeg, Int.reduceAdd, Int.reduceSub, Int.reduceMul, Int.reduceToNat, Nat.reduceAdd, noUnk, AV.cells, reduceCtorEq, Nat.reduceLeDiff, Cells.get, Nat.reduceMul, ↓bnd_assoc]
            exact Fin.ret ⟨_, by rw [hcho]; rfl, HP.emp, by rw [hcho]; exact fun _ => Rd.nil, (hy.tail.tail.tail).empty⟩
        · have h5' : ¬ ((atF L 7 6 : Nat) : Int) < 5 := by omega
          have ho : otherF (atF L 7 6) (nameF 102 (atF L 2 5)) = [] := by unfold otherF; rw [if_neg (fun h => h5 h.1)]
          rw [ho] at hcho
          simp only [↓g11, nk, nc32, ↓g11b, ↓g11c, conv_i64, r0_17, r1_4, r2_5, r7_6, r7_4, r7_3, r4_4, r3_2, r6_9, r5_3, x0, x1, x2, x3, x4, x5, x6, x7, d1_4, d2_5, d7_4, d3_2, Int.toNat_natCast, Int.natCast_nonneg, and_self, h5', ↓hg8, ↓sxp, sxq, ↓reduceIte, Nat.reduceBEq, Nat.reduceLT, evP, evX, evR, blkOf, evA, storeA, Nat.reduceEqDiff, resL, resV, oneOrTup, Int.reduceEq, Int.reduceLT, Int.reduceLE, Int.reduceNeg, Int.reduceAdd, Int.reduceSub, Int.reduceMul, Int.reduceToNat, Nat.reduceAdd, noUnk, AV.cells, reduceCtorEq, Nat.reduceLeDiff, Cells.get, Nat.reduceMul, ↓bnd_assoc]
          have h12 := h11.bump 9
          refine Fin.write [.int .i64 2, .str (nameF 117 (atF L 1 4)), .str (nameF 102 (atF L 2 5)), .str [], .str [], .int .i64 0, .int .i64 0, .sl none 0 (.exact 0)] (h12.ord [1]) rfl (by simp) rfl fun Hy hy => ?_
          have gy := hy.get
          simp only [↓gy, ↓hg8, ↓sxp, sxq, ↓reduceIte, Nat.reduceBEq, Nat.reduceLT, evP, evX, evR, blkOf, evA, storeA, Nat.reduceEqDiff, resL, resV, oneOrTup, Int.reduceEq, Int.reduceLT, Int.reduceLE, Int.reduceNeg, Int.reduceAdd, Int.reduceSub, Int.reduceMul, Int.reduceToNat, Nat.reduceAdd, noUnk, AV.cells, reduceCtorEq, Nat.reduceLeDiff, Cells.get, Nat.reduceMul, ↓bnd_assoc]
          exact Fin.ret ⟨_, by rw [hcho]; rfl, HP.emp, by rw [hcho]; exact fun _ => Rd.nil, (hy.tail.tail.tail).empty⟩
      · have nk : ((3 : Nat) : Int) = 3 := rfl
        have hcho : choF L = ⟨3, nameF 117 (atF L 1 4), nameF 102 (atF L 2 5), [], otherF (atF L 7 6) (nameF 102 (atF L 2 5)), 0, 0, []⟩ := by unfold choF; rw [hk]; rfl
        have g11c := (h11.bump 9).get
        have d76 := c_named (W := W) hE 102 (atF L 7 6) (by omega)
        by_cases h5 : atF L 7 6 < 5
        · have h5' : ((atF L 7 6 : Nat) : Int) < 5 := by omega
          by_cases hb : nameF 102 (atF L 7 6) = nameF 102 (atF L 2 5)
          · have e : (nameF 102 (atF L 7 6) == nameF 102 (atF L 2 5)) = true := by rw [hb]; exact beq_self_eq_true _
            have ho : otherF (atF L 7 6) (nameF 102 (atF L 2 5)) = [] := by unfold otherF; rw [if_neg (fun h => h.2 hb)]
            rw [ho] at hcho
            simp only [↓g11, nk, nc32, ↓g11b, ↓g11c, conv_i64, r0_17, r1_4, r2_5, r7_6, r7_4, r7_3, r4_4, r3_2, r6_9, r5_3, x0, x1, x2, x3, x4, x5, x6, x7, d1_4, d2_5, d7_4, d3_2, Int.toNat_natCast, Int.natCast_nonneg, and_self, h5', d76, s_neq, e, ↓hg8, ↓sxp, sxq, ↓reduceIte, Nat.reduceBEq, Nat.reduceLT, evP, evX, evR, blkOf, evA, storeA, Nat.reduceEqDiff, resL, resV, oneOrTup, Int.reduceEq, Int.reduceLT, Int.reduceLE, Int.reduceNeg, Int.reduceAdd, Int.reduceSub, Int.reduceMul, Int.reduceToNat, Nat.reduceAdd, noUnk, AV.cells, reduceCtorEq, Nat.reduceLeDiff, Cells.get, Nat.reduceMul, ↓bnd_assoc]
            have h12 := h11.bump 9
            refine Fin.write [.int .i64 3, .str (nameF 117 (atF L 1 4)), .str (nameF 102 (atF L 2 5)), .str [], .str [], .int .i64 0, .int .i64 0, .sl none 0 (.exact 0)] (h12.ord [1]) rfl (by simp) rfl fun Hy hy => ?_
            have gy := hy.get
            simp only [↓gy, ↓hg8, ↓sxp, sxq, ↓reduceIte, Nat.reduceBEq, Nat.reduceLT, evP, evX, evR, blkOf, evA, storeA, Nat.reduceEqDiff, resL, resV, oneOrTup, Int.reduceEq, Int.reduceLT, Int.reduceLE, Int.reduceNeg, Int.reduceAdd, Int.reduceSub, Int.reduceMul, Int.reduceToNat, Nat.reduceAdd, noUnk, AV.cells, reduceCtorEq, Nat.reduceLeDiff, Cells.get, Nat.reduceMul, ↓bnd_assoc]
            exact Fin.ret ⟨_, by rw [hcho]; rfl, HP.emp, by rw [hcho]; exact fun _ => Rd.nil, (hy.tail.tail.tail).empty⟩
          · have e : (nameF 102 (atF L 7 6) == nameF 102 (atF L 2 5)) = false := by simpa using hb
            have ho : otherF (atF L 7 6) (nameF 102 (atF L 2 5)) = nameF 102 (atF L 7 6) := by unfold otherF; rw [if_pos ⟨h5, hb⟩]
            rw [ho] at hcho
            simp only [↓g11, nk, nc32, ↓g11b, ↓g11c, conv_i64, r0_17, r1_4, r2_5, r7_6, r7_4, r7_3, r4_4, r3_2, r6_9, r5_3, x0, x1, x2, x3, x4, x5, x6, x7, d1_4, d2_5, d7_4, d3_2, Int.toNat_natCast, Int.natCast_nonneg, and_self, h5', d76, s_neq, e, ↓sxp, sxq, ↓reduceIte, Nat.reduceBEq, Nat.reduceLT, evP, evX, evR, blkOf, evA, storeA, Nat.reduceEqDiff, resL, resV, oneOrTup, Int.reduceEq, Int.reduceLT, Int.reduceLE, Int.reduceNeg, Int.reduceAdd, Int.reduceSub, Int.reduceMul, Int.reduceToNat, Nat.reduceAdd, noUnk, AV.cells, reduceCtorEq, Nat.reduceLeDiff, Cells.get, Nat.reduceMul, ↓bnd_assoc]
            refine Fin.write [.int .i64 3, .str (nameF 117 (atF L 1 4)), .str (nameF 102 (atF L 2 5)), .str [], .str (nameF 102 (atF L 7 6)), .int .i64 0, .int .i64 0, .sl none 0 (.exact 0)] (h11.bump 9) rfl (by simp) rfl fun H12 h12 => ?_
            have gz := h12.get
            simp only [↓gz, ↓hg8, nk, ↓sxp, sxq, ↓reduceIte, Nat.reduceBEq, Nat.reduceLT, evP, evX, evR, blkOf, evA, storeA, Nat.reduceEqDiff, resL, resV, oneOrTup, Int.reduceEq, Int.reduceLT, Int.reduceLE, Int.reduceNeg, Int.reduceAdd, Int.reduceSub, Int.reduceMul, Int.reduceToNat, Nat.reduceAdd, noUnk, AV.cells, reduceCtorEq, Nat.reduceLeDiff, Cells.get, Nat.reduceMul, ↓bnd_assoc]
            refine Fin.write [.int .i64 3, .str (nameF 117 (atF L 1 4)), .str (nameF 102 (atF L 2 5)), .str [], .str (nameF 102 (atF L 7 6)), .int .i64 0, .int .i64 0, .sl none 0 (.exact 0)] (h12.ord [1]) rfl (by simp) rfl fun Hy hy => ?_
            have gy := hy.get
            simp only [↓gy, ↓hg8, ↓sxp, sxq, ↓reduceIte, Nat.reduceBEq, Nat.reduceLT, evP, evX, evR, blkOf, evA, storeA, Nat.reduceEqDiff, resL, resV, oneOrTup, Int.reduceEq, Int.reduceLT, Int.reduceLE, Int.reduceNeg, Int.reduceAdd, Int.reduceSub, Int.reduceMul, Int.reduceToNat, Nat.reduceAdd, noUnk, AV.cells, reduceCtorEq, Nat.reduceLeDiff, Cells.get, Nat.reduceMul, ↓bnd_assoc]
            exact Fin.ret ⟨_, by rw [hcho]; rfl, HP.emp, by rw [hcho]; exact fun _ => Rd.nil, (hy.tail.tail.tail).empty⟩
        · have h5' : ¬ ((atF L 7 6 : Nat) : Int) < 5 := by omega
          have ho : otherF (atF L 7 6) (nameF 102 (atF L 2 5)) = [] := by unfold otherF; rw [if_neg (fun h => h5 h.1)]
          rw [ho] at hcho
          simp only [↓g11, nk, nc32, ↓g11b, ↓g11c, conv_i64, r0_17, r1_4, r2_5, r7_6, r7_4, r7_3, r4_4, r3_2, r6_9, r5_3, x0, x1, x2, x3, x4, x5, x6, x7, d1_4, d2_5, d7_4, d3_2, Int.toNat_natCast, Int.natCast_nonneg, and_self, h5', ↓hg8, ↓sxp, sxq, ↓reduceIte, Nat.reduceBEq, Nat.reduceLT, evP, evX, evR, blkOf, evA, storeA, Nat.reduceEqDiff, resL, resV, oneOrTup, Int.reduceEq, Int.reduceLT, Int.reduceLE, Int.reduceNeg, Int.reduceAdd, Int.reduceSub, Int.reduceMul, Int.reduceToNat, Nat.reduceAdd, noUnk, AV.cells, reduceCtorEq, Nat.reduceLeDiff, Cells.get, Nat.reduceMul, ↓bnd_assoc]
          have h12 := h11.bump 9
          refine Fin.write [.int .i64 3, .str (nameF 117 (atF L 1 4)), .str (nameF 102 (atF L 2 5)), .str [], .str [], .int .i64 0, .int .i64 0, .sl none 0 (.exact 0)] (h12.ord [1]) rfl (by simp) rfl fun Hy hy => ?_
          have gy := hy.get
          simp only [↓gy, ↓hg8, ↓sxp, sxq, ↓reduceIte, Nat.reduceBEq, Nat.reduceLT, evP, evX, evR, blkOf, evA, storeA, Nat.reduceEqDiff, resL, resV, oneOrTup, Int.reduceEq, Int.reduceLT, Int.reduceLE, Int.reduceNeg, Int.reduceAdd, Int.reduceSub, Int.reduceMul, Int.reduceToNat, Nat.reduceAdd, noUnk, AV.cells, reduceCtorEq, Nat.reduceLeDiff, Cells.get, Nat.reduceMul, ↓bnd_assoc]
          exact Fin.ret ⟨_, by rw [hcho]; rfl, HP.emp, by rw [hcho]; exact fun _ => Rd.nil, (hy.tail.tail.tail).empty⟩
      · have nk : ((4 : Nat) : Int) = 4 := rfl
        have hcho : choF L = ⟨4, nameF 117 (atF L 1 4), nameF 102 (atF L 2 5), [], [], 0, 0, []⟩ := by unfold choF; rw [hk]; rfl
        simp only [↓g11, nk, nc32, ↓g11b, ↓hg8, ↓sxp, sxq, ↓reduceIte, Nat.reduceBEq, Nat.reduceLT, evP, evX, evR, blkOf, evA, storeA, Nat.reduceEqDiff, resL, resV, oneOrTup, Int.reduceEq, Int.reduceLT, Int.reduceLE, Int.reduceNeg, Int.reduceAdd, Int.reduceSub, Int.reduceMul, Int.reduceToNat, Nat.reduceAdd, noUnk, AV.cells, reduceCtorEq, Nat.reduceLeDiff, Cells.get, Nat.reduceMul, ↓bnd_assoc]
        refine Fin.write [.int .i64 4, .str (nameF 117 (atF L 1 4)), .str (nameF 102 (atF L 2 5)), .str [], .str [], .int .i64 0, .int .i64 0, .sl none 0 (.exact 0)] (h11.ord [1]) rfl (by simp) rfl fun Hy hy => ?_
        have gy := hy.get
        simp only [↓gy, ↓hg8, ↓sxp, sxq, ↓reduceIte, Nat.reduceBEq, Nat.reduceLT, evP, evX, evR, blkOf, evA, storeA, Nat.reduceEqDiff, resL, resV, oneOrTup, Int.reduceEq, Int.reduceLT, Int.reduceLE, Int.reduceNeg, Int.reduceAdd, Int.reduceSub, Int.reduceMul, Int.reduceToNat, Nat.reduceAdd, noUnk, AV.cells, reduceCtorEq, Nat.reduceLeDiff, Cells.get, Nat.reduceMul, ↓bnd_assoc]
        exact Fin.ret ⟨_, by rw [hcho]; rfl, HP.emp, by rw [hcho]; exact fun _ => Rd.nil, (hy.tail.tail.tail).empty⟩
      · have nk : ((5 : Nat) : Int) = 5 := rfl
        have hcho : choF L = ⟨5, nameF 117 (atF L 1 4), nameF 102 (atF L 2 5), [], nameF 117 (atF L 7 4), 1 + atF L 4 4, 0, []⟩ := by unfold choF; rw [hk]; rfl
        have w1 : IntKind.i64.wrap (1 + ((atF L 4 4 : Nat) : Int)) = ((1 + atF L 4 4 : Nat) : Int) := by rw [w64 (by omega)]; omega
        simp only [↓g11, nk, nc32, ↓g11b, conv_i64, r0_17, r1_4, r2_5, r7_6, r7_4, r7_3, r4_4, r3_2, r6_9, r5_3, x0, x1, x2, x3, x4, x5, x6, x7, d1_4, d2_5, d7_4, d3_2, Int.toNat_natCast, Int.natCast_nonneg, and_self, ↓sxp, sxq, ↓reduceIte, Nat.reduceBEq, Nat.reduceLT, evP, evX, evR, blkOf, evA, storeA, Nat.reduceEqDiff, resL, resV, oneOrTup, Int.reduceEq, Int.reduceLT, Int.reduceLE, Int.reduceNeg, Int.reduceAdd, Int.reduceSub, Int.reduceMul, Int.reduceToNat, Nat.reduceAdd, noUnk, AV.cells, reduceCtorEq, Nat.reduceLeDiff, Cells.get, Nat.reduceMul, ↓bnd_assoc]
        refine Fin.write [.int .i64 5, .str (nameF 117 (atF L 1 4)), .str (nameF 102 (atF L 2 5)), .str [], .str (nameF 117 (atF L 7 4)), .int .i64 0, .int .i64 0, .sl none 0 (.exact 0)] h11 rfl (by simp) rfl fun H12 h12 => ?_
        have g12 := h12.get
        have g12b := (h12.ord [2]).get
        simp only [↓g12, nk, nc32, ↓g12b, conv_i64, r0_17, r1_4, r2_5, r7_6, r7_4, r7_3, r4_4, r3_2, r6_9, r5_3, x0, x1, x2, x3, x4, x5, x6, x7, d1_4, d2_5, d7_4, d3_2, Int.toNat_natCast, Int.natCast_nonneg, and_self, w1, ↓sxp, sxq, ↓reduceIte, Nat.reduceBEq, Nat.reduceLT, evP, evX, evR, blkOf, evA, storeA, Nat.reduceEqDiff, resL, resV, oneOrTup, Int.reduceEq, Int.reduceLT, Int.reduceLE, Int.reduceNeg, Int.reduceAdd, Int.reduceSub, Int.reduceMul, Int.reduceToNat, Nat.reduceAdd, noUnk, AV.cells, reduceCtorEq, Nat.reduceLeDiff, Cells.get, Nat.reduceMul, ↓bnd_assoc]
        refine Fin.write [.int .i64 5, .str (nameF 117 (atF L 1 4)), .str (nameF 102 (atF L 2 5)), .str [], .str (nameF 117 (atF L 7 4)), .int .i64 ((1 + atF L 4 4 : Nat) : Int), .int .i64 0, .sl none 0 (.exact 0)] h12 rfl (by simp) rfl fun H13 h13 => ?_
        have gz := h13.get
        simp only [↓gz, ↓hg8, nk, ↓sxp, sxq, ↓reduceIte, Nat.reduceBEq, Nat.reduceLT, evP, evX, evR, blkOf, evA, storeA, Nat.reduceEqDiff, resL, resV, oneOrTup, Int.reduceEq, Int.reduceLT, Int.reduceLE, Int.reduceNeg, Int.reduceAdd, Int.reduceSub, Int.reduceMul, Int.reduceToNat, Nat.reduceAdd, noUnk, AV.cells, reduceCtorEq, Nat.reduceLeDiff, Cells.get, Nat.reduceMul, ↓bnd_assoc]
        refine Fin.write [.int .i64 5, .str (nameF 117 (atF L 1 4)), .str (nameF 102 (atF L 2 5)), .str [], .str (nameF 117 (atF L 7 4)), .int .i64 ((1 + atF L 4 4 : Nat) : Int), .int .i64 0, .sl none 0 (.exact 0)] (h13.ord [1]) rfl (by simp) rfl fun Hy hy => ?_
        have gy := hy.get
        simp only [↓gy, ↓hg8, ↓sxp, sxq, ↓reduceIte, Nat.reduceBEq, Nat.reduceLT, evP, evX, evR, blkOf, evA, storeA, Nat.reduceEqDiff, resL, resV, oneOrTup, Int.reduceEq, Int.reduceLT, Int.reduceLE, Int.reduceNeg, Int.reduceAdd, Int.reduceSub, Int.reduceMul, Int.reduceToNat, Nat.reduceAdd, noUnk, AV.cells, reduceCtorEq, Nat.reduceLeDiff, Cells.get, Nat.reduceMul, ↓bnd_assoc]
        exact Fin.ret ⟨_, by rw [hcho]; rfl, HP.emp, by rw [hcho]; exact fun _ => Rd.nil, (hy.tail.tail.tail).empty⟩
      · have nk : ((6 : Nat) : Int) = 6 := rfl
        have hcho : choF L = ⟨6, nameF 117 (atF L 1 4), nameF 102 (atF L 2 5), [], nameF 117 (atF L 7 4), 1 + atF L 4 4, 0, []⟩ := by unfold choF; rw [hk]; rfl
        have w1 : IntKind.i64.wrap (1 + ((atF L 4 4 : Nat) : Int)) = ((1 + atF L 4 4 : Nat) : Int) := by rw [w64 (by omega)]; omega
        simp only [↓g11, nk, nc32, ↓g11b, conv_i64, r0_17, r1_4, r2_5, r7_6, r7_4, r7_3, r4_4, r3_2, r6_9, r5_3, x0, x1, x2, x3, x4, x5, x6, x7, d1_4, d2_5, d7_4, d3_2, Int.toNat_natCast, Int.natCast_nonneg, and_self, ↓sxp, sxq, ↓reduceIte, Nat.reduceBEq, Nat.reduceLT, evP, evX, evR, blkOf, evA, storeA, Nat.reduceEqDiff, resL, resV, oneOrTup, Int.reduceEq, Int.reduceLT, Int.reduceLE, Int.reduceNeg, Int.reduceAdd, Int.reduceSub, Int.reduceMul, Int.reduceToNat, Nat.reduceAdd, noUnk, AV.cells, reduceCtorEq, Nat.reduceLeDiff, Cells.get, Nat.reduceMul, ↓bnd_assoc]
        refine Fin.write [.int .i64 6, .str (nameF 117 (atF L 1 4)), .str (nameF 102 (atF L 2 5)), .str [], .str (nameF 117 (atF L 7 4)), .int .i64 0, .int .i64 0, .sl none 0 (.exact 0)] h11 rfl (by simp) rfl fun H12 h12 => ?_
        have g12 := h12.get
        have g12b := (h12.ord [2]).get
        simp only [↓g12, nk, nc32, ↓g12b, conv_i64, r0_17, r1_4, r2_5, r7_6, r7_4, r7_3, r4_4, r3_2, r6_9, r5_3, x0, x1, x2, x3, x4, x5, x6, x7, d1_4, d2_5, d7_4, d3_2, Int.toNat_natCast, Int.natCast_nonneg, and_self, w1, ↓sxp, sxq, ↓reduceIte, Nat.reduceBEq, Nat.reduceLT, evP, evX, evR, blkOf, evA, storeA, Nat.reduceEqDiff, resL, resV, oneOrTup, Int.reduceEq, Int.reduceLT, Int.reduceLE, Int.reduceNeg, Int.reduceAdd, Int.reduceSub, Int.reduceMul, Int.reduceToNat, Nat.reduceAdd, noUnk, AV.cells, reduceCtorEq, Nat.reduceLeDiff, Cells.get, Nat.reduceMul, ↓bnd_assoc]
        refine Fin.write [.int .i64 6, .str (nameF 117 (atF L 1 4)), .str (nameF 102 (atF L 2 5)), .str [], .str (nameF 117 (atF L 7 4)), .int .i64 ((1 + atF L 4 4 : Nat) : Int), .int .i64 0, .sl none 0 (.exact 0)] h12 rfl (by simp) rfl fun H13 h13 => ?_
        have gz := h13.get
        simp only [↓gz, ↓hg8, nk, ↓sxp, sxq, ↓reduceIte, Nat.reduceBEq, Nat.reduceLT, evP, evX, evR, blkOf, evA, storeA, Nat.reduceEqDiff, resL, resV, oneOrTup, Int.reduceEq, Int.reduceLT, Int.reduceLE, Int.reduceNeg, Int.reduceAdd, Int.reduceSub, Int.reduceMul, Int.reduceToNat, Nat.reduceAdd, noUnk, AV.cells, reduceCtorEq, Nat.reduceLeDiff, Cells.get, Nat.reduceMul, ↓bnd_assoc]
        refine Fin.write [.int .i64 6, .str (nameF 117 (atF L 1 4)), .str (nameF 102 (atF L 2 5)), .str [], .str (nameF 117 (atF L 7 4)), .int .i64 ((1 + atF L 4 4 : Nat) : Int), .int .i64 0, .sl none 0 (.exact 0)] (h13.ord [1]) rfl (by simp) rfl fun Hy hy => ?_
        have gy := hy.get
        simp only [↓gy, ↓hg8, ↓sxp, sxq, ↓reduceIte, Nat.reduceBEq, Nat.reduceLT, evP, evX, evR, blkOf, evA, storeA, Nat.reduceEqDiff, resL, resV, oneOrTup, Int.reduceEq, Int.reduceLT, Int.reduceLE, Int.reduceNeg, Int.reduceAdd, Int.reduceSub, Int.reduceMul, Int.reduceToNat, Nat.reduceAdd, noUnk, AV.cells, reduceCtorEq, Nat.reduceLeDiff, Cells.get, Nat.reduceMul, ↓bnd_assoc]
        exact Fin.ret ⟨_, by rw [hcho]; rfl, HP.emp, by rw [hcho]; exact fun _ => Rd.nil, (hy.tail.tail.tail).empty⟩
      · have nk : ((7 : Nat) : Int) = 7 := rfl
        have hcho : choF L = ⟨7, nameF 117 (atF L 1 4), nameF 102 (atF L 2 5), [], nameF 117 (atF L 7 4), 0, 0, []⟩ := by unfold choF; rw [hk]; rfl
        simp only [↓g11, nk, nc32, ↓g11b, conv_i64, r0_17, r1_4, r2_5, r7_6, r7_4, r7_3, r4_4, r3_2, r6_9, r5_3, x0, x1, x2, x3, x4, x5, x6, x7, d1_4, d2_5, d7_4, d3_2, Int.toNat_natCast, Int.natCast_nonneg, and_self, ↓sxp, sxq, ↓reduceIte, Nat.reduceBEq, Nat.reduceLT, evP, evX, evR, blkOf, evA, storeA, Nat.reduceEqDiff, resL, resV, oneOrTup, Int.reduceEq, Int.reduceLT, Int.reduceLE, Int.reduceNeg, Int.reduceAdd, Int.reduceSub, Int.reduceMul, Int.reduceToNat, Nat.reduceAdd, noUnk, AV.cells, reduceCtorEq, Nat.reduceLeDiff, Cells.get, Nat.reduceMul, ↓bnd_assoc]
        refine Fin.write [.int .i64 7, .str (nameF 117 (atF L 1 4)), .str (nameF 102 (atF L 2 5)), .str [], .str (nameF 117 (atF L 7 4)), .int .i64 0, .int .i64 0, .sl none 0 (.exact 0)] h11 rfl (by simp) rfl fun H12 h12 => ?_
        have gz := h12.get
        simp only [↓gz, ↓hg8, nk, ↓sxp, sxq, ↓reduceIte, Nat.reduceBEq, Nat.reduceLT, evP, evX, evR, blkOf, evA, storeA, Nat.reduceEqDiff, resL, resV, oneOrTup, Int.reduceEq, Int.reduceLT, Int.reduceLE, Int.reduceNeg, Int.reduceAdd, Int.reduceSub, Int.reduceMul, Int.reduceToNat, Nat.reduceAdd, noUnk, AV.cells, reduceCtorEq, Nat.reduceLeDiff, Cells.get, Nat.reduceMul, ↓bnd_assoc]
        refine Fin.write [.int .i64 7, .str (nameF 117 (atF L 1 4)), .str (nameF 102 (atF L 2 5)), .str [], .str (nameF 117 (atF L 7 4)), .int .i64 0, .int .i64 0, .sl none 0 (.exact 0)] (h12.ord [1]) rfl (by simp) rfl fun Hy hy => ?_
        have gy := hy.get
        simp only [↓gy, ↓hg8, ↓sxp, sxq, ↓reduceIte, Nat.reduceBEq, Nat.reduceLT, evP, evX, evR, blkOf, evA, storeA, Nat.reduceEqDiff, resL, resV, oneOrTup, Int.reduceEq, Int.reduceLT, Int.reduceLE, Int.reduceNeg, Int.reduceAdd, Int.reduceSub, Int.reduceMul, Int.reduceToNat, Nat.reduceAdd, noUnk, AV.cells, reduceCtorEq, Nat.reduceLeDiff, Cells.get, Nat.reduceMul, ↓bnd_assoc]
        exact Fin.ret ⟨_, by rw [hcho]; rfl, HP.emp, by rw [hcho]; exact fun _ => Rd.nil, (hy.tail.tail.tail).empty⟩
      · have nk : ((8 : Nat) : Int) = 8 := rfl
        have hcho : choF L = ⟨8, nameF 117 (atF L 1 4), nameF 102 (atF L 2 5), nameF 120 (atF L 3 2), [], 0, 0, (L.drop 16).take (atF L 6 9)⟩ := by unfold choF; rw [hk]; rfl
        simp only [↓g11, nk, nc32, ↓g11b, conv_i64, r0_17, r1_4, r2_5, r7_6, r7_4, r7_3, r4_4, r3_2, r6_9, r5_3, x0, x1, x2, x3, x4, x5, x6, x7, d1_4, d2_5, d7_4, d3_2, Int.toNat_natCast, Int.natCast_nonneg, and_self, ↓sxp, sxq, ↓reduceIte, Nat.reduceBEq, Nat.reduceLT, evP, evX, evR, blkOf, evA, storeA, Nat.reduceEqDiff, resL, resV, oneOrTup, Int.reduceEq, Int.reduceLT, Int.reduceLE, Int.reduceNeg, Int.reduceAdd, Int.reduceSub, Int.reduceMul, Int.reduceToNat, Nat.reduceAdd, noUnk, AV.cells, reduceCtorEq, Nat.reduceLeDiff, Cells.get, Nat.reduceMul, ↓bnd_assoc]
        refine Fin.write [.int .i64 8, .str (nameF 117 (atF L 1 4)), .str (nameF 102 (atF L 2 5)), .str (nameF 120 (atF L 3 2)), .str [], .int .i64 0, .int .i64 0, .sl none 0 (.exact 0)] h11 rfl (by simp) rfl fun H12 h12 => ?_
        refine Fin.loop (cd_loop (Γ := blk j4 c0 29 :: Γ) (j9 := j9) (j5 := j5) hl (atF L 6 9) 0 _ _ (.sl none 0 (.exact 0)) (by omega) (by simp only [↓sxp, sxq, ↓reduceIte, Nat.reduceBEq, Nat.reduceLT, evP, evX, evR, blkOf, evA, storeA, Nat.reduceEqDiff, resL, resV, oneOrTup, Int.reduceEq, Int.reduceLT, Int.reduceLE, Int.reduceNeg, Int.reduceAdd, Int.reduceSub, Int.reduceMul, Int.reduceToNat, Nat.reduceAdd, noUnk, AV.cells, reduceCtorEq, Nat.reduceLeDiff, Cells.get, Nat.reduceMul, ↓bnd_assoc]) (by simp only [↓sxp, sxq, ↓reduceIte, Nat.reduceBEq, Nat.reduceLT, evP, evX, evR, blkOf, evA, storeA, Nat.reduceEqDiff, resL, resV, oneOrTup, Int.reduceEq, Int.reduceLT, Int.reduceLE, Int.reduceNeg, Int.reduceAdd, Int.reduceSub, Int.reduceMul, Int.reduceToNat, Nat.reduceAdd, noUnk, AV.cells, reduceCtorEq, Nat.reduceLeDiff, Cells.get, Nat.reduceMul, ↓bnd_assoc]) (by simp only [↓sxp, sxq, ↓reduceIte, Nat.reduceBEq, Nat.reduceLT, evP, evX, evR, blkOf, evA, storeA, Nat.reduceEqDiff, resL, resV, oneOrTup, Int.reduceEq, Int.reduceLT, Int.reduceLE, Int.reduceNeg, Int.reduceAdd, Int.reduceSub, Int.reduceMul, Int.reduceToNat, Nat.reduceAdd, noUnk, AV.cells, reduceCtorEq, Nat.reduceLeDiff, Cells.get, Nat.reduceMul, ↓bnd_assoc]; rfl) (.inl ((h12.ord [0, 1]).row_nil))) fun lv A H13 ⟨e1, b4, b9, dv, h13⟩ => ?_
        subst e1
        have b4' : getX A 4 = .ptr (some ⟨.own j4, 0⟩) := b4.trans (by simp only [↓sxp, sxq, ↓reduceIte, Nat.reduceBEq, Nat.reduceLT, evP, evX, evR, blkOf, evA, storeA, Nat.reduceEqDiff, resL, resV, oneOrTup, Int.reduceEq, Int.reduceLT, Int.reduceLE, Int.reduceNeg, Int.reduceAdd, Int.reduceSub, Int.reduceMul, Int.reduceToNat, Nat.reduceAdd, noUnk, AV.cells, reduceCtorEq, Nat.reduceLeDiff, Cells.get, Nat.reduceMul, ↓bnd_assoc])
        have b9' : getX A 9 = .ptr (some ⟨.own j9, 0⟩) := b9.trans (by simp only [↓sxp, sxq, ↓reduceIte, Nat.reduceBEq, Nat.reduceLT, evP, evX, evR, blkOf, evA, storeA, Nat.reduceEqDiff, resL, resV, oneOrTup, Int.reduceEq, Int.reduceLT, Int.reduceLE, Int.reduceNeg, Int.reduceAdd, Int.reduceSub, Int.reduceMul, Int.reduceToNat, Nat.reduceAdd, noUnk, AV.cells, reduceCtorEq, Nat.reduceLeDiff, Cells.get, Nat.reduceMul, ↓bnd_assoc])
        have h14 := h13.toH
        obtain ⟨u1, u2, u3⟩ := (RdLike.xh (W := W) _ dv h14).one
        have gz := (h14.ord [1]).get
        simp only [b4', b9', ↓gz, ↓hg8, ↓sxp, sxq, ↓reduceIte, Nat.reduceBEq, Nat.reduceLT, evP, evX, evR, blkOf, evA, storeA, Nat.reduceEqDiff, resL, resV, oneOrTup, Int.reduceEq, Int.reduceLT, Int.reduceLE, Int.reduceNeg, Int.reduceAdd, Int.reduceSub, Int.reduceMul, Int.reduceToNat, Nat.reduceAdd, noUnk, AV.cells, reduceCtorEq, Nat.reduceLeDiff, Cells.get, Nat.reduceMul, ↓bnd_assoc]
        refine Fin.write [.int .i64 8, .str (nameF 117 (atF L 1 4)), .str (nameF 102 (atF L 2 5)), .str (nameF 120 (atF L 3 2)), .str [], .int .i64 0, .int .i64 0, dv] (h14.ord [3]) rfl (by simp) (by simp only [List.all_cons, List.all_nil, u3]; rfl) fun Hy hy => ?_
        have gy := hy.get
        simp only [b4', ↓gy, ↓hg8, ↓sxp, sxq, ↓reduceIte, Nat.reduceBEq, Nat.reduceLT, evP, evX, evR, blkOf, evA, storeA, Nat.reduceEqDiff, resL, resV, oneOrTup, Int.reduceEq, Int.reduceLT, Int.reduceLE, Int.reduceNeg, Int.reduceAdd, Int.reduceSub, Int.reduceMul, Int.reduceToNat, Nat.reduceAdd, noUnk, AV.cells, reduceCtorEq, Nat.reduceLeDiff, Cells.get, Nat.reduceMul, ↓bnd_assoc]
        exact Fin.ret ⟨_, by rw [hcho]; rfl, HP.xh ((L.drop 16).take (atF L 6 9)) dv, by rw [hcho]; exact RdLike.xh _ dv, ((hy.tail).rm 1).rm 1⟩
      · have nk : ((9 : Nat) : Int) = 9 := rfl
        have hcho : choF L = ⟨9, nameF 117 (atF L 1 4), nameF 102 (atF L 2 5), nameF 120 (atF L 3 2), [], 0, atF L 5 3, []⟩ := by unfold choF; rw [hk]; rfl
        simp only [↓g11, nk, nc32, ↓g11b, conv_i64, r0_17, r1_4, r2_5, r7_6, r7_4, r7_3, r4_4, r3_2, r6_9, r5_3, x0, x1, x2, x3, x4, x5, x6, x7, d1_4, d2_5, d7_4, d3_2, Int.toNat_natCast, Int.natCast_nonneg, and_self, ↓sxp, sxq, ↓reduceIte, Nat.reduceBEq, Nat.reduceLT, evP, evX, evR, blkOf, evA, storeA, Nat.reduceEqDiff, resL, resV, oneOrTup, Int.reduceEq, Int.reduceLT, Int.reduceLE, Int.reduceNeg, Int.reduceAdd, Int.reduceSub, Int.reduceMul, Int.reduceToNat, Nat.reduceAdd, noUnk, AV.cells, reduceCtorEq, Nat.reduceLeDiff, Cells.get, Nat.reduceMul, ↓bnd_assoc]
        refine Fin.write [.int .i64 9, .str (nameF 117 (atF L 1 4)), .str (nameF 102 (atF L 2 5)), .str (nameF 120 (atF L 3 2)), .str [], .int .i64 0, .int .i64 0, .sl none 0 (.exact 0)] h11 rfl (by simp) rfl fun H12 h12 => ?_
        have g12 := h12.get
        have g12b := (h12.ord [2]).get
        simp only [↓g12, nk, nc32, ↓g12b, conv_i64, r0_17, r1_4, r2_5, r7_6, r7_4, r7_3, r4_4, r3_2, r6_9, r5_3, x0, x1, x2, x3, x4, x5, x6, x7, d1_4, d2_5, d7_4, d3_2, Int.toNat_natCast, Int.natCast_nonneg, and_self, ↓sxp, sxq, ↓reduceIte, Nat.reduceBEq, Nat.reduceLT, evP, evX, evR, blkOf, evA, storeA, Nat.reduceEqDiff, resL, resV, oneOrTup, Int.reduceEq, Int.reduceLT, Int.reduceLE, Int.reduceNeg, Int.reduceAdd, Int.reduceSub, Int.reduceMul, Int.reduceToNat, Nat.reduceAdd, noUnk, AV.cells, reduceCtorEq, Nat.reduceLeDiff, Cells.get, Nat.reduceMul, ↓bnd_assoc]
        refine Fin.write [.int .i64 9, .str (nameF 117 (atF L 1 4)), .str (nameF 102 (atF L 2 5)), .str (nameF 120 (atF L 3 2)), .str [], .int .i64 0, .int .i64 ((atF L 5 3 : Nat) : Int), .sl none 0 (.exact 0)] h12 rfl (by simp) rfl fun H13 h13 => ?_
        have gz := h13.get
        simp only [↓gz, ↓hg8, nk, ↓sxp, sxq, ↓reduceIte, Nat.reduceBEq, Nat.reduceLT, evP, evX, evR, blkOf, evA, storeA, Nat.reduceEqDiff, resL, resV, oneOrTup, Int.reduceEq, Int.reduceLT, Int.reduceLE, Int.reduceNeg, Int.reduceAdd, Int.reduceSub, Int.reduceMul, Int.reduceToNat, Nat.reduceAdd, noUnk, AV.cells, reduceCtorEq, Nat.reduceLeDiff, Cells.get, Nat.reduceMul, ↓bnd_assoc]
        refine Fin.write [.int .i64 9, .str (nameF 117 (atF L 1 4)), .str (nameF 102 (atF L 2 5)), .str (nameF 120 (atF L 3 2)), .str [], .int .i64 0, .int .i64 ((atF L 5 3 : Nat) : Int), .sl none 0 (.exact 0)] (h13.ord [1]) rfl (by simp) rfl fun Hy hy => ?_
        have gy := hy.get
        simp only [↓gy, ↓hg8, ↓sxp, sxq, ↓reduceIte, Nat.reduceBEq, Nat.reduceLT, evP, evX, evR, blkOf, evA, storeA, Nat.reduceEqDiff, resL, resV, oneOrTup, Int.reduceEq, Int.reduceLT, Int.reduceLE, Int.reduceNeg, Int.reduceAdd, Int.reduceSub, Int.reduceMul, Int.reduceToNat, Nat.reduceAdd, noUnk, AV.cells, reduceCtorEq, Nat.reduceLeDiff, Cells.get, Nat.reduceMul, ↓bnd_assoc]
        exact Fin.ret ⟨_, by rw [hcho]; rfl, HP.emp, by rw [hcho]; exact fun _ => Rd.nil, (hy.tail.tail.tail).empty⟩
      · have nk : ((10 : Nat) : Int) = 10 := rfl
        have hcho : choF L = ⟨10, nameF 117 (atF L 1 4), nameF 102 (atF L 2 5), [], [], 0, 0, []⟩ := by unfold choF; rw [hk]; rfl
        simp only [↓g11, nk, nc32, ↓g11b, ↓hg8, ↓sxp, sxq, ↓reduceIte, Nat.reduceBEq, Nat.reduceLT, evP, evX, evR, blkOf, evA, storeA, Nat.reduceEqDiff, resL, resV, oneOrTup, Int.reduceEq, Int.reduceLT, Int.reduceLE, Int.reduceNeg, Int.reduceAdd, Int.reduceSub, Int.reduceMul, Int.reduceToNat, Nat.reduceAdd, noUnk, AV.cells, reduceCtorEq, Nat.reduceLeDiff, Cells.get, Nat.reduceMul, ↓bnd_assoc]
        refine Fin.write [.int .i64 10, .str (nameF 117 (atF L 1 4)), .str (nameF 102 (atF L 2 5)), .str [], .str [], .int .i64 0, .int .i64 0, .sl none 0 (.exact 0)] (h11.ord [1]) rfl (by simp) rfl fun Hy hy => ?_
        have gy := hy.get
        simp only [↓gy, ↓hg8, ↓sxp, sxq, ↓reduceIte, Nat.reduceBEq, Nat.reduceLT, evP, evX, evR, blkOf, evA, storeA, Nat.reduceEqDiff, resL, resV, oneOrTup, Int.reduceEq, Int.reduceLT, Int.reduceLE, Int.reduceNeg, Int.reduceAdd, Int.reduceSub, Int.reduceMul, Int.reduceToNat, Nat.reduceAdd, noUnk, AV.cells, reduceCtorEq, Nat.reduceLeDiff, Cells.get, Nat.reduceMul, ↓bnd_assoc]
        exact Fin.ret ⟨_, by rw [hcho]; rfl, HP.emp, by rw [hcho]; exact fun _ => Rd.nil, (hy.tail.tail.tail).empty⟩
      · have nk : ((11 : Nat) : Int) = 11 := rfl
        have hcho : choF L = ⟨11, nameF 117 (atF L 1 4), nameF 102 (atF L 2 5), nameF 120 (atF L 3 2), [], 0, 0, []⟩ := by unfold choF; rw [hk]; rfl
        simp only [↓g11, nk, nc32, ↓g11b, conv_i64, r0_17, r1_4, r2_5, r7_6, r7_4, r7_3, r4_4, r3_2, r6_9, r5_3, x0, x1, x2, x3, x4, x5, x6, x7, d1_4, d2_5, d7_4, d3_2, Int.toNat_natCast, Int.natCast_nonneg, and_self, ↓sxp, sxq, ↓reduceIte, Nat.reduceBEq, Nat.reduceLT, evP, evX, evR, blkOf, evA, storeA, Nat.reduceEqDiff, resL, resV, oneOrTup, Int.reduceEq, Int.reduceLT, Int.reduceLE, Int.reduceNeg, Int.reduceAdd, Int.reduceSub, Int.reduceMul, Int.reduceToNat, Nat.reduceAdd, noUnk, AV.cells, reduceCtorEq, Nat.reduceLeDiff, Cells.get, Nat.reduceMul, ↓bnd_assoc]
        refine Fin.write [.int .i64 11, .str (nameF 117 (atF L 1 4)), .str (nameF 102 (atF L 2 5)), .str (nameF 120 (atF L 3 2)), .str [], .int .i64 0, .int .i64 0, .sl none 0 (.exact 0)] h11 rfl (by simp) rfl fun H12 h12 => ?_
        have gz := h12.get
        simp only [↓gz, ↓hg8, nk, ↓sxp, sxq, ↓reduceIte, Nat.reduceBEq, Nat.reduceLT, evP, evX, evR, blkOf, evA, storeA, Nat.reduceEqDiff, resL, resV, oneOrTup, Int.reduceEq, Int.reduceLT, Int.reduceLE, Int.reduceNeg, Int.reduceAdd, Int.reduceSub, Int.reduceMul, Int.reduceToNat, Nat.reduceAdd, noUnk, AV.cells, reduceCtorEq, Nat.reduceLeDiff, Cells.get, Nat.reduceMul, ↓bnd_assoc]
        refine Fin.write [.int .i64 11, .str (nameF 117 (atF L 1 4)), .str (nameF 102 (atF L 2 5)), .str (nameF 120 (atF L 3 2)), .str [], .int .i64 0, .int .i64 0, .sl none 0 (.exact 0)] (h12.ord [1]) rfl (by simp) rfl fun Hy hy => ?_
        have gy := hy.get
        simp only [↓gy, ↓hg8, ↓sxp, sxq, ↓reduceIte, Nat.reduceBEq, Nat.reduceLT, evP, evX, evR, blkOf, evA, storeA, Nat.reduceEqDiff, resL, resV, oneOrTup, Int.reduceEq, Int.reduceLT, Int.reduceLE, Int.reduceNeg, Int.reduceAdd, Int.reduceSub, Int.reduceMul, Int.reduceToNat, Nat.reduceAdd, noUnk, AV.cells, reduceCtorEq, Nat.reduceLeDiff, Cells.get, Nat.reduceMul, ↓bnd_assoc]
        exact Fin.ret ⟨_, by rw [hcho]; rfl, HP.emp, by rw [hcho]; exact fun _ => Rd.nil, (hy.tail.tail.tail).empty⟩
      · have nk : ((12 : Nat) : Int) = 12 := rfl
        have hcho : choF L = ⟨12, nameF 117 (atF L 1 4), nameF 102 (atF L 2 5), nameF 120 (atF L 3 2), [], 0, 0, []⟩ := by unfold choF; rw [hk]; rfl
        simp only [↓g11, nk, nc32, ↓g11b, conv_i64, r0_17, r1_4, r2_5, r7_6, r7_4, r7_3, r4_4, r3_2, r6_9, r5_3, x0, x1, x2, x3, x4, x5, x6, x7, d1_4, d2_5, d7_4, d3_2, Int.toNat_natCast, Int.natCast_nonneg, and_self, ↓sxp, sxq, ↓reduceIte, Nat.reduceBEq, Nat.reduceLT, evP, evX, evR, blkOf, evA, storeA, Nat.reduceEqDiff, resL, resV, oneOrTup, Int.reduceEq, Int.reduceLT, Int.reduceLE, Int.reduceNeg, Int.reduceAdd, Int.reduceSub, Int.reduceMul, Int.reduceToNat, Nat.reduceAdd, noUnk, AV.cells, reduceCtorEq, Nat.reduceLeDiff, Cells.get, Nat.reduceMul, ↓bnd_assoc]
        refine Fin.write [.int .i64 12, .str (nameF 117 (atF L 1 4)), .str (nameF 102 (atF L 2 5)), .str (nameF 120 (atF L 3 2)), .str [], .int .i64 0, .int .i64 0, .sl none 0 (.exact 0)] h11 rfl (by simp) rfl fun H12 h12 => ?_
        have gz := h12.get
        simp only [↓gz, ↓hg8, nk, ↓sxp, sxq, ↓reduceIte, Nat.reduceBEq, Nat.reduceLT, evP, evX, evR, blkOf, evA, storeA, Nat.reduceEqDiff, resL, resV, oneOrTup, Int.reduceEq, Int.reduceLT, Int.reduceLE, Int.reduceNeg, Int.reduceAdd, Int.reduceSub, Int.reduceMul, Int.reduceToNat, Nat.reduceAdd, noUnk, AV.cells, reduceCtorEq, Nat.reduceLeDiff, Cells.get, Nat.reduceMul, ↓bnd_assoc]
        refine Fin.write [.int .i64 12, .str (nameF 117 (atF L 1 4)), .str (nameF 102 (atF L 2 5)), .str (nameF 120 (atF L 3 2)), .str [], .int .i64 0, .int .i64 0, .sl none 0 (.exact 0)] (h12.ord [1]) rfl (by simp) rfl fun Hy hy => ?_
        have gy := hy.get
        simp only [↓gy, ↓hg8, ↓sxp, sxq, ↓reduceIte, Nat.reduceBEq, Nat.reduceLT, evP, evX, evR, blkOf, evA, storeA, Nat.reduceEqDiff, resL, resV, oneOrTup, Int.reduceEq, Int.reduceLT, Int.reduceLE, Int.reduceNeg, Int.reduceAdd, Int.reduceSub, Int.reduceMul, Int.reduceToNat, Nat.reduceAdd, noUnk, AV.cells, reduceCtorEq, Nat.reduceLeDiff, Cells.get, Nat.reduceMul, ↓bnd_assoc]
        exact Fin.ret ⟨_, by rw [hcho]; rfl, HP.emp, by rw [hcho]; exact fun _ => Rd.nil, (hy.tail.tail.tail).empty⟩
      · have nk : ((13 : Nat) : Int) = 13 := rfl
        have hcho : choF L = ⟨13, nameF 117 (atF L 1 4), nameF 102 (atF L 2 5), [], [], 0, 0, []⟩ := by unfold choF; rw [hk]; rfl
        simp only [↓g11, nk, nc32, ↓g11b, ↓hg8, ↓sxp, sxq, ↓reduceIte, Nat.reduceBEq, Nat.reduceLT, evP, evX, evR, blkOf, evA, storeA, Nat.reduceEqDiff, resL, resV, oneOrTup, Int.reduceEq, Int.reduceLT, Int.reduceLE, Int.reduceNeg, Int.reduceAdd, Int.reduceSub, Int.reduceMul, Int.reduceToNat, Nat.reduceAdd, noUnk, AV.cells, reduceCtorEq, Nat.reduceLeDiff, Cells.get, Nat.reduceMul, ↓bnd_assoc]
        refine Fin.write [.int .i64 13, .str (nameF 117 (atF L 1 4)), .str (nameF 102 (atF L 2 5)), .str [], .str [], .int .i64 0, .int .i64 0, .sl none 0 (.exact 0)] (h11.ord [1]) rfl (by simp) rfl fun Hy hy => ?_
        have gy := hy.get
        simp only [↓gy, ↓hg8, ↓sxp, sxq, ↓reduceIte, Nat.reduceBEq, Nat.reduceLT, evP, evX, evR, blkOf, evA, storeA, Nat.reduceEqDiff, resL, resV, oneOrTup, Int.reduceEq, Int.reduceLT, Int.reduceLE, Int.reduceNeg, Int.reduceAdd, Int.reduceSub, Int.reduceMul, Int.reduceToNat, Nat.reduceAdd, noUnk, AV.cells, reduceCtorEq, Nat.reduceLeDiff, Cells.get, Nat.reduceMul, ↓bnd_assoc]
        exact Fin.ret ⟨_, by rw [hcho]; rfl, HP.emp, by rw [hcho]; exact fun _ => Rd.nil, (hy.tail.tail.tail).empty⟩
      · exact absurd rfl k14
end
end Go.Proofs.YtjfnhdiimibmiaaDoor.Sx

/- Two calls are one. -/
namespace Go.Proofs.YtjfnhdiimibmiaaDoor.Sx
open HP
section
variable {W : World} {E : Env} {H : Heap} {Γ : List HP}
theorem same_loop {L : List UInt8} {a b : AV} {R1 R2 : HP} (h1 : RdLike W L a R1) (h2 : RdLike W L b R2) (hl : L.length < 65536) {df : List Nat} : ∀ (m i : Nat) (A : Tm) (H : Heap), i + m = L.length → getX A 0 = a → getX A 1 = b → getX A 5 = .int .i64 i → Holds H (R1 :: R2 :: Γ) →
    ∃ lv A' H', run W E (.loop lp21_0) ⟨A, df, none⟩ H = some (lv, ⟨A', df, none⟩, H') ∧ (lv = .exit 0 ∧ Holds H' (R1 :: R2 :: Γ)) := by
  have hlp : ∀ f H, run W E lp21_0 f H = run W E lp21_0 f H := fun _ _ => rfl
  conv at hlp => enter [f, H, 2]; unfold lp21_0
  intro m
  induction m with
  | zero =>
    intro i A H him a0 a1 a5 h
    have : i = L.length := by omega
    subst this
    have hlen := (h1 h).len
    have hlt : ¬ (L.length : Int) < L.length := by omega
    rw [run_loop]
    simp only [hlp, a0, a5, hlen, hlt, ↓sxp, sxq, ↓reduceIte, Nat.reduceBEq, Nat.reduceLT, evP, evX, evR, blkOf, evA, storeA, Nat.reduceEqDiff, resL, resV, oneOrTup, Int.reduceEq, Int.reduceLT, Int.reduceLE, Int.reduceNeg, Int.reduceAdd, Int.reduceSub, Int.reduceMul, Int.reduceToNat, Nat.reduceAdd, noUnk, AV.cells, reduceCtorEq, Nat.reduceLeDiff, Cells.get, Nat.reduceMul, ↓bnd_assoc]
    exact ⟨_, _, _, rfl, rfl, h⟩
  | succ m ih =>
    intro i A H him a0 a1 a5 h
    have hlen := (h1 h).len
    have hlt : (i : Int) < L.length := by omega
    have hwr : IntKind.i64.wrap ((i : Int) + 1) = ((i + 1 : Nat) : Int) := by rw [w64 (by omega)]; simp
    obtain ⟨p, e1, e2⟩ := (h1 (h.bump 9)).at (i := i) (by omega)
    obtain ⟨q, e3, e4⟩ := (h2 ((h.bump 9).ord [1])).at (i := i) (by omega)
    apply Fin.ex3
    rw [run_loop]
    simp only [hlp, a0, a1, a5, hlen, hlt, e1, e2, e3, e4, hwr, eq_self, ↓sxp, sxq, ↓reduceIte, Nat.reduceBEq, Nat.reduceLT, evP, evX, evR, blkOf, evA, storeA, Nat.reduceEqDiff, resL, resV, oneOrTup, Int.reduceEq, Int.reduceLT, Int.reduceLE, Int.reduceNeg, Int.reduceAdd, Int.reduceSub, Int.reduceMul, Int.reduceToNat, Nat.reduceAdd, noUnk, AV.cells, reduceCtorEq, Nat.reduceLeDiff, Cells.get, Nat.reduceMul, ↓bnd_assoc]
    exact Fin.of3 (ih (i + 1) _ _ (by omega) (by simp only [a0, ↓sxp, sxq, ↓reduceIte, Nat.reduceBEq, Nat.reduceLT, evP, evX, evR, blkOf, evA, storeA, Nat.reduceEqDiff, resL, resV, oneOrTup, Int.reduceEq, Int.reduceLT, Int.reduceLE, Int.reduceNeg, Int.reduceAdd, Int.reduceSub, Int.reduceMul, Int.reduceToNat, Nat.reduceAdd, noUnk, AV.cells, reduceCtorEq, Nat.reduceLeDiff, Cells.get, Nat.reduceMul, ↓bnd_assoc]) (by simp only [a1, ↓sxp, sxq, ↓reduceIte, Nat.reduceBEq, Nat.reduceLT, evP, evX, evR, blkOf, evA, storeA, Nat.reduceEqDiff, resL, resV, oneOrTup, Int.reduceEq, Int.reduceLT, Int.reduceLE, Int.reduceNeg, Int.reduceAdd, Int.reduceSub, Int.reduceMul, Int.reduceToNat, Nat.reduceAdd, noUnk, AV.cells, reduceCtorEq, Nat.reduceLeDiff, Cells.get, Nat.reduceMul, ↓bnd_assoc]) (by simp only [↓sxp, sxq, ↓reduceIte, Nat.reduceBEq, Nat.reduceLT, evP, evX, evR, blkOf, evA, storeA, Nat.reduceEqDiff, resL, resV, oneOrTup, Int.reduceEq, Int.reduceLT, Int.reduceLE, Int.reduceNeg, Int.reduceAdd, Int.reduceSub, Int.reduceMul, Int.reduceToNat, Nat.reduceAdd, noUnk, AV.cells, reduceCtorEq, Nat.reduceLeDiff, Cells.get, Nat.reduceMul, ↓bnd_assoc]) (h.bump 9)) fun lv A' H' q => q
theorem c_bsame (hE : EnvW E) {L : List UInt8} {a b : AV} {R1 R2 : HP} (h1 : RdLike W L a R1) (h2 : RdLike W L b R2) (hl : L.length < 65536) (h : Holds H (R1 :: R2 :: Γ)) :
    ∃ H', go W E 21 [a, b] H = some (.bool true, H') ∧ Holds H' (R1 :: R2 :: Γ) := by
  apply Ends.out
  refine (show Fin (fun r : AV × Heap => r.1 = .bool true ∧ Holds r.2 (R1 :: R2 :: Γ)) _ from ?_)
  have hlen := (h1 h).len
  have hlen2 := (h2 (h.ord [1])).len
  rw [go_code hE.f21 (by simp [sf21])]
  simp only [sf21, hlen, hlen2, eq_self, ↓sxp, sxq, ↓reduceIte, Nat.reduceBEq, Nat.reduceLT, evP, evX, evR, blkOf, evA, storeA, Nat.reduceEqDiff, resL, resV, oneOrTup, Int.reduceEq, Int.reduceLT, Int.reduceLE, Int.reduceNeg, Int.reduceAdd, Int.reduceSub, Int.reduceMul, Int.reduceToNat, Nat.reduceAdd, noUnk, AV.cells, reduceCtorEq, Nat.reduceLeDiff, Cells.get, Nat.reduceMul, ↓bnd_assoc]
  refine Fin.loop (same_loop (Γ := Γ) h1 h2 hl L.length 0 _ _ (by omega) (by simp only [↓sxp, sxq, ↓reduceIte, Nat.reduceBEq, Nat.reduceLT, evP, evX, evR, blkOf, evA, storeA, Nat.reduceEqDiff, resL, resV, oneOrTup, Int.reduceEq, Int.reduceLT, Int.reduceLE, Int.reduceNeg, Int.reduceAdd, Int.reduceSub, Int.reduceMul, Int.reduceToNat, Nat.reduceAdd, noUnk, AV.cells, reduceCtorEq, Nat.reduceLeDiff, Cells.get, Nat.reduceMul, ↓bnd_assoc]) (by simp only [↓sxp, sxq, ↓reduceIte, Nat.reduceBEq, Nat.reduceLT, evP, evX, evR, blkOf, evA, storeA, Nat.reduceEqDiff, resL, resV, oneOrTup, Int.reduceEq, Int.reduceLT, Int.reduceLE, Int.reduceNeg, Int.reduceAdd, Int.reduceSub, Int.reduceMul, Int.reduceToNat, Nat.reduceAdd, noUnk, AV.cells, reduceCtorEq, Nat.reduceLeDiff, Cells.get, Nat.reduceMul, ↓bnd_assoc]) (by simp only [↓sxp, sxq, ↓reduceIte, Nat.reduceBEq, Nat.reduceLT, evP, evX, evR, blkOf, evA, storeA, Nat.reduceEqDiff, resL, resV, oneOrTup, Int.reduceEq, Int.reduceLT, Int.reduceLE, Int.reduceNeg, Int.reduceAdd, Int.reduceSub, Int.reduceMul, Int.reduceToNat, Nat.reduceAdd, noUnk, AV.cells, reduceCtorEq, Nat.reduceLeDiff, Cells.get, Nat.reduceMul, ↓bnd_assoc]; rfl) h) fun lv A H1 ⟨e1, h3⟩ => ?_
  subst e1
  simp only [↓sxp, sxq, ↓reduceIte, Nat.reduceBEq, Nat.reduceLT, evP, evX, evR, blkOf, evA, storeA, Nat.reduceEqDiff, resL, resV, oneOrTup, Int.reduceEq, Int.reduceLT, Int.reduceLE, Int.reduceNeg, Int.reduceAdd, Int.reduceSub, Int.reduceMul, Int.reduceToNat, Nat.reduceAdd, noUnk, AV.cells, reduceCtorEq, Nat.reduceLeDiff, Cells.get, Nat.reduceMul, ↓bnd_assoc]
  exact Fin.ret ⟨rfl, h3⟩
theorem c_same (hE : EnvW E) {c : CF} {a b : AV} {R1 R2 : HP} (h1 : RdLike W c.data a R1) (h2 : RdLike W c.data b R2) (hl : c.data.length < 65536) (h : Holds H (R1 :: R2 :: Γ)) :
    ∃ H', go W E 8 [.agg (cfC c a), .agg (cfC c b)] H = some (.bool true, H') ∧ Holds H' (R1 :: R2 :: Γ) := by
  apply Ends.out
  refine (show Fin (fun r : AV × Heap => r.1 = .bool true ∧ Holds r.2 (R1 :: R2 :: Γ)) _ from ?_)
  have h3 := (h.push (c := cfC c a) (t := 29)).push (c := cfC c b) (t := 29)
  simp only [push_next] at h3
  have ga := (h3.ord [1]).get
  have gb := h3.get
  unfold cfC at h3 ga gb
  rw [go_code hE.f8 (by simp [sf8])]
  simp only [sf8, cfC, ↓ga, ↓gb, eq_self, s_eql, ↓sxp, sxq, ↓reduceIte, Nat.reduceBEq, Nat.reduceLT, evP, evX, evR, blkOf, evA, storeA, Nat.reduceEqDiff, resL, resV, oneOrTup, Int.reduceEq, Int.reduceLT, Int.reduceLE, Int.reduceNeg, Int.reduceAdd, Int.reduceSub, Int.reduceMul, Int.reduceToNat, Nat.reduceAdd, noUnk, AV.cells, reduceCtorEq, Nat.reduceLeDiff, Cells.get, Nat.reduceMul, ↓bnd_assoc]
  refine Fin.call (c_bsame hE h1 h2 hl (h3.ord [2, 2])) fun H4 h4 => ?_
  simp only [↓sxp, sxq, ↓reduceIte, Nat.reduceBEq, Nat.reduceLT, evP, evX, evR, blkOf, evA, storeA, Nat.reduceEqDiff, resL, resV, oneOrTup, Int.reduceEq, Int.reduceLT, Int.reduceLE, Int.reduceNeg, Int.reduceAdd, Int.reduceSub, Int.reduceMul, Int.reduceToNat, Nat.reduceAdd, noUnk, AV.cells, reduceCtorEq, Nat.reduceLeDiff, Cells.get, Nat.reduceMul, ↓bnd_assoc]
  exact Fin.ret ⟨rfl, (h4.rm 2).rm 2⟩
end
end Go.Proofs.YtjfnhdiimibmiaaDoor.Sx

/- Calls, the program's. -/
namespace Go.Proofs.YtjfnhdiimibmiaaDoor.Sx
open HP
theorem flatMap_get {α β : Type} {f : α → List β} {k : Nat} (hf : ∀ x, (f x).length = k) : ∀ (l : List α) (i : Nat) (hi : i < l.length), ((l.flatMap f).drop (i * k)).take k = f l[i] := by
  intro l
  induction l with
  | nil => intro i hi; simp at hi
  | cons a l ih =>
    intro i hi
    rw [List.flatMap_cons]
    cases i with
    | zero =>
      rw [Nat.zero_mul, List.drop_zero, List.take_append_of_le_length (by rw [hf]; exact Nat.le_refl _), List.take_of_length_le (by rw [hf]; exact Nat.le_refl _)]; rfl
    | succ i =>
      have e : (i + 1) * k = (f a).length + i * k := by rw [hf, Nat.succ_mul, Nat.add_comm]
      rw [e, List.drop_append, List.drop_of_length_le (Nat.le_add_right _ _), List.nil_append, Nat.add_sub_cancel_left, List.getElem_cons_succ]
      exact ih i (by simpa using hi)
theorem flatMap_len {α β : Type} {f : α → List β} {k : Nat} (hf : ∀ x, (f x).length = k) : ∀ (l : List α), (l.flatMap f).length = l.length * k := by
  intro l
  induction l with
  | nil => simp
  | cons a l ih => rw [List.flatMap_cons, List.length_append, hf, ih, List.length_cons, Nat.succ_mul, Nat.add_comm]
section
variable {W : World} {E : Env} {H : Heap} {Γ : List HP}
theorem cfC_len (c : CF) (d : AV) : (cfC c d).length = 8 := rfl
theorem cfC_one (c : CF) (d : AV) (h : oneC d = true) : (cfC c d).all oneC = true := by
  simp only [cfC, List.all_cons, List.all_nil, h, oneC_int, oneC_str, Bool.and_self]
theorem cfC_getN (c : CF) (d : AV) : Cells.getN (.lst (cfC c d)) 0 8 = some (cfC c d) := rfl
theorem RdLike.sepL {bs : List UInt8} {v : AV} {A B : HP} (h : RdLike W bs v A) : RdLike W bs v (HP.sep A B) := fun hh => h hh.sep
theorem RdLike.sepR {bs : List UInt8} {v : AV} {A B : HP} (h : RdLike W bs v B) : RdLike W bs v (HP.sep A B) := fun hh => h hh.sep.tail
theorem c_call (hE : EnvW E) (hG : GK W) {seed : List UInt8} {i : Nat} (hs : seed.length = 32) (hi : i ≤ 1024) (h : Holds H Γ) :
    ∃ dv H', go W E 7 [.agg (cb seed), .int .i64 (i : Int)] H = some (.tup [.agg (cfC (callF seed i) dv), .int .i64 0], H') ∧ ∃ R, RdLike W (callF seed i).data dv R ∧ Holds H' (R :: Γ) := by
  suffices hh : Fin (fun r : AV × Heap => ∃ dv, r.1 = .tup [.agg (cfC (callF seed i) dv), .int .i64 0] ∧ ∃ R, RdLike W (callF seed i).data dv R ∧ Holds r.2 (R :: Γ)) (go W E 7 [.agg (cb seed), .int .i64 (i : Int)] H) by
    obtain ⟨⟨r, H'⟩, e, dv, hr, q⟩ := hh
    simp only at hr
    subst hr
    exact ⟨dv, H', e, q⟩
  have hg8 : ∀ a b c d e f g h : AV, Cells.getN (.lst [a, b, c, d, e, f, g, h]) 0 8 = some [a, b, c, d, e, f, g, h] := fun _ _ _ _ _ _ _ _ => rfl
  have h2 := (h.push (c := cb seed) (t := 22)).push (c := c0) (t := 29)
  simp only [push_next] at h2
  have hgs := getN_cb hs
  rw [go_code hE.f7 (by simp [sf7])]
  generalize hcs : cb seed = cs at *
  have g2 := (h2.ord [1]).get
  simp only [sf7, z32_eq, ↓g2, ↓hgs, ↓sxp, sxq, ↓reduceIte, Nat.reduceBEq, Nat.reduceLT, evP, evX, evR, blkOf, evA, storeA, Nat.reduceEqDiff, resL, resV, oneOrTup, Int.reduceEq, Int.reduceLT, Int.reduceLE, Int.reduceNeg, Int.reduceAdd, Int.reduceSub, Int.reduceMul, Int.reduceToNat, Nat.reduceAdd, noUnk, AV.cells, reduceCtorEq, Nat.reduceLeDiff, Cells.get, Nat.reduceMul, ↓bnd_assoc]
  subst hcs
  refine Fin.call (c_lot hE hs hi h2) fun H3 h3 => ?_
  have hl := lotF_len seed i
  have hcf : callF seed i = if i < 4 then ⟨1, nameF 117 i, [], [], [], 0, 0, []⟩ else choF (lotF seed i) := rfl
  rw [hcf]
  generalize lotF seed i = L at *
  have hc32 : (cb L).length = 32 := by rw [cb_len, hl]
  have hgl := getN_cb hl
  have h5 := h3.push (c := z32) (t := 22)
  simp only [hc32, ↓sxp, sxq, ↓reduceIte, Nat.reduceBEq, Nat.reduceLT, evP, evX, evR, blkOf, evA, storeA, Nat.reduceEqDiff, resL, resV, oneOrTup, Int.reduceEq, Int.reduceLT, Int.reduceLE, Int.reduceNeg, Int.reduceAdd, Int.reduceSub, Int.reduceMul, Int.reduceToNat, Nat.reduceAdd, noUnk, AV.cells, reduceCtorEq, Nat.reduceLeDiff, Cells.get, Nat.reduceMul, ↓bnd_assoc]
  generalize H.next = j2 at *
  generalize H3.next = j6 at *
  refine Fin.write (cb L) h5 (setN_all (by rw [hc32]; rfl)) (by rw [hc32]; exact Nat.le_refl _) (cb_one L) fun H6 h6 => ?_
  have g6 := h6.get
  by_cases h4 : i < 4
  · have h4' : (i : Int) < 4 := by omega
    rw [if_pos h4]
    simp only [h4', ↓sxp, sxq, ↓reduceIte, Nat.reduceBEq, Nat.reduceLT, evP, evX, evR, blkOf, evA, storeA, Nat.reduceEqDiff, resL, resV, oneOrTup, Int.reduceEq, Int.reduceLT, Int.reduceLE, Int.reduceNeg, Int.reduceAdd, Int.reduceSub, Int.reduceMul, Int.reduceToNat, Nat.reduceAdd, noUnk, AV.cells, reduceCtorEq, Nat.reduceLeDiff, Cells.get, Nat.reduceMul, ↓bnd_assoc]
    refine Fin.call (c_name hE 117 i h6) fun H7 h7 => ?_
    simp only [↓sxp, sxq, ↓reduceIte, Nat.reduceBEq, Nat.reduceLT, evP, evX, evR, blkOf, evA, storeA, Nat.reduceEqDiff, resL, resV, oneOrTup, Int.reduceEq, Int.reduceLT, Int.reduceLE, Int.reduceNeg, Int.reduceAdd, Int.reduceSub, Int.reduceMul, Int.reduceToNat, Nat.reduceAdd, noUnk, AV.cells, reduceCtorEq, Nat.reduceLeDiff, Cells.get, Nat.reduceMul, ↓bnd_assoc]
    refine Fin.write [.int .i64 1, .str (nameF 117 i), .str [], .str [], .str [], .int .i64 0, .int .i64 0, .sl none 0 (.exact 0)] (h7.ord [1]) rfl (by simp) rfl fun Hy hy => ?_
    have gy := hy.get
    simp only [↓gy, ↓hg8, ↓sxp, sxq, ↓reduceIte, Nat.reduceBEq, Nat.reduceLT, evP, evX, evR, blkOf, evA, storeA, Nat.reduceEqDiff, resL, resV, oneOrTup, Int.reduceEq, Int.reduceLT, Int.reduceLE, Int.reduceNeg, Int.reduceAdd, Int.reduceSub, Int.reduceMul, Int.reduceToNat, Nat.reduceAdd, noUnk, AV.cells, reduceCtorEq, Nat.reduceLeDiff, Cells.get, Nat.reduceMul, ↓bnd_assoc]
    exact Fin.ret ⟨_, rfl, HP.emp, fun _ => Rd.nil, (hy.tail.tail.tail).empty⟩
  · have h4' : ¬ (i : Int) < 4 := by omega
    rw [if_neg h4]
    simp only [h4', ↓g6, ↓hgl, ↓sxp, sxq, ↓reduceIte, Nat.reduceBEq, Nat.reduceLT, evP, evX, evR, blkOf, evA, storeA, Nat.reduceEqDiff, resL, resV, oneOrTup, Int.reduceEq, Int.reduceLT, Int.reduceLE, Int.reduceNeg, Int.reduceAdd, Int.reduceSub, Int.reduceMul, Int.reduceToNat, Nat.reduceAdd, noUnk, AV.cells, reduceCtorEq, Nat.reduceLeDiff, Cells.get, Nat.reduceMul, ↓bnd_assoc]
    refine Fin.callX (fun r H' => ∃ dv, r = .agg (cfC (choF L) dv) ∧ ∃ R, RdLike W (choF L).data dv R ∧ Holds H' (R :: blk j6 (cb L) 22 :: blk (j2 + 1) c0 29 :: blk j2 (cb seed) 22 :: Γ)) (by obtain ⟨dv, H', e, q⟩ := c_chosen hE hG hl h6; exact ⟨_, H', e, dv, rfl, q⟩) fun r H7 ⟨dv, hr, R, hR, h7⟩ => ?_
    subst hr
    have hd1 := (hR h7).one.2.2
    have hc8 := cfC_len (choF L) dv
    have hco := cfC_one (choF L) dv hd1
    have hcg := cfC_getN (choF L) dv
    generalize hC : cfC (choF L) dv = C at *
    simp only [hc8, ↓sxp, sxq, ↓reduceIte, Nat.reduceBEq, Nat.reduceLT, evP, evX, evR, blkOf, evA, storeA, Nat.reduceEqDiff, resL, resV, oneOrTup, Int.reduceEq, Int.reduceLT, Int.reduceLE, Int.reduceNeg, Int.reduceAdd, Int.reduceSub, Int.reduceMul, Int.reduceToNat, Nat.reduceAdd, noUnk, AV.cells, reduceCtorEq, Nat.reduceLeDiff, Cells.get, Nat.reduceMul, ↓bnd_assoc]
    refine Fin.write C (h7.ord [2]) (setN_all (by rw [hc8]; rfl)) (by rw [hc8]; exact Nat.le_refl _) hco fun Hy hy => ?_
    have gy := hy.get
    simp only [↓gy, ↓hcg, ↓sxp, sxq, ↓reduceIte, Nat.reduceBEq, Nat.reduceLT, evP, evX, evR, blkOf, evA, storeA, Nat.reduceEqDiff, resL, resV, oneOrTup, Int.reduceEq, Int.reduceLT, Int.reduceLE, Int.reduceNeg, Int.reduceAdd, Int.reduceSub, Int.reduceMul, Int.reduceToNat, Nat.reduceAdd, noUnk, AV.cells, reduceCtorEq, Nat.reduceLeDiff, Cells.get, Nat.reduceMul, ↓bnd_assoc]
    exact Fin.ret ⟨dv, by rw [hC], R, hR, ((hy.tail).rm 1).rm 1⟩
theorem c_call_no (hE : EnvW E) {seed : List UInt8} {i : Int} (hs : seed.length = 32) (hi : i < 0 ∨ 1024 < i) (h : Holds H Γ) :
    ∃ H', go W E 7 [.agg (cb seed), .int .i64 i] H = some (.tup [.agg c0, .int .i64 2], H') ∧ Holds H' Γ := by
  apply Ends.out
  refine (show Fin (fun r : AV × Heap => r.1 = .tup [.agg c0, .int .i64 2] ∧ Holds r.2 Γ) _ from ?_)
  have hg8 : ∀ a b c d e f g h : AV, Cells.getN (.lst [a, b, c, d, e, f, g, h]) 0 8 = some [a, b, c, d, e, f, g, h] := fun _ _ _ _ _ _ _ _ => rfl
  have h2 := (h.push (c := cb seed) (t := 22)).push (c := c0) (t := 29)
  simp only [push_next] at h2
  have hgs := getN_cb hs
  have hl32 : z32.length = 32 := rfl
  have ho32 : z32.all oneC = true := cb_one _
  rw [go_code hE.f7 (by simp [sf7])]
  generalize hcs : cb seed = cs at *
  have g2 := (h2.ord [1]).get
  simp only [sf7, z32_eq, ↓g2, ↓hgs, ↓sxp, sxq, ↓reduceIte, Nat.reduceBEq, Nat.reduceLT, evP, evX, evR, blkOf, evA, storeA, Nat.reduceEqDiff, resL, resV, oneOrTup, Int.reduceEq, Int.reduceLT, Int.reduceLE, Int.reduceNeg, Int.reduceAdd, Int.reduceSub, Int.reduceMul, Int.reduceToNat, Nat.reduceAdd, noUnk, AV.cells, reduceCtorEq, Nat.reduceLeDiff, Cells.get, Nat.reduceMul, ↓bnd_assoc]
  subst hcs
  refine Fin.call (c_lot_no hE hi h2) fun H3 h3 => ?_
  have h5 := h3.push (c := z32) (t := 22)
  simp only [hl32, ↓sxp, sxq, ↓reduceIte, Nat.reduceBEq, Nat.reduceLT, evP, evX, evR, blkOf, evA, storeA, Nat.reduceEqDiff, resL, resV, oneOrTup, Int.reduceEq, Int.reduceLT, Int.reduceLE, Int.reduceNeg, Int.reduceAdd, Int.reduceSub, Int.reduceMul, Int.reduceToNat, Nat.reduceAdd, noUnk, AV.cells, reduceCtorEq, Nat.reduceLeDiff, Cells.get, Nat.reduceMul, ↓bnd_assoc]
  refine Fin.write z32 h5 (setN_all rfl) (by rw [hl32]; exact Nat.le_refl _) ho32 fun H6 h6 => ?_
  refine Fin.write c0 (h6.ord [1]) rfl (by simp) rfl fun Hy hy => ?_
  have gy := hy.get
  simp only [↓gy, ↓hg8, ↓sxp, sxq, ↓reduceIte, Nat.reduceBEq, Nat.reduceLT, evP, evX, evR, blkOf, evA, storeA, Nat.reduceEqDiff, resL, resV, oneOrTup, Int.reduceEq, Int.reduceLT, Int.reduceLE, Int.reduceNeg, Int.reduceAdd, Int.reduceSub, Int.reduceMul, Int.reduceToNat, Nat.reduceAdd, noUnk, AV.cells, reduceCtorEq, Nat.reduceLeDiff, Cells.get, Nat.reduceMul, ↓bnd_assoc]
  exact Fin.ret ⟨rfl, hy.tail.tail.tail⟩
end
end Go.Proofs.YtjfnhdiimibmiaaDoor.Sx

/- Lists of calls. -/
namespace Go.Proofs.YtjfnhdiimibmiaaDoor.Sx
open HP
def flatC (seed : List UInt8) (ds : List AV) : List AV := ds.zipIdx.flatMap fun x => cfC (callF seed x.2) x.1
theorem flatC_snoc (seed : List UInt8) (ds : List AV) (d : AV) : flatC seed (ds ++ [d]) = flatC seed ds ++ cfC (callF seed ds.length) d := by
  unfold flatC
  rw [List.zipIdx_append, List.flatMap_append]
  simp
theorem flatC_len (seed : List UInt8) (ds : List AV) : (flatC seed ds).length = ds.length * 8 := by
  unfold flatC
  rw [flatMap_len (k := 8) (fun x => rfl), List.length_zipIdx]
theorem flatC_get (seed : List UInt8) (ds : List AV) (i : Nat) (hi : i < ds.length) : ((flatC seed ds).drop (i * 8)).take 8 = cfC (callF seed i) ds[i] := by
  unfold flatC
  rw [flatMap_get (k := 8) (fun x => rfl) _ i (by rw [List.length_zipIdx]; exact hi), List.getElem_zipIdx, Nat.zero_add]
/-- A list of the first calls. -/
def CsH (W : World) (seed : List UInt8) (n : Nat) (H : Heap) (v : AV) (Γ : List HP) : Prop := ∃ (ds : List AV) (D : HP), ds.length = n ∧ (∀ i (hi : i < ds.length), RdLike W (callF seed i).data ds[i] D) ∧ Holds H (row 29 8 (flatC seed ds) v :: D :: Γ)
section
variable {W : World} {E : Env} {H : Heap} {Γ : List HP}
theorem CsH.get {seed : List UInt8} {n : Nat} {v : AV} (h : CsH W seed n H v Γ) (h0 : 0 < n) : ∃ (ds : List AV) (D : HP) (j l : Nat) (c : Cap), ds.length = n ∧ (∀ i (hi : i < ds.length), RdLike W (callF seed i).data ds[i] D) ∧ Holds H (row 29 8 (flatC seed ds) v :: D :: Γ) ∧ v = .sl (some ⟨.own j, 0⟩) n c ∧ H.get j = some (.cells (.lst (flatC seed ds)) 29 (some l)) ∧ ∀ i (hi : i < ds.length), Cells.getN (.lst (flatC seed ds)) (i * 8) 8 = some (cfC (callF seed i) ds[i]) := by
  obtain ⟨ds, D, hn, hR, hh⟩ := h
  obtain ⟨j, l, c, e, g⟩ := hh.row_get (by omega) (n := n) (by rw [flatC_len, hn]) h0
  refine ⟨ds, D, j, l, c, hn, hR, hh, e, g, fun i hi => ?_⟩
  have := getN_sub (i * 8) 8 (getN_all (flatC seed ds)) (by rw [flatC_len]; omega)
  rw [flatC_get seed ds i hi, Nat.zero_add] at this
  exact this
theorem calls_loop (hE : EnvW E) (hG : GK W) {seed : List UInt8} (hs : seed.length = 32) {j2 n : Nat} (hn : n ≤ 1024) {df : List Nat} : ∀ (m i : Nat) (A : Tm) (H : Heap) (v : AV), i + m = n → getX A 2 = .ptr (some ⟨.own j2, 0⟩) → getX A 6 = v → getX A 16 = .int .i64 n → getX A 17 = .int .i64 i → CsH W seed i H v (blk j2 (cb seed) 22 :: Γ) →
    ∃ lv A' H', run W E (.loop lp11_0) ⟨A, df, none⟩ H = some (lv, ⟨A', df, none⟩, H') ∧ (lv = .exit 0 ∧ ∃ v', getX A' 6 = v' ∧ CsH W seed n H' v' (blk j2 (cb seed) 22 :: Γ)) := by
  have hlp : ∀ f H, run W E lp11_0 f H = run W E lp11_0 f H := fun _ _ => rfl
  conv at hlp => enter [f, H, 2]; unfold lp11_0
  intro m
  induction m with
  | zero =>
    intro i A H v him a2 a6 a16 a17 h
    have : i = n := by omega
    subst this
    have hlt : ¬ (i : Int) < i := by omega
    rw [run_loop]
    simp only [hlp, a16, a17, hlt, ↓sxp, sxq, ↓reduceIte, Nat.reduceBEq, Nat.reduceLT, evP, evX, evR, blkOf, evA, storeA, Nat.reduceEqDiff, resL, resV, oneOrTup, Int.reduceEq, Int.reduceLT, Int.reduceLE, Int.reduceNeg, Int.reduceAdd, Int.reduceSub, Int.reduceMul, Int.reduceToNat, Nat.reduceAdd, noUnk, AV.cells, reduceCtorEq, Nat.reduceLeDiff, Cells.get, Nat.reduceMul, ↓bnd_assoc]
    exact ⟨_, _, _, rfl, rfl, v, by simp only [a6, ↓sxp, sxq, ↓reduceIte, Nat.reduceBEq, Nat.reduceLT, evP, evX, evR, blkOf, evA, storeA, Nat.reduceEqDiff, resL, resV, oneOrTup, Int.reduceEq, Int.reduceLT, Int.reduceLE, Int.reduceNeg, Int.reduceAdd, Int.reduceSub, Int.reduceMul, Int.reduceToNat, Nat.reduceAdd, noUnk, AV.cells, reduceCtorEq, Nat.reduceLeDiff, Cells.get, Nat.reduceMul, ↓bnd_assoc], h⟩
  | succ m ih =>
    intro i A H v him a2 a6 a16 a17 h
    have hlt : (i : Int) < n := by omega
    have hwr : IntKind.i64.wrap ((i : Int) + 1) = ((i + 1 : Nat) : Int) := by rw [w64 (by omega)]; simp
    obtain ⟨ds, D, hdn, hR, hh⟩ := h
    have g2 := (hh.ord [2]).get
    have hgs := getN_cb hs
    apply Fin.ex3
    rw [run_loop]
    generalize hcs : cb seed = cs at *
    simp only [hlp, a2, a16, a17, hlt, ↓g2, ↓hgs, ↓sxp, sxq, ↓reduceIte, Nat.reduceBEq, Nat.reduceLT, evP, evX, evR, blkOf, evA, storeA, Nat.reduceEqDiff, resL, resV, oneOrTup, Int.reduceEq, Int.reduceLT, Int.reduceLE, Int.reduceNeg, Int.reduceAdd, Int.reduceSub, Int.reduceMul, Int.reduceToNat, Nat.reduceAdd, noUnk, AV.cells, reduceCtorEq, Nat.reduceLeDiff, Cells.get, Nat.reduceMul, ↓bnd_assoc]
    subst hcs
    refine Fin.callX (fun r H' => ∃ dv, r = .tup [.agg (cfC (callF seed i) dv), .int .i64 0] ∧ ∃ R, RdLike W (callF seed i).data dv R ∧ Holds H' (R :: row 29 8 (flatC seed ds) v :: D :: blk j2 (cb seed) 22 :: Γ)) (by obtain ⟨dv, H', e, q⟩ := c_call hE hG hs (show i ≤ 1024 by omega) hh; exact ⟨_, H', e, dv, rfl, q⟩) fun r H3 ⟨dv, hr, R, hRr, h3⟩ => ?_
    subst hr
    have hd1 := (hRr h3).one.2.2
    have hc8 := cfC_len (callF seed i) dv
    have hco := cfC_one (callF seed i) dv hd1
    have hcg := cfC_getN (callF seed i) dv
    generalize hC : cfC (callF seed i) dv = C at *
    have h4 := h3.push (c := c0) (t := 29)
    simp only [hc8, a6, ↓sxp, sxq, ↓reduceIte, Nat.reduceBEq, Nat.reduceLT, evP, evX, evR, blkOf, evA, storeA, Nat.reduceEqDiff, resL, resV, oneOrTup, Int.reduceEq, Int.reduceLT, Int.reduceLE, Int.reduceNeg, Int.reduceAdd, Int.reduceSub, Int.reduceMul, Int.reduceToNat, Nat.reduceAdd, noUnk, AV.cells, reduceCtorEq, Nat.reduceLeDiff, Cells.get, Nat.reduceMul, ↓bnd_assoc]
    generalize H3.next = j8 at *
    refine Fin.write C h4 (setN_all (by rw [hc8]; rfl)) (by rw [hc8]; exact Nat.le_refl _) hco fun H5 h5 => ?_
    have g5 := h5.get
    have h6 := h5.push (c := C) (t := 29)
    have g6 := h6.get
    simp only [↓g5, ↓hcg, hc8, a6, ↓sxp, sxq, ↓reduceIte, Nat.reduceBEq, Nat.reduceLT, evP, evX, evR, blkOf, evA, storeA, Nat.reduceEqDiff, resL, resV, oneOrTup, Int.reduceEq, Int.reduceLT, Int.reduceLE, Int.reduceNeg, Int.reduceAdd, Int.reduceSub, Int.reduceMul, Int.reduceToNat, Nat.reduceAdd, noUnk, AV.cells, reduceCtorEq, Nat.reduceLeDiff, Cells.get, Nat.reduceMul, ↓bnd_assoc]
    refine Fin.app (h6.ord [3]) (by omega) (by simp only [srcA, blkOf, g6, Nat.one_mul, hcg]; rfl) (by omega) (new := C) (n := i) (by rw [hc8]) hco (by rw [flatC_len, hdn]) (by omega) fun v' H7 h7 => ?_
    rw [← hC, ← hdn, ← flatC_snoc] at h7
    have h8 : Holds H7 (row 29 8 (flatC seed (ds ++ [dv])) v' :: HP.sep R D :: blk j2 (cb seed) 22 :: Γ) := by
      have := ((h7.ord [3, 3]).sep').ord [1, 0]
      exact (this.rm 2).rm 2
    simp only [a17, hwr, ↓sxp, sxq, ↓reduceIte, Nat.reduceBEq, Nat.reduceLT, evP, evX, evR, blkOf, evA, storeA, Nat.reduceEqDiff, resL, resV, oneOrTup, Int.reduceEq, Int.reduceLT, Int.reduceLE, Int.reduceNeg, Int.reduceAdd, Int.reduceSub, Int.reduceMul, Int.reduceToNat, Nat.reduceAdd, noUnk, AV.cells, reduceCtorEq, Nat.reduceLeDiff, Cells.get, Nat.reduceMul, ↓bnd_assoc]
    refine Fin.of3 (ih (i + 1) _ _ v' (by omega) (by simp only [a2, ↓sxp, sxq, ↓reduceIte, Nat.reduceBEq, Nat.reduceLT, evP, evX, evR, blkOf, evA, storeA, Nat.reduceEqDiff, resL, resV, oneOrTup, Int.reduceEq, Int.reduceLT, Int.reduceLE, Int.reduceNeg, Int.reduceAdd, Int.reduceSub, Int.reduceMul, Int.reduceToNat, Nat.reduceAdd, noUnk, AV.cells, reduceCtorEq, Nat.reduceLeDiff, Cells.get, Nat.reduceMul, ↓bnd_assoc]) (by simp only [↓sxp, sxq, ↓reduceIte, Nat.reduceBEq, Nat.reduceLT, evP, evX, evR, blkOf, evA, storeA, Nat.reduceEqDiff, resL, resV, oneOrTup, Int.reduceEq, Int.reduceLT, Int.reduceLE, Int.reduceNeg, Int.reduceAdd, Int.reduceSub, Int.reduceMul, Int.reduceToNat, Nat.reduceAdd, noUnk, AV.cells, reduceCtorEq, Nat.reduceLeDiff, Cells.get, Nat.reduceMul, ↓bnd_assoc]) (by simp only [a16, ↓sxp, sxq, ↓reduceIte, Nat.reduceBEq, Nat.reduceLT, evP, evX, evR, blkOf, evA, storeA, Nat.reduceEqDiff, resL, resV, oneOrTup, Int.reduceEq, Int.reduceLT, Int.reduceLE, Int.reduceNeg, Int.reduceAdd, Int.reduceSub, Int.reduceMul, Int.reduceToNat, Nat.reduceAdd, noUnk, AV.cells, reduceCtorEq, Nat.reduceLeDiff, Cells.get, Nat.reduceMul, ↓bnd_assoc]) (by simp only [↓sxp, sxq, ↓reduceIte, Nat.reduceBEq, Nat.reduceLT, evP, evX, evR, blkOf, evA, storeA, Nat.reduceEqDiff, resL, resV, oneOrTup, Int.reduceEq, Int.reduceLT, Int.reduceLE, Int.reduceNeg, Int.reduceAdd, Int.reduceSub, Int.reduceMul, Int.reduceToNat, Nat.reduceAdd, noUnk, AV.cells, reduceCtorEq, Nat.reduceLeDiff, Cells.get, Nat.reduceMul, ↓bnd_assoc]) ⟨ds ++ [dv], HP.sep R D, by simp [hdn], fun k hk => ?_, h8⟩) fun lv A' H' q => q
    by_cases hkl : k < ds.length
    · rw [List.getElem_append_left hkl]; exact RdLike.sepR (hR k hkl)
    · have : k = ds.length := by simp at hk; omega
      subst this
      rw [List.getElem_append_right (Nat.le_refl _)]
      simp only [Nat.sub_self, List.getElem_cons_zero]
      rw [hdn]; exact RdLike.sepL hRr
theorem c_calls (hE : EnvW E) (hG : GK W) {seed : List UInt8} {n : Nat} (hs : seed.length = 32) (hn : n ≤ 1024) (h : Holds H Γ) :
    ∃ v H', go W E 11 [.agg (cb seed), .int .i64 (n : Int)] H = some (.tup [v, .int .i64 0], H') ∧ CsH W seed n H' v Γ := by
  suffices hh : Fin (fun r : AV × Heap => ∃ v, r.1 = .tup [v, .int .i64 0] ∧ CsH W seed n r.2 v Γ) (go W E 11 [.agg (cb seed), .int .i64 (n : Int)] H) by
    obtain ⟨⟨r, H'⟩, e, v, hr, q⟩ := hh
    simp only at hr
    subst hr
    exact ⟨v, H', e, q⟩
  have h2 := h.push (c := cb seed) (t := 22)
  have b1 : ¬ (n : Int) < 0 := by omega
  have b2 : ¬ (1024 : Int) < n := by omega
  rw [go_code hE.f11 (by simp [sf11])]
  generalize hcs : cb seed = cs at *
  simp only [sf11, b1, b2, ↓sxp, sxq, ↓reduceIte, Nat.reduceBEq, Nat.reduceLT, evP, evX, evR, blkOf, evA, storeA, Nat.reduceEqDiff, resL, resV, oneOrTup, Int.reduceEq, Int.reduceLT, Int.reduceLE, Int.reduceNeg, Int.reduceAdd, Int.reduceSub, Int.reduceMul, Int.reduceToNat, Nat.reduceAdd, noUnk, AV.cells, reduceCtorEq, Nat.reduceLeDiff, Cells.get, Nat.reduceMul, ↓bnd_assoc]
  subst hcs
  refine Fin.loop (calls_loop (Γ := Γ) (j2 := H.next) hE hG hs hn n 0 _ _ (.sl none 0 (.exact 0)) (by omega) (by simp only [↓sxp, sxq, ↓reduceIte, Nat.reduceBEq, Nat.reduceLT, evP, evX, evR, blkOf, evA, storeA, Nat.reduceEqDiff, resL, resV, oneOrTup, Int.reduceEq, Int.reduceLT, Int.reduceLE, Int.reduceNeg, Int.reduceAdd, Int.reduceSub, Int.reduceMul, Int.reduceToNat, Nat.reduceAdd, noUnk, AV.cells, reduceCtorEq, Nat.reduceLeDiff, Cells.get, Nat.reduceMul, ↓bnd_assoc]) (by simp only [↓sxp, sxq, ↓reduceIte, Nat.reduceBEq, Nat.reduceLT, evP, evX, evR, blkOf, evA, storeA, Nat.reduceEqDiff, resL, resV, oneOrTup, Int.reduceEq, Int.reduceLT, Int.reduceLE, Int.reduceNeg, Int.reduceAdd, Int.reduceSub, Int.reduceMul, Int.reduceToNat, Nat.reduceAdd, noUnk, AV.cells, reduceCtorEq, Nat.reduceLeDiff, Cells.get, Nat.reduceMul, ↓bnd_assoc]) (by simp only [↓sxp, sxq, ↓reduceIte, Nat.reduceBEq, Nat.reduceLT, evP, evX, evR, blkOf, evA, storeA, Nat.reduceEqDiff, resL, resV, oneOrTup, Int.reduceEq, Int.reduceLT, Int.reduceLE, Int.reduceNeg, Int.reduceAdd, Int.reduceSub, Int.reduceMul, Int.reduceToNat, Nat.reduceAdd, noUnk, AV.cells, reduceCtorEq, Nat.reduceLeDiff, Cells.get, Nat.reduceMul, ↓bnd_assoc]) (by simp only [↓sxp, sxq, ↓reduceIte, Nat.reduceBEq, Nat.reduceLT, evP, evX, evR, blkOf, evA, storeA, Nat.reduceEqDiff, resL, resV, oneOrTup, Int.reduceEq, Int.reduceLT, Int.reduceLE, Int.reduceNeg, Int.reduceAdd, Int.reduceSub, Int.reduceMul, Int.reduceToNat, Nat.reduceAdd, noUnk, AV.cells, reduceCtorEq, Nat.reduceLeDiff, Cells.get, Nat.reduceMul, ↓bnd_assoc]; rfl) ⟨[], HP.emp, rfl, fun i hi => by simp at hi, by exact (h2.empty).row_nil⟩) fun lv A H1 ⟨e1, v, a6, ds, D, h3, h4, h5⟩ => ?_
  subst e1
  simp only [a6, ↓sxp, sxq, ↓reduceIte, Nat.reduceBEq, Nat.reduceLT, evP, evX, evR, blkOf, evA, storeA, Nat.reduceEqDiff, resL, resV, oneOrTup, Int.reduceEq, Int.reduceLT, Int.reduceLE, Int.reduceNeg, Int.reduceAdd, Int.reduceSub, Int.reduceMul, Int.reduceToNat, Nat.reduceAdd, noUnk, AV.cells, reduceCtorEq, Nat.reduceLeDiff, Cells.get, Nat.reduceMul, ↓bnd_assoc]
  exact Fin.ret ⟨v, rfl, ds, D, h3, h4, h5.rm 2⟩
theorem c_calls_no (hE : EnvW E) {seed : List UInt8} {n : Int} (hn : n < 0 ∨ 1024 < n) (h : Holds H Γ) :
    ∃ H', go W E 11 [.agg (cb seed), .int .i64 n] H = some (.tup [.sl none 0 (.exact 0), .int .i64 2], H') ∧ Holds H' Γ := by
  apply Ends.out
  refine (show Fin (fun r : AV × Heap => r.1 = .tup [.sl none 0 (.exact 0), .int .i64 2] ∧ Holds r.2 Γ) _ from ?_)
  have h2 := h.push (c := cb seed) (t := 22)
  rw [go_code hE.f11 (by simp [sf11])]
  generalize hcs : cb seed = cs at *
  rcases hn with hn | hn
  · simp only [sf11, hn, ↓sxp, sxq, ↓reduceIte, Nat.reduceBEq, Nat.reduceLT, evP, evX, evR, blkOf, evA, storeA, Nat.reduceEqDiff, resL, resV, oneOrTup, Int.reduceEq, Int.reduceLT, Int.reduceLE, Int.reduceNeg, Int.reduceAdd, Int.reduceSub, Int.reduceMul, Int.reduceToNat, Nat.reduceAdd, noUnk, AV.cells, reduceCtorEq, Nat.reduceLeDiff, Cells.get, Nat.reduceMul, ↓bnd_assoc]
    exact Fin.ret ⟨rfl, h2.tail⟩
  · have b1 : ¬ n < 0 := by omega
    simp only [sf11, b1, hn, ↓sxp, sxq, ↓reduceIte, Nat.reduceBEq, Nat.reduceLT, evP, evX, evR, blkOf, evA, storeA, Nat.reduceEqDiff, resL, resV, oneOrTup, Int.reduceEq, Int.reduceLT, Int.reduceLE, Int.reduceNeg, Int.reduceAdd, Int.reduceSub, Int.reduceMul, Int.reduceToNat, Nat.reduceAdd, noUnk, AV.cells, reduceCtorEq, Nat.reduceLeDiff, Cells.get, Nat.reduceMul, ↓bnd_assoc]
    exact Fin.ret ⟨rfl, h2.tail⟩
end
end Go.Proofs.YtjfnhdiimibmiaaDoor.Sx

/- Lists of events. -/
namespace Go.Proofs.YtjfnhdiimibmiaaDoor.Sx
open HP
/-- An event: a call, or an outage. -/
inductive PEv where
  | call (c : CF)
  | pow (fuse : Nat) (ch : List UInt8) (again : Nat) (more : List UInt8)
abbrev nilS : AV := .sl none 0 (.exact 0)
def pevC : PEv → AV → AV → List AV
  | .call c, a, _ => .int .i64 1 :: (cfC c a ++ [.int .i64 0, .int .i64 0, nilS, .int .i64 0, nilS, .str [], .str [], nilS])
  | .pow fu _ ag _, a, b => .int .i64 4 :: (c0 ++ [.int .i64 0, .int .i64 (fu : Int), a, .int .i64 (ag : Int), b, .str [], .str [], nilS])
theorem pevC_len (e : PEv) (a b : AV) : (pevC e a b).length = 17 := by cases e <;> rfl
def powF (L : List UInt8) : PEv := .pow ((L.getD 9 0).toNat + (L.getD 10 0).toNat) ((L.drop 11).take 5) (L.getD 24 0).toNat ((L.drop 25).take 2)
def evsF (seed : List UInt8) (i : Nat) : List PEv := (if ((lotF seed i).getD 8 0).toNat < 64 then [powF (lotF seed i)] else []) ++ [.call (callF seed i)]
def pevs (seed : List UInt8) (n : Nat) : List PEv := (List.range n).flatMap (evsF seed)
theorem pevs_succ (seed : List UInt8) (n : Nat) : pevs seed (n + 1) = pevs seed n ++ evsF seed n := by
  unfold pevs
  rw [List.range_succ, List.flatMap_append]; simp
theorem pevs_len (seed : List UInt8) (n : Nat) : (pevs seed n).length ≤ 2 * n := by
  induction n with
  | zero => simp [pevs]
  | succ n ih =>
    rw [pevs_succ, List.length_append]
    have : (evsF seed n).length ≤ 2 := by unfold evsF; split <;> simp
    omega
def pevR (W : World) (x : PEv × AV × AV) (D : HP) : Prop := match x.1 with
  | .call c => RdLike W c.data x.2.1 D
  | .pow _ ch _ mo => RdLike W ch x.2.1 D ∧ RdLike W mo x.2.2 D
def flatE (xs : List (PEv × AV × AV)) : List AV := xs.flatMap fun x => pevC x.1 x.2.1 x.2.2
theorem flatE_len (xs : List (PEv × AV × AV)) : (flatE xs).length = xs.length * 17 := by
  unfold flatE
  exact flatMap_len (f := fun x : PEv × AV × AV => pevC x.1 x.2.1 x.2.2) (fun x => pevC_len x.1 x.2.1 x.2.2) xs
theorem flatE_snoc (xs : List (PEv × AV × AV)) (x : PEv × AV × AV) : flatE (xs ++ [x]) = flatE xs ++ pevC x.1 x.2.1 x.2.2 := by
  unfold flatE
  rw [List.flatMap_append]; simp
/-- A list of events that can be read. -/
def EsH (W : World) (es : List PEv) (H : Heap) (v : AV) (Γ : List HP) : Prop := ∃ (xs : List (PEv × AV × AV)) (D : HP), xs.map Prod.fst = es ∧ (∀ x ∈ xs, pevR W x D) ∧ Holds H (row 46 17 (flatE xs) v :: D :: Γ)
section
variable {W : World} {E : Env} {H : Heap} {Γ : List HP}
theorem pevR.sepR {x : PEv × AV × AV} {A B : HP} (h : pevR W x B) : pevR W x (HP.sep A B) := by
  obtain ⟨e, a, b⟩ := x
  cases e with
  | call c => exact RdLike.sepR h
  | pow fu ch ag mo => exact ⟨RdLike.sepR h.1, RdLike.sepR h.2⟩
theorem pevR.sepL {x : PEv × AV × AV} {A B : HP} (h : pevR W x A) : pevR W x (HP.sep A B) := by
  obtain ⟨e, a, b⟩ := x
  cases e with
  | call c => exact RdLike.sepL h
  | pow fu ch ag mo => exact ⟨RdLike.sepL h.1, RdLike.sepL h.2⟩
theorem Holds.bumps (h : Holds H Γ) (n : Nat) (ks : List Nat) (hd : ks.Nodup) (hl : ∀ k ∈ ks, k < n) : Holds { H with next := H.next + n } (ks.map (fun k => resv (H.next + k)) ++ Γ) := by
  have h' := h.bump n
  obtain ⟨fp, a⟩ := h.a
  have k := keep_bump (n := H.next + n) h.wf (Nat.le_add_right _ _)
  have hlt := fun i hi => (all Γ).lt h.wf a i hi
  have a' := (all Γ).keep h.wf a k (by simp)
  refine ⟨h'.wf, ks.map (H.next + ·) ++ fp, ?_⟩
  clear h'
  induction ks with
  | nil => exact a'
  | cons c ks ih =>
    rw [List.nodup_cons] at hd
    refine ⟨[H.next + c], ks.map (H.next + ·) ++ fp, ⟨rfl, by have := hl c (by simp); show _ < H.next + n; omega⟩, ih hd.2 (fun x hx => hl x (by simp [hx])), rfl, fun i hi hg => ?_⟩
    simp at hi
    rcases List.mem_append.1 hg with h1 | h1
    · obtain ⟨x, hx, e⟩ := List.mem_map.1 h1
      have : x = c := by omega
      exact hd.1 (this ▸ hx)
    · have := hlt i h1; omega
/-- The same, where what calls hold is read by another piece. -/
def pevQ (W : World) (x : PEv × AV × AV) (D Dc : HP) : Prop := match x.1 with
  | .call c => RdLike W c.data x.2.1 Dc
  | .pow _ ch _ mo => RdLike W ch x.2.1 D ∧ RdLike W mo x.2.2 D
def EsQ (W : World) (es : List PEv) (Dc : HP) (H : Heap) (v : AV) (Γ : List HP) : Prop := ∃ (xs : List (PEv × AV × AV)) (D : HP), xs.map Prod.fst = es ∧ (∀ x ∈ xs, pevQ W x D Dc) ∧ Holds H (row 46 17 (flatE xs) v :: D :: Dc :: Γ)
theorem EsQ.out {es : List PEv} {Dc : HP} {v : AV} (h : EsQ W es Dc H v Γ) : EsH W es H v Γ := by
  obtain ⟨xs, D, h1, h2, h3⟩ := h
  refine ⟨xs, HP.sep D Dc, h1, fun x hx => ?_, (((h3.ord [1, 1]).sep').ord [1])⟩
  have := h2 x hx
  obtain ⟨e, a, b⟩ := x
  cases e with
  | call c =>
    show RdLike W c.data a (HP.sep D Dc)
    exact RdLike.sepR this
  | pow fu ch ag mo => exact ⟨RdLike.sepL this.1, RdLike.sepL this.2⟩
theorem pevQ.sepR {x : PEv × AV × AV} {A B Dc : HP} (h : pevQ W x B Dc) : pevQ W x (HP.sep A B) Dc := by
  obtain ⟨e, a, b⟩ := x
  cases e with
  | call c => exact h
  | pow fu ch ag mo => exact ⟨RdLike.sepR h.1, RdLike.sepR h.2⟩
def cE : List AV := [.int .i64 0, .int .i64 0, .str [], .str [], .str [], .str [], .int .i64 0, .int .i64 0, nilS, .int .i64 0, .int .i64 0, nilS, .int .i64 0, nilS, .str [], .str [], nilS]
theorem events_loop (hE : EnvW E) {seed : List UInt8} (hs : seed.length = 32) {j2 n : Nat} (hn : n ≤ 1024) {vc : AV} {df : List Nat} : ∀ (m i : Nat) (A : Tm) (H : Heap) (v : AV) (ds : List AV) (Dc : HP), i + m = n → ds.length = n → (∀ i (hi : i < ds.length), RdLike W (callF seed i).data ds[i] Dc) → getX A 2 = .ptr (some ⟨.own j2, 0⟩) → getX A 8 = v → getX A 23 = vc → getX A 24 = .int .i64 n → getX A 25 = .int .i64 i → EsQ W (pevs seed i) Dc H v (row 29 8 (flatC seed ds) vc :: blk j2 (cb seed) 22 :: Γ) →
    ∃ lv A' H', run W E (.loop lp12_0) ⟨A, df, none⟩ H = some (lv, ⟨A', df, none⟩, H') ∧ (lv = .exit 0 ∧ ∃ v', getX A' 8 = v' ∧ EsQ W (pevs seed n) Dc H' v' (row 29 8 (flatC seed ds) vc :: blk j2 (cb seed) 22 :: Γ)) := by
  have hlp : ∀ f H, run W E lp12_0 f H = run W E lp12_0 f H := fun _ _ => rfl
  conv at hlp => enter [f, H, 2]; unfold lp12_0
  intro m
  induction m with
  | zero =>
    intro i A H v ds Dc him hdn hR a2 a8 a23 a24 a25 h
    have : i = n := by omega
    subst this
    have hlt : ¬ (i : Int) < i := by omega
    rw [run_loop]
    simp only [hlp, a24, a25, hlt, ↓sxp, sxq, ↓reduceIte, Nat.reduceBEq, Nat.reduceLT, evP, evX, evR, blkOf, evA, storeA, Nat.reduceEqDiff, resL, resV, oneOrTup, Int.reduceEq, Int.reduceLT, Int.reduceLE, Int.reduceNeg, Int.reduceAdd, Int.reduceSub, Int.reduceMul, Int.reduceToNat, Nat.reduceAdd, noUnk, AV.cells, reduceCtorEq, Nat.reduceLeDiff, Cells.get, Nat.reduceMul, ↓bnd_assoc]
    exact ⟨_, _, _, rfl, rfl, v, by simp only [a8, ↓sxp, sxq, ↓reduceIte, Nat.reduceBEq, Nat.reduceLT, evP, evX, evR, blkOf, evA, storeA, Nat.reduceEqDiff, resL, resV, oneOrTup, Int.reduceEq, Int.reduceLT, Int.reduceLE, Int.reduceNeg, Int.reduceAdd, Int.reduceSub, Int.reduceMul, Int.reduceToNat, Nat.reduceAdd, noUnk, AV.cells, reduceCtorEq, Nat.reduceLeDiff, Cells.get, Nat.reduceMul, ↓bnd_assoc], h⟩
  | succ m ih =>
    intro i A H v ds Dc him hdn hR a2 a8 a23 a24 a25 h
    have hlt : (i : Int) < n := by omega
    have hwr : IntKind.i64.wrap ((i : Int) + 1) = ((i + 1 : Nat) : Int) := by rw [w64 (by omega)]; simp
    obtain ⟨xs, D, hx1, hx2, hh⟩ := h
    obtain ⟨jc, lc, cc, rfl, gc⟩ := (hh.ord [3]).row_get (by omega) (n := n) (by rw [flatC_len, hdn]) (by omega)
    have hgc : Cells.getN (.lst (flatC seed ds)) (i * 8) 8 = some (cfC (callF seed i) (ds[i]'(by omega))) := by
      have := getN_sub (i * 8) 8 (getN_all (flatC seed ds)) (by rw [flatC_len]; omega)
      rw [flatC_get seed ds i (by omega), Nat.zero_add] at this
      exact this
    have hRi : RdLike W (callF seed i).data (ds[i]'(by omega)) Dc := fun hh => hR i (by omega) hh
    generalize hdv : (ds[i]'(by omega)) = dv at *
    have hd1 := (hRi (hh.ord [2])).one.2.2
    have hc8 := cfC_len (callF seed i) dv
    have hco := cfC_one (callF seed i) dv hd1
    have hcg := cfC_getN (callF seed i) dv
    have h1 := hh.push (c := c0) (t := 29)
    generalize hC : cfC (callF seed i) dv = C at *
    have g2 := (h1.ord [5]).get
    have hgs := getN_cb hs
    apply Fin.ex3
    rw [run_loop]
    generalize hcs : cb seed = cs at *
    simp only [hlp, a2, a23, a24, a25, hlt, Int.natCast_nonneg, and_self, Int.toNat_natCast, ↓gc, ↓hgc, hc8, ↓sxp, sxq, ↓reduceIte, Nat.reduceBEq, Nat.reduceLT, evP, evX, evR, blkOf, evA, storeA, Nat.reduceEqDiff, resL, resV, oneOrTup, Int.reduceEq, Int.reduceLT, Int.reduceLE, Int.reduceNeg, Int.reduceAdd, Int.reduceSub, Int.reduceMul, Int.reduceToNat, Nat.reduceAdd, noUnk, AV.cells, reduceCtorEq, Nat.reduceLeDiff, Cells.get, Nat.reduceMul, ↓bnd_assoc]
    generalize H.next = j10 at *
    refine Fin.write C h1 (setN_all (by rw [hc8]; rfl)) (by rw [hc8]; exact Nat.le_refl _) hco fun H2 h2 => ?_
    have g22 := (h2.ord [5]).get
    simp only [a2, ↓g22, ↓hgs, ↓sxp, sxq, ↓reduceIte, Nat.reduceBEq, Nat.reduceLT, evP, evX, evR, blkOf, evA, storeA, Nat.reduceEqDiff, resL, resV, oneOrTup, Int.reduceEq, Int.reduceLT, Int.reduceLE, Int.reduceNeg, Int.reduceAdd, Int.reduceSub, Int.reduceMul, Int.reduceToNat, Nat.reduceAdd, noUnk, AV.cells, reduceCtorEq, Nat.reduceLeDiff, Cells.get, Nat.reduceMul, ↓bnd_assoc]
    subst hcs
    refine Fin.call (c_lot hE hs (show i ≤ 1024 by omega) h2) fun H3 h3 => ?_
    have hl := lotF_len seed i
    have hevs : evsF seed i = (if ((lotF seed i).getD 8 0).toNat < 64 then [powF (lotF seed i)] else []) ++ [.call (callF seed i)] := rfl
    have hps := pevs_succ seed i
    rw [hevs] at hps
    generalize lotF seed i = L at *
    have hc32 : (cb L).length = 32 := by rw [cb_len, hl]
    have h4 := h3.push (c := z32) (t := 22)
    simp only [hc32, z32_eq, ↓sxp, sxq, ↓reduceIte, Nat.reduceBEq, Nat.reduceLT, evP, evX, evR, blkOf, evA, storeA, Nat.reduceEqDiff, resL, resV, oneOrTup, Int.reduceEq, Int.reduceLT, Int.reduceLE, Int.reduceNeg, Int.reduceAdd, Int.reduceSub, Int.reduceMul, Int.reduceToNat, Nat.reduceAdd, noUnk, AV.cells, reduceCtorEq, Nat.reduceLeDiff, Cells.get, Nat.reduceMul, ↓bnd_assoc]
    generalize H3.next = j11 at *
    refine Fin.write (cb L) h4 (setN_all (by rw [hc32]; rfl)) (by rw [hc32]; exact Nat.le_refl _) (cb_one L) fun H5 h5 => ?_
    have g5 := h5.get
    have x8 : (cb L)[8]? = some (.int .u8 (L.getD 8 0).toNat) := cb_get (show 8 < L.length by omega)
    have hxl := pevs_len seed i
    rw [← hx1, List.length_map] at hxl
    by_cases h64 : (L.getD 8 0).toNat < 64
    · have h64' : ((L.getD 8 0).toNat : Int) < 64 := by omega
      rw [if_pos h64] at hps
      have hA : Holds _ (resv (H5.next + 7) :: resv (H5.next + 13) :: resv (H5.next + 17) :: blk j11 (cb L) 22 :: blk j10 C 29 :: row 46 17 (flatE xs) v :: D :: Dc :: row 29 8 (flatC seed ds) (.sl (some ⟨.own jc, 0⟩) n cc) :: blk j2 (cb seed) 22 :: Γ) := h5.bumps 19 [7, 13, 17] (by simp) (by simp)
      have hB := hA.lay (c := []) (t := 5)
      have hgl := getN_all (cb L)
      rw [cb_len, hl] at hgl
      have l5 : ((L.drop 11).take 5).length = 5 := by rw [List.length_take, List.length_drop]; omega
      have l2 : ((L.drop 25).take 2).length = 2 := by rw [List.length_take, List.length_drop]; omega
      have hs5 : Cells.getN (.lst (cb L)) 11 5 = some (cb ((L.drop 11).take 5)) := by
        have := getN_sub 11 5 hgl (by omega)
        rw [cb_sub, Nat.zero_add] at this; exact this
      have hs2 : Cells.getN (.lst (cb L)) 25 2 = some (cb ((L.drop 25).take 2)) := by
        have := getN_sub 25 2 hgl (by omega)
        rw [cb_sub, Nat.zero_add] at this; exact this
      obtain ⟨va, Ha, ea, ha⟩ := hB.eadd (W := W) (ty := 5) (bytes := 1) (k := 5) (new := cb ((L.drop 11).take 5)) (by omega) (by rw [cb_len, l5]) (cb_one _) (by omega)
      have ea' : appA W (({ H5 with next := H5.next + 19 } : Heap).lay (H5.next + 7) (.cells (.lst []) 5 none)) 5 1 1 false (.sl (some ⟨.own (H5.next + 7), 0⟩) 0 (.exact 0)) (.sl (some ⟨.own j11, 11⟩) 5 (.exact 21)) = some (va, Ha) := by
        have gB := (hB.ord [3]).get
        simp only [appA, srcA, blkOf, gB, Nat.mul_one, hs5]; exact ea
      have hC2 := (ha.ord [2]).lay (c := []) (t := 5)
      obtain ⟨vb, Hb, eb, hb⟩ := hC2.eadd (W := W) (ty := 5) (bytes := 1) (k := 2) (new := cb ((L.drop 25).take 2)) (by omega) (by rw [cb_len, l2]) (cb_one _) (by omega)
      have eb' : appA W (Ha.lay (H5.next + 13) (.cells (.lst []) 5 none)) 5 1 1 false (.sl (some ⟨.own (H5.next + 13), 0⟩) 0 (.exact 0)) (.sl (some ⟨.own j11, 25⟩) 2 (.exact 7)) = some (vb, Hb) := by
        have gC := (hC2.ord [4]).get
        simp only [appA, srcA, blkOf, gC, Nat.mul_one, hs2]; exact eb
      have gH0 := (hA.ord [3]).get
      have gHa := (ha.ord [4]).get
      have gHb := (hb.ord [5]).get
      have x9 : (cb L)[9]? = some (.int .u8 (L.getD 9 0).toNat) := cb_get (show 9 < L.length by omega)
      have x10 : (cb L)[10]? = some (.int .u8 (L.getD 10 0).toNat) := cb_get (show 10 < L.length by omega)
      have x24 : (cb L)[24]? = some (.int .u8 (L.getD 24 0).toNat) := cb_get (show 24 < L.length by omega)
      have w1 : IntKind.i64.wrap (((L.getD 9 0).toNat : Int) + ((L.getD 10 0).toNat : Int)) = (((L.getD 9 0).toNat + (L.getD 10 0).toNat : Nat) : Int) := by
        have := (L.getD 9 0).toNat_lt
        have := (L.getD 10 0).toNat_lt
        rw [w64 (by omega)]; simp
      have bA : ∀ A : Tm, bounds A 32 32 (some (.c (.int .i64 11))) (some (.c (.int .i64 16))) none = some (11, 16, 32) := fun _ => rfl
      have bB : ∀ A : Tm, bounds A 32 32 (some (.c (.int .i64 25))) (some (.c (.int .i64 27))) none = some (25, 27, 32) := fun _ => rfl
      have hva := ((RdLike.row (W := W) _ va) ha).one.2.2
      have hvb := ((RdLike.row (W := W) _ vb) hb).one.2.2
      have hD := (hb.ord [4]).lay (c := [.int .i64 0, nilS, .int .i64 0, nilS]) (t := 44)
      simp only [a8, nc32, ↓g5, x8, h64', ↓bA, ↓bB, Nat.reduceSub, ↓ea', ↓eb', ↓gH0, ↓gHa, ↓gHb, x9, x10, x24, conv_i64, w1, hva, hvb, ↓sxp, sxq, ↓reduceIte, Nat.reduceBEq, Nat.reduceLT, evP, evX, evR, blkOf, evA, storeA, Nat.reduceEqDiff, resL, resV, oneOrTup, Int.reduceEq, Int.reduceLT, Int.reduceLE, Int.reduceNeg, Int.reduceAdd, Int.reduceSub, Int.reduceMul, Int.reduceToNat, Nat.reduceAdd, noUnk, AV.cells, reduceCtorEq, Nat.reduceLeDiff, Cells.get, Nat.reduceMul, ↓bnd_assoc]
      refine Fin.write [.int .i64 (((L.getD 9 0).toNat + (L.getD 10 0).toNat : Nat) : Int), va, .int .i64 ((L.getD 24 0).toNat : Int), vb] hD rfl (by simp) (by simp only [List.all_cons, List.all_nil, hva, hvb, oneC_int, Bool.and_self]) fun HE hE2 => ?_
      have gE := hE2.get
      have hg4 : ∀ a b c d : AV, Cells.getN (.lst [a, b, c, d]) 0 4 = some [a, b, c, d] := fun _ _ _ _ => rfl
      have hp1 : pevC (powF L) va vb = [.int .i64 4, .int .i64 0, .str [], .str [], .str [], .str [], .int .i64 0, .int .i64 0, nilS, .int .i64 0, .int .i64 (((L.getD 9 0).toNat + (L.getD 10 0).toNat : Nat) : Int), va, .int .i64 ((L.getD 24 0).toNat : Int), vb, .str [], .str [], nilS] := rfl
      have hp2 : (pevC (powF L) va vb).all oneC = true := by
        rw [hp1]
        simp only [List.all_cons, List.all_nil, hva, hvb, oneC_int, oneC_str, oneC_sl, Bool.and_self]
      have hp3 := pevC_len (powF L) va vb
      have hF := hE2.push (c := pevC (powF L) va vb) (t := 46)
      simp only [↓gE, ↓hg4, ↓sxp, sxq, ↓reduceIte, Nat.reduceBEq, Nat.reduceLT, evP, evX, evR, blkOf, evA, storeA, Nat.reduceEqDiff, resL, resV, oneOrTup, Int.reduceEq, Int.reduceLT, Int.reduceLE, Int.reduceNeg, Int.reduceAdd, Int.reduceSub, Int.reduceMul, Int.reduceToNat, Nat.reduceAdd, noUnk, AV.cells, reduceCtorEq, Nat.reduceLeDiff, Cells.get, Nat.reduceMul, ↓bnd_assoc]
      rw [← hp1]
      have gF := hF.get
      generalize hQ : pevC (powF L) va vb = Q at *
      have hgQ : Cells.getN (.lst Q) 0 17 = some Q := by
        have := getN_all Q
        rw [hp3] at this; exact this
      refine Fin.app (hF.ord [8]) (by omega) (by simp only [srcA, blkOf, gF, Nat.one_mul, hgQ]; rfl) (by omega) (new := Q) (n := xs.length) (by rw [hp3]) hp2 (flatE_len xs) (by omega) fun vp K5 hG => ?_
      rw [← hQ, ← flatE_snoc xs (powF L, va, vb)] at hG
      have k5 : Holds K5 (blk j11 (cb L) 22 :: blk j10 C 29 :: row 46 17 (flatE (xs ++ [(powF L, va, vb)])) vp :: HP.sep (row 5 1 (cb ((L.drop 11).take 5)) va) (HP.sep (row 5 1 (cb ((L.drop 25).take 2)) vb) D) :: Dc :: row 29 8 (flatC seed ds) (.sl (some ⟨.own jc, 0⟩) n cc) :: blk j2 (cb seed) 22 :: Γ) := by
        have q := ((((hG.rm 1).rm 1).rm 2).rm 3)
        have q2 := ((q.ord [1, 4]).sep').ord [2, 0]
        exact (q2.sep').ord [2, 2, 1, 0]
      have ky1 : (xs ++ [(powF L, va, vb)]).map Prod.fst = pevs seed i ++ [powF L] := by rw [List.map_append, hx1]; rfl
      have ky2 : ∀ x ∈ xs ++ [(powF L, va, vb)], pevQ W x (HP.sep (row 5 1 (cb ((L.drop 11).take 5)) va) (HP.sep (row 5 1 (cb ((L.drop 25).take 2)) vb) D)) Dc := fun x hx => by
        rcases List.mem_append.1 hx with hx | hx
        · exact ((hx2 x hx).sepR).sepR
        · simp at hx; subst hx
          exact ⟨RdLike.sepL (RdLike.row _ va), RdLike.sepR (RdLike.sepL (RdLike.row _ vb))⟩
      have hyl : (xs ++ [(powF L, va, vb)]).length ≤ 2 * i + 1 := by rw [List.length_append]; simp; omega
      generalize xs ++ [(powF L, va, vb)] = ys at *
      have gK := (k5.ord [1]).get
      simp only [↓gK, ↓hcg, hc8, List.length_append, ↓sxp, sxq, ↓reduceIte, Nat.reduceBEq, Nat.reduceLT, evP, evX, evR, blkOf, evA, storeA, Nat.reduceEqDiff, resL, resV, oneOrTup, Int.reduceEq, Int.reduceLT, Int.reduceLE, Int.reduceNeg, Int.reduceAdd, Int.reduceSub, Int.reduceMul, Int.reduceToNat, Nat.reduceAdd, noUnk, AV.cells, reduceCtorEq, Nat.reduceLeDiff, Cells.get, Nat.reduceMul, ↓bnd_assoc]
      have hpc : pevC (.call (callF seed i)) dv dv = .int .i64 1 :: (C ++ [.int .i64 0, .int .i64 0, nilS, .int .i64 0, nilS, .str [], .str [], nilS]) := by simp only [pevC]; rw [hC]
      have hpo : (pevC (.call (callF seed i)) dv dv).all oneC = true := by
        rw [hpc, List.all_cons, List.all_append, hco]; rfl
      have hpl := pevC_len (.call (callF seed i)) dv dv
      rw [← hpc]
      generalize hP : pevC (.call (callF seed i)) dv dv = P at *
      have h6 := k5.push (c := P) (t := 46)
      have g6 := h6.get
      have hgP : Cells.getN (.lst P) 0 17 = some P := by
        have := getN_all P
        rw [hpl] at this; exact this
      refine Fin.app (h6.ord [3]) (by omega) (by simp only [srcA, blkOf, g6, Nat.one_mul, hgP]; rfl) (by omega) (new := P) (n := ys.length) (by rw [hpl]) hpo (flatE_len ys) (by omega) fun v' H7 h7 => ?_
      rw [← hP, ← flatE_snoc ys (PEv.call (callF seed i), dv, dv)] at h7
      simp only [a25, hwr, ↓sxp, sxq, ↓reduceIte, Nat.reduceBEq, Nat.reduceLT, evP, evX, evR, blkOf, evA, storeA, Nat.reduceEqDiff, resL, resV, oneOrTup, Int.reduceEq, Int.reduceLT, Int.reduceLE, Int.reduceNeg, Int.reduceAdd, Int.reduceSub, Int.reduceMul, Int.reduceToNat, Nat.reduceAdd, noUnk, AV.cells, reduceCtorEq, Nat.reduceLeDiff, Cells.get, Nat.reduceMul, ↓bnd_assoc]
      refine Fin.of3 (ih (i + 1) _ _ v' ds Dc (by omega) hdn hR (by simp only [a2, ↓sxp, sxq, ↓reduceIte, Nat.reduceBEq, Nat.reduceLT, evP, evX, evR, blkOf, evA, storeA, Nat.reduceEqDiff, resL, resV, oneOrTup, Int.reduceEq, Int.reduceLT, Int.reduceLE, Int.reduceNeg, Int.reduceAdd, Int.reduceSub, Int.reduceMul, Int.reduceToNat, Nat.reduceAdd, noUnk, AV.cells, reduceCtorEq, Nat.reduceLeDiff, Cells.get, Nat.reduceMul, ↓bnd_assoc]) (by simp only [↓sxp, sxq, ↓reduceIte, Nat.reduceBEq, Nat.reduceLT, evP, evX, evR, blkOf, evA, storeA, Nat.reduceEqDiff, resL, resV, oneOrTup, Int.reduceEq, Int.reduceLT, Int.reduceLE, Int.reduceNeg, Int.reduceAdd, Int.reduceSub, Int.reduceMul, Int.reduceToNat, Nat.reduceAdd, noUnk, AV.cells, reduceCtorEq, Nat.reduceLeDiff, Cells.get, Nat.reduceMul, ↓bnd_assoc]) (by simp only [a23, ↓sxp, sxq, ↓reduceIte, Nat.reduceBEq, Nat.reduceLT, evP, evX, evR, blkOf, evA, storeA, Nat.reduceEqDiff, resL, resV, oneOrTup, Int.reduceEq, Int.reduceLT, Int.reduceLE, Int.reduceNeg, Int.reduceAdd, Int.reduceSub, Int.reduceMul, Int.reduceToNat, Nat.reduceAdd, noUnk, AV.cells, reduceCtorEq, Nat.reduceLeDiff, Cells.get, Nat.reduceMul, ↓bnd_assoc]) (by simp only [a24, ↓sxp, sxq, ↓reduceIte, Nat.reduceBEq, Nat.reduceLT, evP, evX, evR, blkOf, evA, storeA, Nat.reduceEqDiff, resL, resV, oneOrTup, Int.reduceEq, Int.reduceLT, Int.reduceLE, Int.reduceNeg, Int.reduceAdd, Int.reduceSub, Int.reduceMul, Int.reduceToNat, Nat.reduceAdd, noUnk, AV.cells, reduceCtorEq, Nat.reduceLeDiff, Cells.get, Nat.reduceMul, ↓bnd_assoc]) (by simp only [↓sxp, sxq, ↓reduceIte, Nat.reduceBEq, Nat.reduceLT, evP, evX, evR, blkOf, evA, storeA, Nat.reduceEqDiff, resL, resV, oneOrTup, Int.reduceEq, Int.reduceLT, Int.reduceLE, Int.reduceNeg, Int.reduceAdd, Int.reduceSub, Int.reduceMul, Int.reduceToNat, Nat.reduceAdd, noUnk, AV.cells, reduceCtorEq, Nat.reduceLeDiff, Cells.get, Nat.reduceMul, ↓bnd_assoc]) ⟨ys ++ [(PEv.call (callF seed i), dv, dv)], HP.sep (row 5 1 (cb ((L.drop 11).take 5)) va) (HP.sep (row 5 1 (cb ((L.drop 25).take 2)) vb) D), by rw [List.map_append, ky1, hps]; simp, fun x hx => ?_, ((h7.rm 1).rm 1).rm 1⟩) fun lv A' H' q => q
      rcases List.mem_append.1 hx with hx | hx
      · exact ky2 x hx
      · simp at hx; subst hx; exact hRi
    · have h64' : ¬ ((L.getD 8 0).toNat : Int) < 64 := by omega
      rw [if_neg h64, List.nil_append] at hps
      have g5b := (h5.ord [1]).get
      simp only [a8, nc32, ↓g5, ↓g5b, ↓hcg, hc8, x8, h64', List.length_append, ↓sxp, sxq, ↓reduceIte, Nat.reduceBEq, Nat.reduceLT, evP, evX, evR, blkOf, evA, storeA, Nat.reduceEqDiff, resL, resV, oneOrTup, Int.reduceEq, Int.reduceLT, Int.reduceLE, Int.reduceNeg, Int.reduceAdd, Int.reduceSub, Int.reduceMul, Int.reduceToNat, Nat.reduceAdd, noUnk, AV.cells, reduceCtorEq, Nat.reduceLeDiff, Cells.get, Nat.reduceMul, ↓bnd_assoc]
      have hpc : pevC (.call (callF seed i)) dv dv = .int .i64 1 :: (C ++ [.int .i64 0, .int .i64 0, nilS, .int .i64 0, nilS, .str [], .str [], nilS]) := by simp only [pevC]; rw [hC]
      have hpo : (pevC (.call (callF seed i)) dv dv).all oneC = true := by
        rw [hpc, List.all_cons, List.all_append, hco]; rfl
      have hpl := pevC_len (.call (callF seed i)) dv dv
      rw [← hpc]
      generalize hP : pevC (.call (callF seed i)) dv dv = P at *
      have h6 := h5.push (c := P) (t := 46)
      have g6 := h6.get
      have hgP : Cells.getN (.lst P) 0 17 = some P := by
        have := getN_all P
        rw [hpl] at this; exact this
      refine Fin.app (h6.ord [3]) (by omega) (by simp only [srcA, blkOf, g6, Nat.one_mul, hgP]; rfl) (by omega) (new := P) (n := xs.length) (by rw [hpl]) hpo (flatE_len xs) (by omega) fun v' H7 h7 => ?_
      rw [← hP, ← flatE_snoc xs (PEv.call (callF seed i), dv, dv)] at h7
      simp only [a25, hwr, ↓sxp, sxq, ↓reduceIte, Nat.reduceBEq, Nat.reduceLT, evP, evX, evR, blkOf, evA, storeA, Nat.reduceEqDiff, resL, resV, oneOrTup, Int.reduceEq, Int.reduceLT, Int.reduceLE, Int.reduceNeg, Int.reduceAdd, Int.reduceSub, Int.reduceMul, Int.reduceToNat, Nat.reduceAdd, noUnk, AV.cells, reduceCtorEq, Nat.reduceLeDiff, Cells.get, Nat.reduceMul, ↓bnd_assoc]
      refine Fin.of3 (ih (i + 1) _ _ v' ds Dc (by omega) hdn hR (by simp only [a2, ↓sxp, sxq, ↓reduceIte, Nat.reduceBEq, Nat.reduceLT, evP, evX, evR, blkOf, evA, storeA, Nat.reduceEqDiff, resL, resV, oneOrTup, Int.reduceEq, Int.reduceLT, Int.reduceLE, Int.reduceNeg, Int.reduceAdd, Int.reduceSub, Int.reduceMul, Int.reduceToNat, Nat.reduceAdd, noUnk, AV.cells, reduceCtorEq, Nat.reduceLeDiff, Cells.get, Nat.reduceMul, ↓bnd_assoc]) (by simp only [↓sxp, sxq, ↓reduceIte, Nat.reduceBEq, Nat.reduceLT, evP, evX, evR, blkOf, evA, storeA, Nat.reduceEqDiff, resL, resV, oneOrTup, Int.reduceEq, Int.reduceLT, Int.reduceLE, Int.reduceNeg, Int.reduceAdd, Int.reduceSub, Int.reduceMul, Int.reduceToNat, Nat.reduceAdd, noUnk, AV.cells, reduceCtorEq, Nat.reduceLeDiff, Cells.get, Nat.reduceMul, ↓bnd_assoc]) (by simp only [a23, ↓sxp, sxq, ↓reduceIte, Nat.reduceBEq, Nat.reduceLT, evP, evX, evR, blkOf, evA, storeA, Nat.reduceEqDiff, resL, resV, oneOrTup, Int.reduceEq, Int.reduceLT, Int.reduceLE, Int.reduceNeg, Int.reduceAdd, Int.reduceSub, Int.reduceMul, Int.reduceToNat, Nat.reduceAdd, noUnk, AV.cells, reduceCtorEq, Nat.reduceLeDiff, Cells.get, Nat.reduceMul, ↓bnd_assoc]) (by simp only [a24, ↓sxp, sxq, ↓reduceIte, Nat.reduceBEq, Nat.reduceLT, evP, evX, evR, blkOf, evA, storeA, Nat.reduceEqDiff, resL, resV, oneOrTup, Int.reduceEq, Int.reduceLT, Int.reduceLE, Int.reduceNeg, Int.reduceAdd, Int.reduceSub, Int.reduceMul, Int.reduceToNat, Nat.reduceAdd, noUnk, AV.cells, reduceCtorEq, Nat.reduceLeDiff, Cells.get, Nat.reduceMul, ↓bnd_assoc]) (by simp only [↓sxp, sxq, ↓reduceIte, Nat.reduceBEq, Nat.reduceLT, evP, evX, evR, blkOf, evA, storeA, Nat.reduceEqDiff, resL, resV, oneOrTup, Int.reduceEq, Int.reduceLT, Int.reduceLE, Int.reduceNeg, Int.reduceAdd, Int.reduceSub, Int.reduceMul, Int.reduceToNat, Nat.reduceAdd, noUnk, AV.cells, reduceCtorEq, Nat.reduceLeDiff, Cells.get, Nat.reduceMul, ↓bnd_assoc]) ⟨xs ++ [(PEv.call (callF seed i), dv, dv)], D, by rw [List.map_append, hx1, hps]; rfl, fun x hx => ?_, ((h7.rm 1).rm 1).rm 1⟩) fun lv A' H' q => q
      rcases List.mem_append.1 hx with hx | hx
      · exact hx2 x hx
      · simp at hx; subst hx; exact hRi
theorem c_events (hE : EnvW E) (hG : GK W) {seed : List UInt8} {n : Nat} (hs : seed.length = 32) (hn : n ≤ 1024) (h : Holds H Γ) :
    ∃ v H', go W E 12 [.agg (cb seed), .int .i64 (n : Int)] H = some (.tup [v, .int .i64 0], H') ∧ EsH W (pevs seed n) H' v Γ := by
  suffices hh : Fin (fun r : AV × Heap => ∃ v, r.1 = .tup [v, .int .i64 0] ∧ EsH W (pevs seed n) r.2 v Γ) (go W E 12 [.agg (cb seed), .int .i64 (n : Int)] H) by
    obtain ⟨⟨r, H'⟩, e, v, hr, q⟩ := hh
    simp only at hr
    subst hr
    exact ⟨v, H', e, q⟩
  have h2 := h.push (c := cb seed) (t := 22)
  have g2 := h2.get
  have hgs := getN_cb hs
  rw [go_code hE.f12 (by simp [sf12])]
  generalize hcs : cb seed = cs at *
  simp only [sf12, ↓g2, ↓hgs, ↓sxp, sxq, ↓reduceIte, Nat.reduceBEq, Nat.reduceLT, evP, evX, evR, blkOf, evA, storeA, Nat.reduceEqDiff, resL, resV, oneOrTup, Int.reduceEq, Int.reduceLT, Int.reduceLE, Int.reduceNeg, Int.reduceAdd, Int.reduceSub, Int.reduceMul, Int.reduceToNat, Nat.reduceAdd, noUnk, AV.cells, reduceCtorEq, Nat.reduceLeDiff, Cells.get, Nat.reduceMul, ↓bnd_assoc]
  subst hcs
  refine Fin.callX (fun r H' => ∃ v, r = .tup [v, .int .i64 0] ∧ CsH W seed n H' v (blk H.next (cb seed) 22 :: Γ)) (by obtain ⟨v, H', e, q⟩ := c_calls hE hG hs hn h2; exact ⟨_, H', e, v, rfl, q⟩) fun r H3 ⟨vc, hr, ds, D, hdn, hR, h3⟩ => ?_
  subst hr
  obtain ⟨ac, cc, ev⟩ := h3.row_len (by omega) (n := n) (by rw [flatC_len, hdn])
  have hlen : lenV vc = some (.int .i64 n) := by rw [ev]; rfl
  simp only [hlen, ↓sxp, sxq, ↓reduceIte, Nat.reduceBEq, Nat.reduceLT, evP, evX, evR, blkOf, evA, storeA, Nat.reduceEqDiff, resL, resV, oneOrTup, Int.reduceEq, Int.reduceLT, Int.reduceLE, Int.reduceNeg, Int.reduceAdd, Int.reduceSub, Int.reduceMul, Int.reduceToNat, Nat.reduceAdd, noUnk, AV.cells, reduceCtorEq, Nat.reduceLeDiff, Cells.get, Nat.reduceMul, ↓bnd_assoc]
  have h4 : EsQ W (pevs seed 0) D H3 nilS (row 29 8 (flatC seed ds) vc :: blk H.next (cb seed) 22 :: Γ) := ⟨[], HP.emp, rfl, fun x hx => by simp at hx, (((h3.ord [1]).empty).row_nil)⟩
  refine Fin.loop (events_loop (Γ := Γ) (j2 := H.next) hE hs hn (vc := vc) n 0 _ _ nilS ds D (by omega) hdn hR (by simp only [↓sxp, sxq, ↓reduceIte, Nat.reduceBEq, Nat.reduceLT, evP, evX, evR, blkOf, evA, storeA, Nat.reduceEqDiff, resL, resV, oneOrTup, Int.reduceEq, Int.reduceLT, Int.reduceLE, Int.reduceNeg, Int.reduceAdd, Int.reduceSub, Int.reduceMul, Int.reduceToNat, Nat.reduceAdd, noUnk, AV.cells, reduceCtorEq, Nat.reduceLeDiff, Cells.get, Nat.reduceMul, ↓bnd_assoc]) (by simp only [↓sxp, sxq, ↓reduceIte, Nat.reduceBEq, Nat.reduceLT, evP, evX, evR, blkOf, evA, storeA, Nat.reduceEqDiff, resL, resV, oneOrTup, Int.reduceEq, Int.reduceLT, Int.reduceLE, Int.reduceNeg, Int.reduceAdd, Int.reduceSub, Int.reduceMul, Int.reduceToNat, Nat.reduceAdd, noUnk, AV.cells, reduceCtorEq, Nat.reduceLeDiff, Cells.get, Nat.reduceMul, ↓bnd_assoc]) (by simp only [↓sxp, sxq, ↓reduceIte, Nat.reduceBEq, Nat.reduceLT, evP, evX, evR, blkOf, evA, storeA, Nat.reduceEqDiff, resL, resV, oneOrTup, Int.reduceEq, Int.reduceLT, Int.reduceLE, Int.reduceNeg, Int.reduceAdd, Int.reduceSub, Int.reduceMul, Int.reduceToNat, Nat.reduceAdd, noUnk, AV.cells, reduceCtorEq, Nat.reduceLeDiff, Cells.get, Nat.reduceMul, ↓bnd_assoc]) (by simp only [↓sxp, sxq, ↓reduceIte, Nat.reduceBEq, Nat.reduceLT, evP, evX, evR, blkOf, evA, storeA, Nat.reduceEqDiff, resL, resV, oneOrTup, Int.reduceEq, Int.reduceLT, Int.reduceLE, Int.reduceNeg, Int.reduceAdd, Int.reduceSub, Int.reduceMul, Int.reduceToNat, Nat.reduceAdd, noUnk, AV.cells, reduceCtorEq, Nat.reduceLeDiff, Cells.get, Nat.reduceMul, ↓bnd_assoc]) (by simp only [↓sxp, sxq, ↓reduceIte, Nat.reduceBEq, Nat.reduceLT, evP, evX, evR, blkOf, evA, storeA, Nat.reduceEqDiff, resL, resV, oneOrTup, Int.reduceEq, Int.reduceLT, Int.reduceLE, Int.reduceNeg, Int.reduceAdd, Int.reduceSub, Int.reduceMul, Int.reduceToNat, Nat.reduceAdd, noUnk, AV.cells, reduceCtorEq, Nat.reduceLeDiff, Cells.get, Nat.reduceMul, ↓bnd_assoc]; rfl) h4) fun lv A H5 ⟨e1, v, a8, h5⟩ => ?_
  subst e1
  simp only [a8, ↓sxp, sxq, ↓reduceIte, Nat.reduceBEq, Nat.reduceLT, evP, evX, evR, blkOf, evA, storeA, Nat.reduceEqDiff, resL, resV, oneOrTup, Int.reduceEq, Int.reduceLT, Int.reduceLE, Int.reduceNeg, Int.reduceAdd, Int.reduceSub, Int.reduceMul, Int.reduceToNat, Nat.reduceAdd, noUnk, AV.cells, reduceCtorEq, Nat.reduceLeDiff, Cells.get, Nat.reduceMul, ↓bnd_assoc]
  obtain ⟨xs, D2, q1, q2, q3⟩ := h5.out
  exact Fin.ret ⟨v, rfl, xs, D2, q1, q2, (q3.rm 2).rm 2⟩
theorem c_events_no (hE : EnvW E) {seed : List UInt8} {n : Int} (hs : seed.length = 32) (hn : n < 0 ∨ 1024 < n) (h : Holds H Γ) :
    ∃ H', go W E 12 [.agg (cb seed), .int .i64 n] H = some (.tup [.sl none 0 (.exact 0), .int .i64 2], H') ∧ Holds H' Γ := by
  apply Ends.out
  refine (show Fin (fun r : AV × Heap => r.1 = .tup [.sl none 0 (.exact 0), .int .i64 2] ∧ Holds r.2 Γ) _ from ?_)
  have h2 := h.push (c := cb seed) (t := 22)
  have g2 := h2.get
  have hgs := getN_cb hs
  rw [go_code hE.f12 (by simp [sf12])]
  generalize hcs : cb seed = cs at *
  simp only [sf12, ↓g2, ↓hgs, ↓sxp, sxq, ↓reduceIte, Nat.reduceBEq, Nat.reduceLT, evP, evX, evR, blkOf, evA, storeA, Nat.reduceEqDiff, resL, resV, oneOrTup, Int.reduceEq, Int.reduceLT, Int.reduceLE, Int.reduceNeg, Int.reduceAdd, Int.reduceSub, Int.reduceMul, Int.reduceToNat, Nat.reduceAdd, noUnk, AV.cells, reduceCtorEq, Nat.reduceLeDiff, Cells.get, Nat.reduceMul, ↓bnd_assoc]
  subst hcs
  refine Fin.call (c_calls_no hE hn h2) fun H3 h3 => ?_
  simp only [↓sxp, sxq, ↓reduceIte, Nat.reduceBEq, Nat.reduceLT, evP, evX, evR, blkOf, evA, storeA, Nat.reduceEqDiff, resL, resV, oneOrTup, Int.reduceEq, Int.reduceLT, Int.reduceLE, Int.reduceNeg, Int.reduceAdd, Int.reduceSub, Int.reduceMul, Int.reduceToNat, Nat.reduceAdd, noUnk, AV.cells, reduceCtorEq, Nat.reduceLeDiff, Cells.get, Nat.reduceMul, ↓bnd_assoc]
  exact Fin.ret ⟨rfl, h3.tail⟩
end
end Go.Proofs.YtjfnhdiimibmiaaDoor.Sx

