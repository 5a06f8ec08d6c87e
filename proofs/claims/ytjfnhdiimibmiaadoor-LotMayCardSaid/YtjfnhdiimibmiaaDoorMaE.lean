/- A second, deterministic reading of the program, part 5: proved sound for every order and every capacity; then what the functions do. -/
import Derived.Test.YtjfnhdiimibmiaaDoorMaD
/- The document's turns and shifts. -/
namespace Go.Proofs.YtjfnhdiimibmiaaDoor.Sx
section
variable {W : World} {E : Env} {H : Heap}
theorem rot_nat (x : BitVec 64) (n : Nat) (h0 : 0 < n) (h1 : n < 64) : (x.rotateRight n).toNat = x.toNat / 2 ^ n + x.toNat % 2 ^ n * 2 ^ (64 - n) := by
  rw [← rot_eq x n h0 h1, BitVec.toNat_or, BitVec.toNat_shiftLeft, BitVec.toNat_ushiftRight, Nat.shiftRight_eq_div_pow]
  have hx := x.isLt
  have e : 2 ^ 64 = 2 ^ n * 2 ^ (64 - n) := by rw [← Nat.pow_add]; congr 1; omega
  have e1 : x.toNat <<< (64 - n) % 2 ^ 64 = (x.toNat % 2 ^ n) <<< (64 - n) := by
    rw [Nat.shiftLeft_eq, Nat.shiftLeft_eq, e, Nat.mul_mod_mul_right]
  have e2 : x.toNat / 2 ^ n < 2 ^ (64 - n) := by
    rw [Nat.div_lt_iff_lt_mul (Nat.two_pow_pos n), Nat.mul_comm, ← e]; exact hx
  rw [e1, ← Nat.shiftLeft_add_eq_or_of_lt e2, Nat.shiftLeft_eq, Nat.add_comm]
theorem n_mod (a : Nat) : IntKind.u64.wrap (a : Int) = ((a % 18446744073709551616 : Nat) : Int) := by rw [wrap_u64', Int.natCast_emod]; rfl
theorem n_quo (a b : Nat) (hb : b ≠ 0) (ha : a < 18446744073709551616) : bin .quo (.int .u64 (a : Int)) (.int .u64 (b : Int)) = some (.int .u64 ((a / b : Nat) : Int)) := by
  have h1 : ¬ (b : Int) = 0 := by omega
  have h2 : a / b < 18446744073709551616 := Nat.lt_of_le_of_lt (Nat.div_le_self _ _) ha
  simp only [bin, binI, if_true, if_neg h1]
  rw [← Int.ofNat_tdiv, n_mod, Nat.mod_eq_of_lt h2]
theorem n_rem (a b : Nat) (hb : b ≠ 0) : bin .rem (.int .u64 (a : Int)) (.int .u64 (b : Int)) = some (.int .u64 ((a % b : Nat) : Int)) := by
  have h1 : ¬ (b : Int) = 0 := by omega
  simp only [bin, binI, if_true, if_neg h1]
  rw [← Int.ofNat_tmod]
theorem n_mul (a b : Nat) : bin .mul (.int .u64 (a : Int)) (.int .u64 (b : Int)) = some (.int .u64 ((a * b % 18446744073709551616 : Nat) : Int)) := by
  simp only [bin, binI, if_true]
  rw [← Int.natCast_mul, n_mod]
theorem n_add (a b : Nat) : bin .add (.int .u64 (a : Int)) (.int .u64 (b : Int)) = some (.int .u64 (((a + b) % 18446744073709551616 : Nat) : Int)) := by
  simp only [bin, binI, if_true]
  rw [← Int.natCast_add, n_mod]
theorem turn_loop (n : Nat) (hn : n < 64) {df : List Nat} : ∀ (m i : Nat) (A : Tm) (H : Heap), i + m = n → getX A 1 = .int .i64 n → getX A 5 = .int .u64 ((2 ^ i : Nat) : Int) → getX A 6 = .int .i64 i →
    ∃ lv A' H', run W E (.loop lp70_0) ⟨A, df, none⟩ H = some (lv, ⟨A', df, none⟩, H') ∧ (lv = .exit 0 ∧ H' = H ∧ getX A' 0 = getX A 0 ∧ getX A' 5 = .int .u64 ((2 ^ n : Nat) : Int)) := by
  have hlp : ∀ f H, run W E lp70_0 f H = run W E lp70_0 f H := fun _ _ => rfl
  conv at hlp => enter [f, H, 2]; unfold lp70_0
  intro m
  induction m with
  | zero =>
    intro i A H him a1 a5 a6
    have : i = n := by omega
    subst this
    have hlt : ¬ (i : Int) < i := by omega
    rw [run_loop]
    simp only [hlp, a1, a6, hlt, ↓sxp, sxq, seval, evP, evX, evR, blkOf, evA, storeA, resL, resV, oneOrTup, noUnk, AV.cells, Cells.get, Cells.getN, ↓bnd_assoc]
    exact ⟨_, _, _, rfl, rfl, rfl, by simp only [↓sxp, sxq, seval, evP, evX, evR, blkOf, evA, storeA, resL, resV, oneOrTup, noUnk, AV.cells, Cells.get, Cells.getN, ↓bnd_assoc], by simp only [a5, ↓sxp, sxq, seval, evP, evX, evR, blkOf, evA, storeA, resL, resV, oneOrTup, noUnk, AV.cells, Cells.get, Cells.getN, ↓bnd_assoc]⟩
  | succ m ih =>
    intro i A H him a1 a5 a6
    have hlt : (i : Int) < n := by omega
    have hwr : IntKind.i64.wrap ((i : Int) + 1) = ((i + 1 : Nat) : Int) := by rw [w64 (by omega)]; simp
    have hp : 2 ^ (i + 1) < 18446744073709551616 := Nat.pow_lt_pow_right (a := 2) (by decide) (show i + 1 < 64 by omega)
    have hm : bin .mul (.int .u64 ((2 ^ i : Nat) : Int)) (.int .u64 2) = some (.int .u64 ((2 ^ (i + 1) : Nat) : Int)) := by
      simp only [bin, binI, if_true, wrap_u64']
      rw [show ((2 ^ i : Nat) : Int) * 2 = ((2 ^ (i + 1) : Nat) : Int) from by rw [Nat.pow_succ, Int.natCast_mul]; rfl]
      have := Int.emod_eq_of_lt (a := ((2 ^ (i + 1) : Nat) : Int)) (b := 18446744073709551616) (Int.natCast_nonneg _) (Int.ofNat_lt.2 hp)
      rw [this]
    rw [run_loop]
    simp only [hlp, a1, a5, a6, hlt, hm, hwr, ↓sxp, sxq, seval, evP, evX, evR, blkOf, evA, storeA, resL, resV, oneOrTup, noUnk, AV.cells, Cells.get, Cells.getN, ↓bnd_assoc]
    exact loop_mono (ih (i + 1) _ _ (by omega) (by simp only [a1, ↓sxp, sxq, seval, evP, evX, evR, blkOf, evA, storeA, resL, resV, oneOrTup, noUnk, AV.cells, Cells.get, Cells.getN, ↓bnd_assoc]) (by simp only [↓sxp, sxq, seval, evP, evX, evR, blkOf, evA, storeA, resL, resV, oneOrTup, noUnk, AV.cells, Cells.get, Cells.getN, ↓bnd_assoc]) (by simp only [↓sxp, sxq, seval, evP, evX, evR, blkOf, evA, storeA, resL, resV, oneOrTup, noUnk, AV.cells, Cells.get, Cells.getN, ↓bnd_assoc])) fun lv A' H' ⟨e1, e2, e3, e4⟩ => ⟨e1, e2, e3.trans (by simp only [↓sxp, sxq, seval, evP, evX, evR, blkOf, evA, storeA, resL, resV, oneOrTup, noUnk, AV.cells, Cells.get, Cells.getN, ↓bnd_assoc]), e4⟩
theorem c_turn (hE : EnvS E) (x : BitVec 64) (n : Nat) (h0 : 0 < n) (h1 : n < 64) : ∃ H', go W E 70 [u64 x, .int .i64 n] H = some (u64 (x.rotateRight n), H') ∧ H' = { H with next := H.next + 12 } := by
  suffices hh : Fin (fun r : AV × Heap => r.1 = u64 (x.rotateRight n) ∧ r.2 = { H with next := H.next + 12 }) (go W E 70 [u64 x, .int .i64 n] H) by
    obtain ⟨⟨r, H'⟩, e, hr, hq⟩ := hh
    simp only at hr hq
    subst hr
    exact ⟨H', e, hq⟩
  rw [go_code hE.f70 (by simp [sf70])]
  simp only [sf70, ↓sxp, sxq, seval, evP, evX, evR, blkOf, evA, storeA, resL, resV, oneOrTup, noUnk, AV.cells, Cells.get, Cells.getN, ↓bnd_assoc]
  refine Fin.loop (turn_loop n h1 n 0 _ _ (by omega) (by simp only [↓sxp, sxq, seval, evP, evX, evR, blkOf, evA, storeA, resL, resV, oneOrTup, noUnk, AV.cells, Cells.get, Cells.getN, ↓bnd_assoc]) (by simp only [↓sxp, sxq, seval, evP, evX, evR, blkOf, evA, storeA, resL, resV, oneOrTup, noUnk, AV.cells, Cells.get, Cells.getN, ↓bnd_assoc] <;> rfl) (by simp only [↓sxp, sxq, seval, evP, evX, evR, blkOf, evA, storeA, resL, resV, oneOrTup, noUnk, AV.cells, Cells.get, Cells.getN, ↓bnd_assoc] <;> rfl)) fun lv A H1 ⟨e1, e2, a0, a5⟩ => ?_
  subst e1 e2
  simp only [↓sxp, sxq, seval, evP, evX, evR, blkOf, evA, storeA, resL, resV, oneOrTup, noUnk, AV.cells, Cells.get, Cells.getN, ↓bnd_assoc] at a0
  have hx := x.isLt
  have hp : 0 < 2 ^ n := Nat.two_pow_pos n
  have hpn : 2 ^ n < 18446744073709551616 := Nat.pow_lt_pow_right (a := 2) (by decide) h1
  have e64 : 18446744073709551616 = 2 ^ n * 2 ^ (64 - n) := by rw [← Nat.pow_add, show n + (64 - n) = 64 from by omega]
  have e63 : 9223372036854775808 = 2 ^ (63 - n) * 2 ^ n := by rw [← Nat.pow_add, show 63 - n + n = 63 from by omega]
  have h63 : 2 ^ (63 - n) * 2 = 2 ^ (64 - n) := by rw [← Nat.pow_succ]; congr 1; omega
  have b1 := n_quo x.toNat (2 ^ n) (by omega) hx
  have b2 := n_rem x.toNat (2 ^ n) (by omega)
  have b3 := n_quo 9223372036854775808 (2 ^ n) (by omega) (by decide)
  rw [show 9223372036854775808 / 2 ^ n = 2 ^ (63 - n) from by rw [e63]; exact Nat.mul_div_cancel _ hp, show ((9223372036854775808 : Nat) : Int) = 9223372036854775808 from rfl] at b3
  have b4 := n_mul (2 ^ (63 - n)) 2
  rw [h63, show ((2 : Nat) : Int) = 2 from rfl] at b4
  have hlt2 : 2 ^ (64 - n) < 18446744073709551616 := Nat.pow_lt_pow_right (a := 2) (by decide) (show 64 - n < 64 by omega)
  rw [Nat.mod_eq_of_lt hlt2] at b4
  have b5 := n_mul (x.toNat % 2 ^ n) (2 ^ (64 - n))
  have hq : x.toNat % 2 ^ n * 2 ^ (64 - n) < 18446744073709551616 := by
    rw [e64]; exact Nat.mul_lt_mul_of_pos_right (Nat.mod_lt _ hp) (Nat.two_pow_pos _)
  rw [Nat.mod_eq_of_lt hq] at b5
  have b6 := n_add (x.toNat / 2 ^ n) (x.toNat % 2 ^ n * 2 ^ (64 - n))
  rw [← rot_nat x n h0 h1, Nat.mod_eq_of_lt (x.rotateRight n).isLt] at b6
  simp only [a0, a5, b1, b2, b3, b4, b5, b6, ↓sxp, sxq, seval, evP, evX, evR, blkOf, evA, storeA, resL, resV, oneOrTup, noUnk, AV.cells, Cells.get, Cells.getN, ↓bnd_assoc]
  refine Fin.ret ?_
  exact ⟨rfl, rfl⟩
theorem shr_step (x : BitVec 64) (i : Nat) : bin .quo (u64 (x >>> i)) (.int .u64 2) = some (u64 (x >>> (i + 1))) := by
  have := n_quo (x >>> i).toNat 2 (by decide) (x >>> i).isLt
  rw [show ((2 : Nat) : Int) = 2 from rfl] at this
  rw [this]
  show some (AV.int .u64 (((x >>> i).toNat / 2 : Nat) : Int)) = some (AV.int .u64 ((x >>> (i + 1)).toNat : Int))
  rw [BitVec.toNat_ushiftRight, BitVec.toNat_ushiftRight, Nat.shiftRight_eq_div_pow, Nat.shiftRight_eq_div_pow, Nat.div_div_eq_div_mul, Nat.pow_succ]
theorem shift_loop (x : BitVec 64) (n : Nat) (hn : n < 65536) {df : List Nat} : ∀ (m i : Nat) (A : Tm) (H : Heap), i + m = n → getX A 0 = u64 (x >>> i) → getX A 1 = .int .i64 n → getX A 5 = .int .i64 i →
    ∃ lv A' H', run W E (.loop lp71_0) ⟨A, df, none⟩ H = some (lv, ⟨A', df, none⟩, H') ∧ (lv = .exit 0 ∧ H' = H ∧ getX A' 0 = u64 (x >>> n)) := by
  have hlp : ∀ f H, run W E lp71_0 f H = run W E lp71_0 f H := fun _ _ => rfl
  conv at hlp => enter [f, H, 2]; unfold lp71_0
  intro m
  induction m with
  | zero =>
    intro i A H him a0 a1 a5
    have : i = n := by omega
    subst this
    have hlt : ¬ (i : Int) < i := by omega
    rw [run_loop]
    simp only [hlp, a1, a5, hlt, ↓sxp, sxq, seval, evP, evX, evR, blkOf, evA, storeA, resL, resV, oneOrTup, noUnk, AV.cells, Cells.get, Cells.getN, ↓bnd_assoc]
    exact ⟨_, _, _, rfl, rfl, rfl, by simp only [a0, ↓sxp, sxq, seval, evP, evX, evR, blkOf, evA, storeA, resL, resV, oneOrTup, noUnk, AV.cells, Cells.get, Cells.getN, ↓bnd_assoc]⟩
  | succ m ih =>
    intro i A H him a0 a1 a5
    have hlt : (i : Int) < n := by omega
    have hwr : IntKind.i64.wrap ((i : Int) + 1) = ((i + 1 : Nat) : Int) := by rw [w64 (by omega)]; simp
    have hs := shr_step x i
    rw [run_loop]
    simp only [hlp, a0, a1, a5, hlt, hs, hwr, ↓sxp, sxq, seval, evP, evX, evR, blkOf, evA, storeA, resL, resV, oneOrTup, noUnk, AV.cells, Cells.get, Cells.getN, ↓bnd_assoc]
    exact loop_mono (ih (i + 1) _ _ (by omega) (by simp only [↓sxp, sxq, seval, evP, evX, evR, blkOf, evA, storeA, resL, resV, oneOrTup, noUnk, AV.cells, Cells.get, Cells.getN, ↓bnd_assoc]) (by simp only [a1, ↓sxp, sxq, seval, evP, evX, evR, blkOf, evA, storeA, resL, resV, oneOrTup, noUnk, AV.cells, Cells.get, Cells.getN, ↓bnd_assoc]) (by simp only [↓sxp, sxq, seval, evP, evX, evR, blkOf, evA, storeA, resL, resV, oneOrTup, noUnk, AV.cells, Cells.get, Cells.getN, ↓bnd_assoc])) fun lv A' H' h => h
theorem c_shift (hE : EnvS E) (x : BitVec 64) (n : Nat) (hn : n < 65536) : go W E 71 [u64 x, .int .i64 n] H = some (u64 (x >>> n), H) := by
  suffices hh : Fin (fun r : AV × Heap => r = (u64 (x >>> n), H)) (go W E 71 [u64 x, .int .i64 n] H) by
    obtain ⟨r, e, rfl⟩ := hh
    exact e
  rw [go_code hE.f71 (by simp [sf71])]
  simp only [sf71, ↓sxp, sxq, seval, evP, evX, evR, blkOf, evA, storeA, resL, resV, oneOrTup, noUnk, AV.cells, Cells.get, Cells.getN, ↓bnd_assoc]
  refine Fin.loop (shift_loop x n hn n 0 _ _ (by omega) (by simp only [↓sxp, sxq, seval, evP, evX, evR, blkOf, evA, storeA, resL, resV, oneOrTup, noUnk, AV.cells, Cells.get, Cells.getN, ↓bnd_assoc]; simp) (by simp only [↓sxp, sxq, seval, evP, evX, evR, blkOf, evA, storeA, resL, resV, oneOrTup, noUnk, AV.cells, Cells.get, Cells.getN, ↓bnd_assoc]) (by simp only [↓sxp, sxq, seval, evP, evX, evR, blkOf, evA, storeA, resL, resV, oneOrTup, noUnk, AV.cells, Cells.get, Cells.getN, ↓bnd_assoc] <;> rfl)) fun lv A H1 ⟨e1, e2, a0⟩ => ?_
  subst e1 e2
  simp only [a0, ↓sxp, sxq, seval, evP, evX, evR, blkOf, evA, storeA, resL, resV, oneOrTup, noUnk, AV.cells, Cells.get, Cells.getN, ↓bnd_assoc]
  exact Fin.ret rfl
end
end Go.Proofs.YtjfnhdiimibmiaaDoor.Sx

/- Slices of bytes that can be read, cut anywhere. -/
namespace Go.Proofs.YtjfnhdiimibmiaaDoor.Sx
open HP
section
variable {W : World} {E : Env} {H : Heap} {Γ : List HP}
/-- A slice of bytes that can be read. -/
inductive Rd (W : World) (H : Heap) : List UInt8 → AV → Prop
  | nil : Rd W H [] (.sl none 0 (.exact 0))
  | emp : Rd W H [] .emp
  | fin (a : Ad) (e : Nat) : Rd W H [] (.fin a e)
  | ex (bs : List UInt8) (r : Rf) (off k : Nat) (c : Cells) (hb : blkOf W H r = some c) (hg : c.getN off bs.length = some (cb bs)) (hk : bs.length ≤ k) : Rd W H bs (.sl (some ⟨r, off⟩) bs.length (.exact k))
  | op (bs : List UInt8) (r : Rf) (off : Nat) (c : Cells) (hb : blkOf W H r = some c) (hg : c.getN off bs.length = some (cb bs)) : Rd W H bs (.sl (some ⟨r, off⟩) bs.length (.opn 1))
theorem Rd.len {bs : List UInt8} {v : AV} (h : Rd W H bs v) : lenV v = some (.int .i64 bs.length) := by
  cases h <;> rfl
theorem getN_get1 {c : Cells} {off n : Nat} {l : List AV} (h : c.getN off n = some l) {i : Nat} (hi : i < n) : c.get (off + i) = l[i]? := (Cells.getN_get h).2 i hi
theorem Rd.at {bs : List UInt8} {v : AV} (h : Rd W H bs v) {i : Nat} (hi : i < bs.length) : ∃ p, iaddrV 1 v (.int .i64 (i : Int)) = some p ∧ loadV W H none p = some (.int .u8 bs[i].toNat) := by
  have h0 : (0 : Int) ≤ i ∧ (i : Int) < bs.length := by omega
  have hx : (cb bs)[i]? = some (.int .u8 bs[i].toNat) := by simp [List.getElem?_eq_getElem hi]
  cases h with
  | nil => simp at hi
  | emp => simp at hi
  | fin a e => simp at hi
  | ex bs r off k c hb hg hk =>
    refine ⟨_, by simp only [iaddrV]; rw [if_pos h0], ?_⟩
    simp only [loadV, hb, Int.toNat_natCast, Nat.mul_one]
    rw [getN_get1 hg hi, hx]
  | op bs r off c hb hg =>
    refine ⟨_, by simp only [iaddrV]; rw [if_pos h0], ?_⟩
    simp only [loadV, hb, Int.toNat_natCast, Nat.mul_one]
    rw [getN_get1 hg hi, hx]
theorem getN_sub {c : Cells} {n : Nat} {l : List AV} : ∀ {off : Nat} (a b : Nat), c.getN off n = some l → a + b ≤ n → c.getN (off + a) b = some ((l.drop a).take b) := by
  intro off a b h hab
  obtain ⟨h1, h2⟩ := Cells.getN_get h
  have : ∀ (k o : Nat) (l' : List AV), l'.length = k → (∀ i, i < k → c.get (o + i) = l'[i]?) → c.getN o k = some l' := by
    intro k
    induction k with
    | zero => intro o l' hl _; rw [List.eq_nil_of_length_eq_zero hl]; rfl
    | succ k ih =>
      intro o l' hl h
      cases l' with
      | nil => simp at hl
      | cons y l' =>
        have h0 := h 0 (by omega)
        simp only [Nat.add_zero, List.getElem?_cons_zero] at h0
        simp only [Cells.getN, h0]
        rw [ih (o + 1) l' (by simpa using hl) (fun i hi => by have := h (i + 1) (by omega); rw [show o + 1 + i = o + (i + 1) from by omega, this]; simp)]
  refine this b (off + a) _ (by rw [List.length_take, List.length_drop]; omega) fun i hi => ?_
  rw [show off + a + i = off + (a + i) from by omega, h2 (a + i) (by omega), List.getElem?_take_of_lt hi, List.getElem?_drop]
theorem cb_sub (bs : List UInt8) (a b : Nat) : ((cb bs).drop a).take b = cb ((bs.drop a).take b) := by simp [cb, List.map_take, List.map_drop]
/-- Cut behind n. -/
theorem Rd.hi {bs : List UInt8} {v : AV} (h : Rd W H bs v) {A : Tm} {n : Nat} (hn : n ≤ bs.length) (h0 : 0 < n) : ∃ v', cutAV A 1 none (some (.c (.int .i64 (n : Int)))) none v = some v' ∧ Rd W H (bs.take n) v' := by
  have hlt : (bs.take n).length = n := by rw [List.length_take]; omega
  have hin : ∀ k, n ≤ k → inI (n : Int) k = some n := fun k hk => by unfold inI; rw [if_pos (by omega), if_pos (by simpa using hk)]; simp
  cases h with
  | nil => simp at hn; omega
  | emp => simp at hn; omega
  | fin a e => simp at hn; omega
  | ex bs r off k c hb hg hk =>
    have hb2 : bounds A bs.length k none (some (.c (.int .i64 (n : Int)))) none = some (0, n, k) := by simp [bounds, bound, evX, hin k (by omega)]
    refine ⟨.sl (some ⟨r, off⟩) n (.exact k), ?_, ?_⟩
    · simp only [cutAV, hb2]
      rw [if_neg (by omega)]; simp
    · have := Rd.ex (W := W) (H := H) (bs.take n) r off k c hb (by have := getN_sub 0 n hg (by omega); rw [cb_sub] at this; rw [hlt]; simpa using this) (by omega)
      rw [hlt] at this; exact this
  | op bs r off c hb hg =>
    have hb2 : boundsO A bs.length none (some (.c (.int .i64 (n : Int)))) = some (0, n) := by simp [boundsO, bound, evX, hin _ hn]
    refine ⟨.sl (some ⟨r, off⟩) n (.opn 1), ?_, ?_⟩
    · simp only [cutAV, if_true, hb2]
    · have := Rd.op (W := W) (H := H) (bs.take n) r off c hb (by have := getN_sub 0 n hg (by omega); rw [cb_sub] at this; rw [hlt]; simpa using this)
      rw [hlt] at this; exact this
/-- Cut in front. -/
theorem Rd.lo {bs : List UInt8} {v : AV} (h : Rd W H bs v) {A : Tm} {n : Nat} (hn : n ≤ bs.length) : ∃ v', cutAV A 1 (some (.c (.int .i64 (n : Int)))) none none v = some v' ∧ Rd W H (bs.drop n) v' := by
  have hlt : (bs.drop n).length = bs.length - n := List.length_drop
  have hin : ∀ k, n ≤ k → inI (n : Int) k = some n := fun k hk => by unfold inI; rw [if_pos (by omega), if_pos (by simpa using hk)]; simp
  cases h with
  | nil =>
    have : n = 0 := by simpa using hn
    subst this
    refine ⟨.sl none 0 (.exact 0), ?_, by simpa using Rd.nil⟩
    simp [cutAV, bounds, bound, evX, show inI 0 0 = some 0 from rfl]
  | emp =>
    have : n = 0 := by simpa using hn
    subst this
    refine ⟨.emp, ?_, by simpa using Rd.emp⟩
    simp [cutAV, boundsO, bound, evX, show inI 0 0 = some 0 from rfl]
  | fin a e =>
    have : n = 0 := by simpa using hn
    subst this
    refine ⟨.fin a e, ?_, by simpa using Rd.fin a e⟩
    simp [cutAV, boundsO, bound, evX, show inI 0 0 = some 0 from rfl]
  | ex bs r off k c hb hg hk =>
    have hb2 : bounds A bs.length k (some (.c (.int .i64 (n : Int)))) none none = some (n, bs.length, k) := by simp [bounds, bound, evX, hin _ hn]
    by_cases he : k = n
    · refine ⟨.sl (some ⟨r, off⟩) (bs.length - n) (.exact (k - n)), ?_, ?_⟩
      · simp only [cutAV, hb2]
        rw [if_pos he]
      · have h0 : bs.drop n = [] := List.drop_of_length_le (by omega)
        have := Rd.ex (W := W) (H := H) [] r off (k - n) c hb rfl (Nat.zero_le _)
        rw [h0, show bs.length - n = 0 from by omega]; exact this
    · refine ⟨.sl (some ⟨r, off + n * 1⟩) (bs.length - n) (.exact (k - n)), ?_, ?_⟩
      · simp only [cutAV, hb2, if_neg he, Option.map_some]
      · have hs := getN_sub n (bs.length - n) hg (by omega)
        rw [cb_sub, List.take_of_length_le (by omega)] at hs
        have := Rd.ex (W := W) (H := H) (bs.drop n) r (off + n * 1) (k - n) c hb (by rw [hlt, Nat.mul_one]; exact hs) (by omega)
        rw [hlt] at this; exact this
  | op bs r off c hb hg =>
    have hb2 : boundsO A bs.length (some (.c (.int .i64 (n : Int)))) none = some (n, bs.length) := by simp [boundsO, bound, evX, hin _ hn]
    by_cases h0 : n = 0
    · subst h0
      refine ⟨.sl (some ⟨r, off⟩) bs.length (.opn 1), ?_, by simpa using Rd.op bs r off c hb hg⟩
      simp only [cutAV, if_true, hb2]
    · by_cases hl : n < bs.length
      · refine ⟨.sl (some ⟨r, off + n * 1⟩) (bs.length - n) (.opn 1), ?_, ?_⟩
        · simp only [cutAV, if_true, hb2, if_neg h0, if_pos hl]
        · have hs := getN_sub n (bs.length - n) hg (by omega)
          rw [cb_sub, List.take_of_length_le (by omega)] at hs
          have := Rd.op (W := W) (H := H) (bs.drop n) r (off + n * 1) c hb (by rw [hlt, Nat.mul_one]; exact hs)
          rw [hlt] at this; exact this
      · refine ⟨.fin ⟨r, off + n * 1⟩ 1, ?_, ?_⟩
        · simp only [cutAV, if_true, hb2, if_neg h0, if_neg hl]
        · rw [List.drop_of_length_le (by omega)]; exact .fin _ _
end
end Go.Proofs.YtjfnhdiimibmiaaDoor.Sx

/- Words of bytes. -/
namespace Go.Proofs.YtjfnhdiimibmiaaDoor.Sx
section
variable {W : World} {E : Env} {H : Heap}
def b64 (b : UInt8) : BitVec 64 := BitVec.ofNat 64 b.toNat
theorem b64_nat (b : UInt8) : (b64 b).toNat = b.toNat := by
  unfold b64
  rw [BitVec.toNat_ofNat]
  have := b.toNat_lt
  omega
def wdF (x : BitVec 64) (b : UInt8) : BitVec 64 := 256 * x + b64 b
def wd (bs : List UInt8) : BitVec 64 := bs.foldl wdF 0
theorem w_mul (x y : BitVec 64) : bin .mul (u64 x) (u64 y) = some (u64 (x * y)) := by
  have := n_mul x.toNat y.toNat
  rw [this]
  show _ = some (AV.int .u64 ((x * y).toNat : Int))
  rw [BitVec.toNat_mul]
theorem conv_u8 (b : UInt8) : IntKind.u64.wrap (b.toNat : Int) = ((b64 b).toNat : Int) := by
  rw [b64_nat, n_mod]
  have := b.toNat_lt
  rw [Nat.mod_eq_of_lt (by omega)]
theorem wide_loop {bs : List UInt8} {v : AV} (hr : Rd W H bs v) (hl : bs.length < 65536) {df : List Nat} : ∀ (m i : Nat) (A : Tm) (x : BitVec 64), i + m = bs.length → getX A 0 = v → getX A 3 = u64 x → getX A 4 = .int .i64 i →
    ∃ lv A' H', run W E (.loop lp69_0) ⟨A, df, none⟩ H = some (lv, ⟨A', df, none⟩, H') ∧ (lv = .exit 0 ∧ H' = H ∧ getX A' 3 = u64 ((bs.drop i).foldl wdF x)) := by
  have hlp : ∀ f H, run W E lp69_0 f H = run W E lp69_0 f H := fun _ _ => rfl
  conv at hlp => enter [f, H, 2]; unfold lp69_0
  have hlen := hr.len
  intro m
  induction m with
  | zero =>
    intro i A x him a0 a3 a4
    have : i = bs.length := by omega
    subst this
    have hlt : ¬ (bs.length : Int) < bs.length := by omega
    rw [run_loop]
    simp only [hlp, a0, a4, hlen, hlt, ↓sxp, sxq, ↓reduceIte, Nat.reduceBEq, Nat.reduceLT, evP, evX, evR, blkOf, evA, storeA, Nat.reduceEqDiff, resL, resV, oneOrTup, Int.reduceEq, Int.reduceLT, Int.reduceLE, Int.reduceNeg, Int.reduceAdd, Int.reduceSub, Int.reduceMul, Int.reduceToNat, Nat.reduceAdd, noUnk, AV.cells, reduceCtorEq, Nat.reduceLeDiff, Cells.get, Cells.getN, Nat.reduceMul, ↓bnd_assoc]
    exact ⟨_, _, _, rfl, rfl, rfl, by rw [List.drop_length]; simp only [a3, List.foldl_nil, ↓sxp, sxq, ↓reduceIte, Nat.reduceBEq, Nat.reduceLT, evP, evX, evR, blkOf, evA, storeA, Nat.reduceEqDiff, resL, resV, oneOrTup, Int.reduceEq, Int.reduceLT, Int.reduceLE, Int.reduceNeg, Int.reduceAdd, Int.reduceSub, Int.reduceMul, Int.reduceToNat, Nat.reduceAdd, noUnk, AV.cells, reduceCtorEq, Nat.reduceLeDiff, Cells.get, Cells.getN, Nat.reduceMul, ↓bnd_assoc]⟩
  | succ m ih =>
    intro i A x him a0 a3 a4
    have hlt : (i : Int) < bs.length := by omega
    have hwr : IntKind.i64.wrap ((i : Int) + 1) = ((i + 1 : Nat) : Int) := by rw [w64 (by omega)]; simp
    obtain ⟨p, e1, e2⟩ := hr.at (i := i) (by omega)
    have m1 := w_mul 256 x
    have m2 := w_add (256 * x) (b64 bs[i])
    have hcv := conv_u8 bs[i]
    rw [List.drop_eq_getElem_cons (show i < bs.length by omega), List.foldl_cons]
    rw [show wdF x bs[i] = 256 * x + b64 bs[i] from rfl]
    generalize bs[i] = b at *
    have m1' : bin .mul (.int .u64 256) (u64 x) = some (u64 (256 * x)) := m1
    rw [run_loop]
    simp only [hlp, a0, a3, a4, hlen, hlt, e1, e2, m1', m2, hcv, hwr, ↓sxp, sxq, ↓reduceIte, Nat.reduceBEq, Nat.reduceLT, evP, evX, evR, blkOf, evA, storeA, Nat.reduceEqDiff, resL, resV, oneOrTup, Int.reduceEq, Int.reduceLT, Int.reduceLE, Int.reduceNeg, Int.reduceAdd, Int.reduceSub, Int.reduceMul, Int.reduceToNat, Nat.reduceAdd, noUnk, AV.cells, reduceCtorEq, Nat.reduceLeDiff, Cells.get, Cells.getN, Nat.reduceMul, ↓bnd_assoc]
    exact ih (i + 1) _ _ (by omega) (by simp only [a0, ↓sxp, sxq, ↓reduceIte, Nat.reduceBEq, Nat.reduceLT, evP, evX, evR, blkOf, evA, storeA, Nat.reduceEqDiff, resL, resV, oneOrTup, Int.reduceEq, Int.reduceLT, Int.reduceLE, Int.reduceNeg, Int.reduceAdd, Int.reduceSub, Int.reduceMul, Int.reduceToNat, Nat.reduceAdd, noUnk, AV.cells, reduceCtorEq, Nat.reduceLeDiff, Cells.get, Cells.getN, Nat.reduceMul, ↓bnd_assoc]) (by simp only [↓sxp, sxq, ↓reduceIte, Nat.reduceBEq, Nat.reduceLT, evP, evX, evR, blkOf, evA, storeA, Nat.reduceEqDiff, resL, resV, oneOrTup, Int.reduceEq, Int.reduceLT, Int.reduceLE, Int.reduceNeg, Int.reduceAdd, Int.reduceSub, Int.reduceMul, Int.reduceToNat, Nat.reduceAdd, noUnk, AV.cells, reduceCtorEq, Nat.reduceLeDiff, Cells.get, Cells.getN, Nat.reduceMul, ↓bnd_assoc]) (by simp only [↓sxp, sxq, ↓reduceIte, Nat.reduceBEq, Nat.reduceLT, evP, evX, evR, blkOf, evA, storeA, Nat.reduceEqDiff, resL, resV, oneOrTup, Int.reduceEq, Int.reduceLT, Int.reduceLE, Int.reduceNeg, Int.reduceAdd, Int.reduceSub, Int.reduceMul, Int.reduceToNat, Nat.reduceAdd, noUnk, AV.cells, reduceCtorEq, Nat.reduceLeDiff, Cells.get, Cells.getN, Nat.reduceMul, ↓bnd_assoc])
theorem c_wide (hE : EnvS E) {bs : List UInt8} {v : AV} (hr : Rd W H bs v) (hl : bs.length < 65536) : go W E 69 [v] H = some (u64 (wd bs), H) := by
  suffices hh : Fin (fun r : AV × Heap => r = (u64 (wd bs), H)) (go W E 69 [v] H) by
    obtain ⟨r, e, rfl⟩ := hh
    exact e
  rw [go_code hE.f69 (by simp [sf69])]
  simp only [sf69, ↓sxp, sxq, ↓reduceIte, Nat.reduceBEq, Nat.reduceLT, evP, evX, evR, blkOf, evA, storeA, Nat.reduceEqDiff, resL, resV, oneOrTup, Int.reduceEq, Int.reduceLT, Int.reduceLE, Int.reduceNeg, Int.reduceAdd, Int.reduceSub, Int.reduceMul, Int.reduceToNat, Nat.reduceAdd, noUnk, AV.cells, reduceCtorEq, Nat.reduceLeDiff, Cells.get, Cells.getN, Nat.reduceMul, ↓bnd_assoc]
  refine Fin.loop (wide_loop hr hl bs.length 0 _ 0 (by omega) (by simp only [↓sxp, sxq, ↓reduceIte, Nat.reduceBEq, Nat.reduceLT, evP, evX, evR, blkOf, evA, storeA, Nat.reduceEqDiff, resL, resV, oneOrTup, Int.reduceEq, Int.reduceLT, Int.reduceLE, Int.reduceNeg, Int.reduceAdd, Int.reduceSub, Int.reduceMul, Int.reduceToNat, Nat.reduceAdd, noUnk, AV.cells, reduceCtorEq, Nat.reduceLeDiff, Cells.get, Cells.getN, Nat.reduceMul, ↓bnd_assoc]) (by simp only [↓sxp, sxq, ↓reduceIte, Nat.reduceBEq, Nat.reduceLT, evP, evX, evR, blkOf, evA, storeA, Nat.reduceEqDiff, resL, resV, oneOrTup, Int.reduceEq, Int.reduceLT, Int.reduceLE, Int.reduceNeg, Int.reduceAdd, Int.reduceSub, Int.reduceMul, Int.reduceToNat, Nat.reduceAdd, noUnk, AV.cells, reduceCtorEq, Nat.reduceLeDiff, Cells.get, Cells.getN, Nat.reduceMul, ↓bnd_assoc]; rfl) (by simp only [↓sxp, sxq, ↓reduceIte, Nat.reduceBEq, Nat.reduceLT, evP, evX, evR, blkOf, evA, storeA, Nat.reduceEqDiff, resL, resV, oneOrTup, Int.reduceEq, Int.reduceLT, Int.reduceLE, Int.reduceNeg, Int.reduceAdd, Int.reduceSub, Int.reduceMul, Int.reduceToNat, Nat.reduceAdd, noUnk, AV.cells, reduceCtorEq, Nat.reduceLeDiff, Cells.get, Cells.getN, Nat.reduceMul, ↓bnd_assoc]; rfl)) fun lv A H1 ⟨e1, e2, a3⟩ => ?_
  subst e1 e2
  rw [List.drop_zero] at a3
  simp only [a3, ↓sxp, sxq, ↓reduceIte, Nat.reduceBEq, Nat.reduceLT, evP, evX, evR, blkOf, evA, storeA, Nat.reduceEqDiff, resL, resV, oneOrTup, Int.reduceEq, Int.reduceLT, Int.reduceLE, Int.reduceNeg, Int.reduceAdd, Int.reduceSub, Int.reduceMul, Int.reduceToNat, Nat.reduceAdd, noUnk, AV.cells, reduceCtorEq, Nat.reduceLeDiff, Cells.get, Cells.getN, Nat.reduceMul, ↓bnd_assoc]
  exact Fin.ret rfl
end
end Go.Proofs.YtjfnhdiimibmiaaDoor.Sx

/- The program's words of bytes. -/
namespace Go.Proofs.YtjfnhdiimibmiaaDoor.Sx
section
variable {W : World} {E : Env} {H : Heap}
theorem shl_or (x : BitVec 64) (b : UInt8) : x <<< 8 ||| b64 b = wdF x b := by
  apply BitVec.eq_of_toNat_eq
  unfold wdF
  rw [BitVec.toNat_or, BitVec.toNat_shiftLeft, BitVec.toNat_add, BitVec.toNat_mul, b64_nat]
  have hx := x.isLt
  have hb := b.toNat_lt
  have e1 : x.toNat <<< 8 % 2 ^ 64 = (x.toNat % 2 ^ 56) <<< 8 := by
    rw [Nat.shiftLeft_eq, Nat.shiftLeft_eq]; omega
  rw [e1, ← Nat.shiftLeft_add_eq_or_of_lt (show b.toNat < 2 ^ 8 by omega), Nat.shiftLeft_eq]
  show _ = (256 * x.toNat % 2 ^ 64 + b.toNat) % 2 ^ 64
  omega
theorem words_loop1 {bs : List UInt8} {v : AV} (hr : Rd W H bs v) (hl : bs.length < 65536) {df : List Nat} : ∀ (m i : Nat) (A : Tm) (x : BitVec 64), i + m = bs.length → getX A 18 = v → getX A 5 = u64 x → getX A 19 = .int .i64 bs.length → getX A 20 = .int .i64 i →
    ∃ lv A' H', run W E (.loop lp74_1) ⟨A, df, none⟩ H = some (lv, ⟨A', df, none⟩, H') ∧ (lv = .exit 2 ∧ H' = H ∧ getX A' 0 = getX A 0 ∧ getX A' 4 = getX A 4 ∧ getX A' 5 = u64 ((bs.drop i).foldl wdF x)) := by
  have hlp : ∀ f H, run W E lp74_1 f H = run W E lp74_1 f H := fun _ _ => rfl
  conv at hlp => enter [f, H, 2]; unfold lp74_1
  intro m
  induction m with
  | zero =>
    intro i A x him a18 a5 a19 a20
    have : i = bs.length := by omega
    subst this
    have hlt : ¬ (bs.length : Int) < bs.length := by omega
    rw [run_loop]
    simp only [hlp, a19, a20, hlt, ↓sxp, sxq, seval, evP, evX, evR, blkOf, evA, storeA, resL, resV, oneOrTup, noUnk, AV.cells, Cells.get, Cells.getN, ↓bnd_assoc]
    exact ⟨_, _, _, rfl, rfl, rfl, by simp only [↓sxp, sxq, seval, evP, evX, evR, blkOf, evA, storeA, resL, resV, oneOrTup, noUnk, AV.cells, Cells.get, Cells.getN, ↓bnd_assoc], by simp only [↓sxp, sxq, seval, evP, evX, evR, blkOf, evA, storeA, resL, resV, oneOrTup, noUnk, AV.cells, Cells.get, Cells.getN, ↓bnd_assoc], by rw [List.drop_length]; simp only [a5, List.foldl_nil, ↓sxp, sxq, seval, evP, evX, evR, blkOf, evA, storeA, resL, resV, oneOrTup, noUnk, AV.cells, Cells.get, Cells.getN, ↓bnd_assoc]⟩
  | succ m ih =>
    intro i A x him a18 a5 a19 a20
    have hlt : (i : Int) < bs.length := by omega
    have hwr : IntKind.i64.wrap ((i : Int) + 1) = ((i + 1 : Nat) : Int) := by rw [w64 (by omega)]; simp
    obtain ⟨p, e1, e2⟩ := hr.at (i := i) (by omega)
    have m1 : bin .shl (u64 x) (.int .u64 8) = some (u64 (x <<< 8)) := w_shl x .u64 8
    have m2 := w_or (x <<< 8) (b64 bs[i])
    rw [shl_or] at m2
    have hcv := conv_u8 bs[i]
    rw [List.drop_eq_getElem_cons (show i < bs.length by omega), List.foldl_cons]
    generalize bs[i] = b at *
    rw [run_loop]
    simp only [hlp, a18, a5, a19, a20, hlt, e1, e2, m1, m2, hcv, hwr, ↓sxp, sxq, seval, evP, evX, evR, blkOf, evA, storeA, resL, resV, oneOrTup, noUnk, AV.cells, Cells.get, Cells.getN, ↓bnd_assoc]
    exact loop_mono (ih (i + 1) _ _ (by omega) (by simp only [a18, ↓sxp, sxq, seval, evP, evX, evR, blkOf, evA, storeA, resL, resV, oneOrTup, noUnk, AV.cells, Cells.get, Cells.getN, ↓bnd_assoc]) (by simp only [↓sxp, sxq, seval, evP, evX, evR, blkOf, evA, storeA, resL, resV, oneOrTup, noUnk, AV.cells, Cells.get, Cells.getN, ↓bnd_assoc]) (by simp only [a19, ↓sxp, sxq, seval, evP, evX, evR, blkOf, evA, storeA, resL, resV, oneOrTup, noUnk, AV.cells, Cells.get, Cells.getN, ↓bnd_assoc]) (by simp only [↓sxp, sxq, seval, evP, evX, evR, blkOf, evA, storeA, resL, resV, oneOrTup, noUnk, AV.cells, Cells.get, Cells.getN, ↓bnd_assoc])) fun lv A' H' ⟨q1, q2, q3, q4, q5⟩ => ⟨q1, q2, q3.trans (by simp only [↓sxp, sxq, seval, evP, evX, evR, blkOf, evA, storeA, resL, resV, oneOrTup, noUnk, AV.cells, Cells.get, Cells.getN, ↓bnd_assoc]), q4.trans (by simp only [↓sxp, sxq, seval, evP, evX, evR, blkOf, evA, storeA, resL, resV, oneOrTup, noUnk, AV.cells, Cells.get, Cells.getN, ↓bnd_assoc]), q5⟩
end
end Go.Proofs.YtjfnhdiimibmiaaDoor.Sx

/- Words64. -/
namespace Go.Proofs.YtjfnhdiimibmiaaDoor.Sx
open HP
section
variable {W : World} {E : Env} {H : Heap} {Γ : List HP}
theorem Holds.row_nil {ty es : Nat} (h : Holds H Γ) : Holds H (row ty es [] (.sl none 0 (.exact 0)) :: Γ) := by
  obtain ⟨fp, hp⟩ := h.a
  exact ⟨h.wf, fp, [], fp, .nil, hp, by simp, by simp⟩
/-- A piece by which a slice of bytes can be read. -/
def RdLike (W : World) (bs : List UInt8) (v : AV) (R : HP) : Prop := ∀ {H : Heap} {Γ : List HP}, Holds H (R :: Γ) → Rd W H bs v
def cutLo (n : Nat) (v : AV) : Option AV := cutAV .e 1 (some (.c (.int .i64 (n : Int)))) none none v
def cutHi (n : Nat) (v : AV) : Option AV := cutAV .e 1 none (some (.c (.int .i64 (n : Int)))) none v
theorem cutLo_eq (A : Tm) (n : Nat) (v : AV) : cutAV A 1 (some (.c (.int .i64 (n : Int)))) none none v = cutLo n v := by
  cases v <;> rfl
theorem cutHi_eq (A : Tm) (n : Nat) (v : AV) : cutAV A 1 none (some (.c (.int .i64 (n : Int)))) none v = cutHi n v := by
  cases v <;> rfl
theorem RdLike.lo {bs : List UInt8} {v : AV} {R : HP} (h : RdLike W bs v R) (hh : Holds H (R :: Γ)) {n : Nat} (hn : n ≤ bs.length) : ∃ v', cutLo n v = some v' ∧ RdLike W (bs.drop n) v' R := by
  obtain ⟨v', e, _⟩ := (h hh).lo (A := .e) hn
  refine ⟨v', e, fun {H2 Γ2} h2 => ?_⟩
  obtain ⟨v2, e2, r2⟩ := (h h2).lo (A := .e) hn
  rw [e] at e2; cases e2; exact r2
theorem RdLike.hi {bs : List UInt8} {v : AV} {R : HP} (h : RdLike W bs v R) (hh : Holds H (R :: Γ)) {n : Nat} (hn : n ≤ bs.length) (h0 : 0 < n) : ∃ v', cutHi n v = some v' ∧ RdLike W (bs.take n) v' R := by
  obtain ⟨v', e, _⟩ := (h hh).hi (A := .e) hn h0
  refine ⟨v', e, fun {H2 Γ2} h2 => ?_⟩
  obtain ⟨v2, e2, r2⟩ := (h h2).hi (A := .e) hn h0
  rw [e] at e2; cases e2; exact r2
def wds : Nat → List UInt8 → List (BitVec 64)
  | 0, _ => []
  | k + 1, bs => wd (bs.take 8) :: wds k (bs.drop 8)
abbrev wl (l : List (BitVec 64)) : List AV := l.map u64
theorem words_loop0 {R : HP} {df : List Nat} : ∀ (k : Nat) (bs : List UInt8) (v out : AV) (ws : List (BitVec 64)) (A : Tm) (H : Heap), bs.length = 8 * k → bs.length < 65536 → ws.length + k < 65536 → RdLike W bs v R → getX A 0 = v → getX A 4 = out → Holds H (row 91 1 (wl ws) out :: R :: Γ) →
    ∃ lv A' H', run W E (.loop lp74_0) ⟨A, df, none⟩ H = some (lv, ⟨A', df, none⟩, H') ∧ (lv = .exit 0 ∧ ∃ out', getX A' 4 = out' ∧ Holds H' (row 91 1 (wl (ws ++ wds k bs)) out' :: R :: Γ)) := by
  have hlp : ∀ f H, run W E lp74_0 f H = run W E lp74_0 f H := fun _ _ => rfl
  conv at hlp => enter [f, H, 2]; unfold lp74_0
  intro k
  induction k with
  | zero =>
    intro bs v out ws A H hb hbl hwl hR a0 a4 h
    have hlen := (hR (h.ord [1])).len
    have h0 : ¬ (0 : Int) < bs.length := by omega
    rw [run_loop]
    simp only [hlp, a0, hlen, h0, ↓sxp, sxq, seval, evP, evX, evR, blkOf, evA, storeA, resL, resV, oneOrTup, noUnk, AV.cells, Cells.get, Cells.getN, ↓bnd_assoc]
    exact ⟨_, _, _, rfl, rfl, out, by simp only [a4, ↓sxp, sxq, seval, evP, evX, evR, blkOf, evA, storeA, resL, resV, oneOrTup, noUnk, AV.cells, Cells.get, Cells.getN, ↓bnd_assoc], by rw [wds, List.append_nil]; exact h⟩
  | succ k ih =>
    intro bs v out ws A H hb hbl hwl hR a0 a4 h
    have hlen := (hR (h.ord [1])).len
    have h0 : (0 : Int) < bs.length := by omega
    obtain ⟨p, e1, hR1⟩ := hR.hi (h.ord [1]) (n := 8) (by omega) (by omega)
    obtain ⟨q, e2, hR2⟩ := hR.lo (h.ord [1]) (n := 8) (by omega)
    have e1' : ∀ A : Tm, cutAV A 1 none (some (.c (.int .i64 8))) none v = some p := fun A => (cutHi_eq A 8 v).trans e1
    have e2' : ∀ A : Tm, cutAV A 1 (some (.c (.int .i64 8))) none none v = some q := fun A => (cutLo_eq A 8 v).trans e2
    have hlp8 := (hR1 (h.ord [1])).len
    have ht : (bs.take 8).length = 8 := by rw [List.length_take]; omega
    rw [ht] at hlp8
    apply Fin.ex3
    rw [run_loop]
    simp only [hlp, a0, a4, hlen, h0, e1', hlp8, ↓sxp, sxq, seval, evP, evX, evR, blkOf, evA, storeA, resL, resV, oneOrTup, noUnk, AV.cells, Cells.get, Cells.getN, ↓bnd_assoc]
    refine Fin.loop (words_loop1 (hR1 (h.ord [1])) (by omega) 8 0 _ 0 (by rw [ht]) (by simp only [↓sxp, sxq, seval, evP, evX, evR, blkOf, evA, storeA, resL, resV, oneOrTup, noUnk, AV.cells, Cells.get, Cells.getN, ↓bnd_assoc]) (by simp only [↓sxp, sxq, seval, evP, evX, evR, blkOf, evA, storeA, resL, resV, oneOrTup, noUnk, AV.cells, Cells.get, Cells.getN, ↓bnd_assoc] <;> rfl) (by simp only [ht, ↓sxp, sxq, seval, evP, evX, evR, blkOf, evA, storeA, resL, resV, oneOrTup, noUnk, AV.cells, Cells.get, Cells.getN, ↓bnd_assoc]) (by simp only [↓sxp, sxq, seval, evP, evX, evR, blkOf, evA, storeA, resL, resV, oneOrTup, noUnk, AV.cells, Cells.get, Cells.getN, ↓bnd_assoc] <;> rfl)) fun lv A1 H1 ⟨q1, q2, q3, q4, q5⟩ => ?_
    subst q1 q2
    rw [List.drop_zero] at q5
    have q5 : getX A1 5 = u64 (wd (bs.take 8)) := q5
    simp only [a0, a4, ↓sxp, sxq, seval, evP, evX, evR, blkOf, evA, storeA, resL, resV, oneOrTup, noUnk, AV.cells, Cells.get, Cells.getN, ↓bnd_assoc] at q3 q4
    have h2 := h.push (c := [u64 (wd (bs.take 8))]) (t := 91)
    have g2 := h2.get
    simp only [q3, q4, q5, ↓sxp, sxq, seval, evP, evX, evR, blkOf, evA, storeA, resL, resV, oneOrTup, noUnk, AV.cells, Cells.get, Cells.getN, ↓bnd_assoc]
    refine Fin.app (h2.ord [1]) (by omega) (by simp only [srcA, blkOf, g2, Nat.one_mul]; rfl) (by omega) (new := [u64 (wd (bs.take 8))]) (n := ws.length) rfl rfl (by simp) (by omega) fun v' H3 h3 => ?_
    have h4 : Holds H3 (row 91 1 (wl (ws ++ [wd (bs.take 8)])) v' :: R :: Γ) := by
      have := h3.rm 1
      simp only [wl, List.map_append, List.map_cons, List.map_nil]; exact this
    simp only [q3, e2', ↓sxp, sxq, seval, evP, evX, evR, blkOf, evA, storeA, resL, resV, oneOrTup, noUnk, AV.cells, Cells.get, Cells.getN, ↓bnd_assoc]
    refine Fin.of3 (ih (bs.drop 8) q v' (ws ++ [wd (bs.take 8)]) _ _ (by rw [List.length_drop]; omega) (by rw [List.length_drop]; omega) (by simp; omega) hR2 (by simp only [↓sxp, sxq, seval, evP, evX, evR, blkOf, evA, storeA, resL, resV, oneOrTup, noUnk, AV.cells, Cells.get, Cells.getN, ↓bnd_assoc]) (by simp only [↓sxp, sxq, seval, evP, evX, evR, blkOf, evA, storeA, resL, resV, oneOrTup, noUnk, AV.cells, Cells.get, Cells.getN, ↓bnd_assoc]) h4) fun lv A' H' ⟨r1, o, r2, r3⟩ => ⟨r1, o, r2, ?_⟩
    have e : ws ++ wds (k + 1) bs = ws ++ [wd (bs.take 8)] ++ wds k (bs.drop 8) := by rw [wds, List.append_assoc]; rfl
    rw [e]; exact r3
theorem c_words (hE : EnvS E) {R : HP} {bs : List UInt8} {v : AV} {k : Nat} (hb : bs.length = 8 * k) (hk : k < 8000) (hR : RdLike W bs v R) (h : Holds H (R :: Γ)) :
    ∃ out H', go W E 74 [v] H = some (.tup [out, .int .i64 0], H') ∧ Holds H' (row 91 1 (wl (wds k bs)) out :: R :: Γ) := by
  suffices hh : Fin (fun r : AV × Heap => ∃ out, r.1 = .tup [out, .int .i64 0] ∧ Holds r.2 (row 91 1 (wl (wds k bs)) out :: R :: Γ)) (go W E 74 [v] H) by
    obtain ⟨⟨r, H'⟩, e, out, hr, q⟩ := hh
    simp only at hr q
    subst hr
    exact ⟨out, H', e, q⟩
  have hlen := (hR h).len
  have hmod : bin .rem (.int .i64 (bs.length : Int)) (.int .i64 8) = some (.int .i64 0) := by
    simp only [bin, binI, if_true, hb]
    rw [if_neg (by decide)]
    congr 2
    have : ((8 * k : Nat) : Int).tmod 8 = ((8 * k % 8 : Nat) : Int) := (Int.ofNat_tmod (8 * k) 8).symm
    rw [this, Nat.mul_mod_right]; rfl
  rw [go_code hE.f74 (by simp [sf74])]
  simp only [sf74, hlen, hmod, ↓sxp, sxq, seval, evP, evX, evR, blkOf, evA, storeA, resL, resV, oneOrTup, noUnk, AV.cells, Cells.get, Cells.getN, ↓bnd_assoc]
  refine Fin.loop (words_loop0 k bs v (.sl none 0 (.exact 0)) [] _ _ hb (by omega) (by simp; omega) hR (by simp only [↓sxp, sxq, seval, evP, evX, evR, blkOf, evA, storeA, resL, resV, oneOrTup, noUnk, AV.cells, Cells.get, Cells.getN, ↓bnd_assoc]) (by simp only [↓sxp, sxq, seval, evP, evX, evR, blkOf, evA, storeA, resL, resV, oneOrTup, noUnk, AV.cells, Cells.get, Cells.getN, ↓bnd_assoc]) h.row_nil) fun lv A H1 ⟨e1, out, e2, h2⟩ => ?_
  subst e1
  rw [List.nil_append] at h2
  simp only [e2, ↓sxp, sxq, seval, evP, evX, evR, blkOf, evA, storeA, resL, resV, oneOrTup, noUnk, AV.cells, Cells.get, Cells.getN, ↓bnd_assoc]
  exact Fin.ret ⟨out, rfl, h2⟩
end
end Go.Proofs.YtjfnhdiimibmiaaDoor.Sx

/- The program's schedule: its loop. -/
namespace Go.Proofs.YtjfnhdiimibmiaaDoor.Sx
open HP
section
variable {W : World} {E : Env} {H : Heap} {Γ : List HP}
def sg0 (x : BitVec 64) : BitVec 64 := x.rotateRight 1 ^^^ x.rotateRight 8 ^^^ x >>> 7
def sg1 (y : BitVec 64) : BitVec 64 := y.rotateRight 19 ^^^ y.rotateRight 61 ^^^ y >>> 6
def wNext (w : List (BitVec 64)) (t : Nat) : BitVec 64 := w.getD (t - 16) 0 + sg0 (w.getD (t - 15) 0) + w.getD (t - 7) 0 + sg1 (w.getD (t - 2) 0)
def schF : Nat → Nat → List (BitVec 64) → List (BitVec 64)
  | 0, _, w => w
  | m + 1, t, w => schF m (t + 1) (w.set t (wNext w t))
theorem wl_get {l : List (BitVec 64)} {i : Nat} (h : i < l.length) : (wl l)[i]? = some (u64 (l.getD i 0)) := by
  simp [List.getElem?_eq_getElem h, List.getD_eq_getElem?_getD]
theorem wl_set (l : List (BitVec 64)) (i : Nat) (b : BitVec 64) : (wl l).set i (u64 b) = wl (l.set i b) := List.map_set.symm
theorem u64_addw (x y : BitVec 64) : IntKind.u64.wrap ((x.toNat : Int) + (y.toNat : Int)) = ((x + y).toNat : Int) := by
  rw [wrap_u64', BitVec.toNat_add]; rfl
theorem sch_loop (hE : EnvS E) {jb : Nat} {df : List Nat} : ∀ (m t : Nat) (A : Tm) (H : Heap) (w : List (BitVec 64)), t + m = 80 → 16 ≤ t → w.length = 80 → getX A 3 = .ptr (some ⟨.own jb, 0⟩) → getX A 6 = .int .i64 t → Holds H (blk jb (wl w) 92 :: Γ) →
    ∃ lv A' H', run W E (.loop lp72_0) ⟨A, df, none⟩ H = some (lv, ⟨A', df, none⟩, H') ∧ (lv = .exit 0 ∧ getX A' 2 = getX A 2 ∧ getX A' 3 = .ptr (some ⟨.own jb, 0⟩) ∧ Holds H' (blk jb (wl (schF m t w)) 92 :: Γ)) := by
  have hlp : ∀ f H, run W E lp72_0 f H = run W E lp72_0 f H := fun _ _ => rfl
  conv at hlp => enter [f, H, 2]; unfold lp72_0
  intro m
  induction m with
  | zero =>
    intro t A H w htm h16 hw a3 a6 h
    have : t = 80 := by omega
    subst this
    have hlt : ¬ (80 : Int) < 80 := by omega
    rw [run_loop]
    have a6' : getX A 6 = .int .i64 80 := a6
    simp only [hlp, a6', ↓sxp, sxq, ↓reduceIte, Nat.reduceBEq, Nat.reduceLT, evP, evX, evR, blkOf, evA, storeA, Nat.reduceEqDiff, resL, resV, oneOrTup, Int.reduceEq, Int.reduceLT, Int.reduceLE, Int.reduceNeg, Int.reduceAdd, Int.reduceSub, Int.reduceMul, Int.reduceToNat, Nat.reduceAdd, noUnk, AV.cells, reduceCtorEq, Nat.reduceLeDiff, Cells.get, Cells.getN, Nat.reduceMul, ↓bnd_assoc]
    exact ⟨_, _, _, rfl, rfl, by simp only [↓sxp, sxq, ↓reduceIte, Nat.reduceBEq, Nat.reduceLT, evP, evX, evR, blkOf, evA, storeA, Nat.reduceEqDiff, resL, resV, oneOrTup, Int.reduceEq, Int.reduceLT, Int.reduceLE, Int.reduceNeg, Int.reduceAdd, Int.reduceSub, Int.reduceMul, Int.reduceToNat, Nat.reduceAdd, noUnk, AV.cells, reduceCtorEq, Nat.reduceLeDiff, Cells.get, Cells.getN, Nat.reduceMul, ↓bnd_assoc], by simp only [a3, ↓sxp, sxq, ↓reduceIte, Nat.reduceBEq, Nat.reduceLT, evP, evX, evR, blkOf, evA, storeA, Nat.reduceEqDiff, resL, resV, oneOrTup, Int.reduceEq, Int.reduceLT, Int.reduceLE, Int.reduceNeg, Int.reduceAdd, Int.reduceSub, Int.reduceMul, Int.reduceToNat, Nat.reduceAdd, noUnk, AV.cells, reduceCtorEq, Nat.reduceLeDiff, Cells.get, Cells.getN, Nat.reduceMul, ↓bnd_assoc], h⟩
  | succ m ih =>
    intro t A H w htm h16 hw a3 a6 h
    have hlt : (t : Int) < 80 := by omega
    have hwr : IntKind.i64.wrap ((t : Int) + 1) = ((t + 1 : Nat) : Int) := by rw [w64 (by omega)]; simp
    have s15 : IntKind.i64.wrap ((t : Int) - 15) = ((t - 15 : Nat) : Int) := by rw [w64 (by omega)]; omega
    have s16 : IntKind.i64.wrap ((t : Int) - 16) = ((t - 16 : Nat) : Int) := by rw [w64 (by omega)]; omega
    have s7 : IntKind.i64.wrap ((t : Int) - 7) = ((t - 7 : Nat) : Int) := by rw [w64 (by omega)]; omega
    have s2 : IntKind.i64.wrap ((t : Int) - 2) = ((t - 2 : Nat) : Int) := by rw [w64 (by omega)]; omega
    have i15 : ((t - 15 : Nat) : Int) < ((80 : Nat) : Int) := by omega
    have i16 : ((t - 16 : Nat) : Int) < ((80 : Nat) : Int) := by omega
    have i7 : ((t - 7 : Nat) : Int) < ((80 : Nat) : Int) := by omega
    have i2 : ((t - 2 : Nat) : Int) < ((80 : Nat) : Int) := by omega
    have it : (t : Int) < ((80 : Nat) : Int) := by omega
    have r1 : ∀ (x : BitVec 64) (H : Heap), go W E 75 [u64 x, .int .i64 (-1)] H = some (u64 (x.rotateRight 1), H) := fun x H => c_rot hE x 1 (by omega) (by omega)
    have r8 : ∀ (x : BitVec 64) (H : Heap), go W E 75 [u64 x, .int .i64 (-8)] H = some (u64 (x.rotateRight 8), H) := fun x H => c_rot hE x 8 (by omega) (by omega)
    have r19 : ∀ (x : BitVec 64) (H : Heap), go W E 75 [u64 x, .int .i64 (-19)] H = some (u64 (x.rotateRight 19), H) := fun x H => c_rot hE x 19 (by omega) (by omega)
    have r61 : ∀ (x : BitVec 64) (H : Heap), go W E 75 [u64 x, .int .i64 (-61)] H = some (u64 (x.rotateRight 61), H) := fun x H => c_rot hE x 61 (by omega) (by omega)
    have v7 : ∀ x : BitVec 64, bin .shr (u64 x) (.int .u64 7) = some (u64 (x >>> 7)) := fun x => w_shr x .u64 7
    have v6 : ∀ x : BitVec 64, bin .shr (u64 x) (.int .u64 6) = some (u64 (x >>> 6)) := fun x => w_shr x .u64 6
    have g := (h.bump 10).get
    have g0 := h.get
    have gb := ((h.bump 10).bump 30).get
    have g15 := wl_get (show t - 15 < w.length by omega)
    have g16 := wl_get (show t - 16 < w.length by omega)
    have g7 := wl_get (show t - 7 < w.length by omega)
    have g2 := wl_get (show t - 2 < w.length by omega)
    apply Fin.ex3
    rw [run_loop]
    simp only [hlp, a3, a6, hlt, s15, s16, s7, s2, i15, i16, i7, i2, it, Int.natCast_nonneg, and_self, ↓g, ↓gb, ↓g0, g15, g16, g7, g2, r1, r8, r19, r61, v7, v6, w_xor, u64_addw, Int.toNat_natCast, ↓sxp, sxq, ↓reduceIte, Nat.reduceBEq, Nat.reduceLT, evP, evX, evR, blkOf, evA, storeA, Nat.reduceEqDiff, resL, resV, oneOrTup, Int.reduceEq, Int.reduceLT, Int.reduceLE, Int.reduceNeg, Int.reduceAdd, Int.reduceSub, Int.reduceMul, Int.reduceToNat, Nat.reduceAdd, noUnk, AV.cells, reduceCtorEq, Nat.reduceLeDiff, Cells.get, Cells.getN, Nat.reduceMul, ↓bnd_assoc]
    refine Fin.write (wl (w.set t (wNext w t))) ((h.bump 10).bump 30) (by simp only [Cells.setN, Cells.set, wl_set]; rfl) (by simp; omega) rfl fun H4 h4 => ?_
    simp only [a6, hwr, ↓sxp, sxq, ↓reduceIte, Nat.reduceBEq, Nat.reduceLT, evP, evX, evR, blkOf, evA, storeA, Nat.reduceEqDiff, resL, resV, oneOrTup, Int.reduceEq, Int.reduceLT, Int.reduceLE, Int.reduceNeg, Int.reduceAdd, Int.reduceSub, Int.reduceMul, Int.reduceToNat, Nat.reduceAdd, noUnk, AV.cells, reduceCtorEq, Nat.reduceLeDiff, Cells.get, Cells.getN, Nat.reduceMul, ↓bnd_assoc]
    exact Fin.of3 (ih (t + 1) _ _ (w.set t (wNext w t)) (by omega) (by omega) (by simp; exact hw) (by simp only [a3, ↓sxp, sxq, ↓reduceIte, Nat.reduceBEq, Nat.reduceLT, evP, evX, evR, blkOf, evA, storeA, Nat.reduceEqDiff, resL, resV, oneOrTup, Int.reduceEq, Int.reduceLT, Int.reduceLE, Int.reduceNeg, Int.reduceAdd, Int.reduceSub, Int.reduceMul, Int.reduceToNat, Nat.reduceAdd, noUnk, AV.cells, reduceCtorEq, Nat.reduceLeDiff, Cells.get, Cells.getN, Nat.reduceMul, ↓bnd_assoc]) (by simp only [↓sxp, sxq, ↓reduceIte, Nat.reduceBEq, Nat.reduceLT, evP, evX, evR, blkOf, evA, storeA, Nat.reduceEqDiff, resL, resV, oneOrTup, Int.reduceEq, Int.reduceLT, Int.reduceLE, Int.reduceNeg, Int.reduceAdd, Int.reduceSub, Int.reduceMul, Int.reduceToNat, Nat.reduceAdd, noUnk, AV.cells, reduceCtorEq, Nat.reduceLeDiff, Cells.get, Cells.getN, Nat.reduceMul, ↓bnd_assoc]) h4) fun lv A' H' ⟨q1, q2, q3, q4⟩ => ⟨q1, q2.trans (by simp only [↓sxp, sxq, ↓reduceIte, Nat.reduceBEq, Nat.reduceLT, evP, evX, evR, blkOf, evA, storeA, Nat.reduceEqDiff, resL, resV, oneOrTup, Int.reduceEq, Int.reduceLT, Int.reduceLE, Int.reduceNeg, Int.reduceAdd, Int.reduceSub, Int.reduceMul, Int.reduceToNat, Nat.reduceAdd, noUnk, AV.cells, reduceCtorEq, Nat.reduceLeDiff, Cells.get, Cells.getN, Nat.reduceMul, ↓bnd_assoc]), q3, q4⟩
end
end Go.Proofs.YtjfnhdiimibmiaaDoor.Sx

/- The program's schedule. -/
namespace Go.Proofs.YtjfnhdiimibmiaaDoor.Sx
open HP
section
variable {W : World} {E : Env} {H : Heap} {Γ : List HP}
abbrev z80 : List (BitVec 64) := List.replicate 80 0
def schedF (bs : List UInt8) : List (BitVec 64) := schF 64 16 (wds 16 bs ++ List.replicate 64 0)
theorem wds_len : ∀ (k : Nat) (bs : List UInt8), (wds k bs).length = k := by
  intro k
  induction k with
  | zero => intro bs; rfl
  | succ k ih => intro bs; rw [wds, List.length_cons, ih]
theorem schF_len : ∀ (m t : Nat) (w : List (BitVec 64)), (schF m t w).length = w.length := by
  intro m
  induction m with
  | zero => intro t w; rfl
  | succ m ih => intro t w; rw [schF, ih]; simp
theorem setN_lst : ∀ (vs l : List AV) (o : Nat), o + vs.length ≤ l.length → (Cells.lst l).setN o vs = .lst (l.take o ++ (vs ++ l.drop (o + vs.length))) := by
  intro vs
  induction vs with
  | nil => intro l o _; simp [Cells.setN]
  | cons v vs ih =>
    intro l o h
    rw [List.length_cons] at h
    simp only [Cells.setN, Cells.set]
    rw [ih (l.set o v) (o + 1) (by simp; omega)]
    have e : l.set o v = l.take o ++ v :: l.drop (o + 1) := by rw [List.set_eq_take_append_cons_drop, if_pos (by omega)]
    have hl : (l.take o).length = o := by rw [List.length_take]; omega
    rw [e]
    congr 1
    rw [List.take_append, List.drop_append, hl, List.take_of_length_le (l := l.take o) (by omega), List.drop_of_length_le (l := l.take o) (by omega)]
    have e1 : o + 1 - o = 1 := by omega
    have e2 : o + 1 + vs.length - o = vs.length + 1 := by omega
    rw [e1, e2]
    simp only [List.take_succ_cons, List.take_zero, List.drop_succ_cons, List.nil_append, List.append_assoc, List.cons_append, List.drop_drop, List.length_cons]
    congr 4
    omega
theorem setN_all {vs l : List AV} (h : vs.length = l.length) : (Cells.lst l).setN 0 vs = .lst vs := by
  rw [setN_lst vs l 0 (by omega), List.drop_of_length_le (by omega)]; simp
theorem stepK_copy {A : Tm} {es : Nat} {d x : SX} : stepK W E (run W E) A H (.e (.copy es d x)) = copyA W H es (evX A d) (evX A x) := (Eq.refl _).trans rfl
theorem bnd80 (A : Tm) : bounds A 80 80 none none none = some (0, 80, 80) := (Eq.refl _).trans rfl
set_option maxRecDepth 20000 in
theorem c_sched (hE : EnvS E) {R : HP} {bs : List UInt8} {v : AV} (hb : bs.length = 128) (hR : RdLike W bs v R) (h : Holds H (R :: Γ)) :
    ∃ H', go W E 72 [v] H = some (.agg (wl (schedF bs)), H') ∧ Holds H' (R :: Γ) := by
  apply Ends.out
  have h1 := (h.push (c := wl z80) (t := 92)).push (c := wl z80) (t := 92)
  simp only [push_next] at h1
  rw [go_code hE.f72 (by simp [sf72])]
  have hz : wl z80 = [.int .u64 0, .int .u64 0, .int .u64 0, .int .u64 0, .int .u64 0, .int .u64 0, .int .u64 0, .int .u64 0, .int .u64 0, .int .u64 0, .int .u64 0, .int .u64 0, .int .u64 0, .int .u64 0, .int .u64 0, .int .u64 0, .int .u64 0, .int .u64 0, .int .u64 0, .int .u64 0, .int .u64 0, .int .u64 0, .int .u64 0, .int .u64 0, .int .u64 0, .int .u64 0, .int .u64 0, .int .u64 0, .int .u64 0, .int .u64 0, .int .u64 0, .int .u64 0, .int .u64 0, .int .u64 0, .int .u64 0, .int .u64 0, .int .u64 0, .int .u64 0, .int .u64 0, .int .u64 0, .int .u64 0, .int .u64 0, .int .u64 0, .int .u64 0, .int .u64 0, .int .u64 0, .int .u64 0, .int .u64 0, .int .u64 0, .int .u64 0, .int .u64 0, .int .u64 0, .int .u64 0, .int .u64 0, .int .u64 0, .int .u64 0, .int .u64 0, .int .u64 0, .int .u64 0, .int .u64 0, .int .u64 0, .int .u64 0, .int .u64 0, .int .u64 0, .int .u64 0, .int .u64 0, .int .u64 0, .int .u64 0, .int .u64 0, .int .u64 0, .int .u64 0, .int .u64 0, .int .u64 0, .int .u64 0, .int .u64 0, .int .u64 0, .int .u64 0, .int .u64 0, .int .u64 0, .int .u64 0] := rfl
  simp only [sf72, ← hz, ↓sxp, sxq, seval, evP, evX, evR, blkOf, evA, storeA, resL, resV, oneOrTup, noUnk, AV.cells, Cells.get, ↓bnd_assoc]
  generalize H.next = b2 at *
  refine (show Fin (fun r : AV × Heap => r.1 = .agg (wl (schedF bs)) ∧ Holds r.2 (R :: Γ)) _ from ?_)
  refine Fin.callE _ _ (c_words hE (k := 16) (by omega) (by omega) hR (h1.ord [2])) fun out H2 h2 => ?_
  obtain ⟨j, l, c, rfl, hg⟩ := h2.row_get (by omega) (n := 16) (by rw [List.length_map, wds_len]) (by omega)
  have hgn : Cells.getN (.lst (wl (wds 16 bs))) 0 (16 * 1) = some (wl (wds 16 bs)) := by
    have := getN_all (wl (wds 16 bs))
    rw [List.length_map, wds_len] at this; exact this
  have hgn' : Cells.getN (.lst (wl (wds 16 bs))) 0 16 = some (wl (wds 16 bs)) := hgn
  obtain ⟨hwr, h3⟩ := (h2.ord [2]).writeN (off := 0) (c' := wl (wds 16 bs ++ List.replicate 64 0)) (vs := wl (wds 16 bs)) rfl (by rw [List.length_map, wds_len]; simp) (by simp [oneC])
  simp only [↓stepK_copy, bnd80, copyA, blkOf, ↓hg, hgn', show Nat.min 16 (80 - 0) = 16 from rfl, hwr, ↓sxp, sxq, seval, evP, evX, evR, blkOf, evA, storeA, resL, resV, oneOrTup, noUnk, AV.cells, Cells.get, ↓bnd_assoc]
  refine Fin.loop (sch_loop hE (jb := b2 + 1) 64 16 _ _ (wds 16 bs ++ List.replicate 64 0) (by omega) (by omega) (by rw [List.length_append, wds_len]; rfl) (by simp only [↓sxp, sxq, seval, evP, evX, evR, blkOf, evA, storeA, resL, resV, oneOrTup, noUnk, AV.cells, Cells.get, ↓bnd_assoc]) (by simp only [↓sxp, sxq, seval, evP, evX, evR, blkOf, evA, storeA, resL, resV, oneOrTup, noUnk, AV.cells, Cells.get, Cells.getN, ↓bnd_assoc] <;> rfl) h3) fun lv A H5 ⟨e1, a2, a3, h5⟩ => ?_
  subst e1
  simp only [↓sxp, sxq, seval, evP, evX, evR, blkOf, evA, storeA, resL, resV, oneOrTup, noUnk, AV.cells, Cells.get, ↓bnd_assoc] at a2
  have hsl : (schF 64 16 (wds 16 bs ++ List.replicate 64 0)).length = 80 := by rw [schF_len, List.length_append, wds_len]; rfl
  show Fin (fun r : AV × Heap => r.fst = AV.agg (wl (schF 64 16 (wds 16 bs ++ List.replicate 64 0))) ∧ Holds r.snd (R :: Γ)) _
  generalize schF 64 16 (wds 16 bs ++ List.replicate 64 0) = s80 at *
  have hlen : (wl s80).length = 80 := by rw [List.length_map]; exact hsl
  have hgl : Cells.getN (.lst (wl s80)) 0 80 = some (wl s80) := by
    have := getN_all (wl s80)
    rw [hlen] at this; exact this
  have g5 := h5.get
  simp only [a2, a3, ↓g5, ↓hgl, hlen, ↓sxp, sxq, seval, evP, evX, evR, blkOf, evA, storeA, resL, resV, oneOrTup, noUnk, AV.cells, Cells.get, ↓bnd_assoc]
  refine Fin.write (wl s80) (h5.ord [3]) (setN_all (by rw [hlen, List.length_map, List.length_replicate])) (by rw [hlen, List.length_map, List.length_replicate]; exact Nat.le_refl _) (List.all_eq_true.2 fun x hx => by obtain ⟨y, _, rfl⟩ := List.mem_map.1 hx; rfl) fun H6 h6 => ?_
  have g6 := h6.get
  simp only [a2, ↓g6, ↓hgl, ↓sxp, sxq, seval, evP, evX, evR, blkOf, evA, storeA, resL, resV, oneOrTup, noUnk, AV.cells, Cells.get, ↓bnd_assoc]
  refine Fin.ret ?_
  exact ⟨rfl, h6.tail.tail.tail⟩
end
end Go.Proofs.YtjfnhdiimibmiaaDoor.Sx

/- A piece of the sum: its eighty rounds. -/
namespace Go.Proofs.YtjfnhdiimibmiaaDoor.Sx
open HP
/-- Eight words. -/
structure S8 where
  (a b c d e f g h : BitVec 64)
def S8.l (s : S8) : List (BitVec 64) := [s.a, s.b, s.c, s.d, s.e, s.f, s.g, s.h]
def t14 (e : BitVec 64) : BitVec 64 := e.rotateRight 14 ^^^ e.rotateRight 18 ^^^ e.rotateRight 41
def t28 (a : BitVec 64) : BitVec 64 := a.rotateRight 28 ^^^ a.rotateRight 34 ^^^ a.rotateRight 39
def chF (e f g : BitVec 64) : BitVec 64 := e &&& f ||| ~~~e &&& g
def maF (a b c : BitVec 64) : BitVec 64 := a &&& b ||| a &&& c ||| b &&& c
def oneF (s : S8) (k w : BitVec 64) : BitVec 64 := s.h + t14 s.e + chF s.e s.f s.g + k + w
def twoF (s : S8) : BitVec 64 := t28 s.a + maF s.a s.b s.c
def rnd (s : S8) (k w : BitVec 64) : S8 := ⟨oneF s k w + twoF s, s.a, s.b, s.c, s.d + oneF s k w, s.e, s.f, s.g⟩
def rnds (ks ws : List (BitVec 64)) : Nat → Nat → S8 → S8
  | 0, _, s => s
  | m + 1, t, s => rnds ks ws m (t + 1) (rnd s (ks.getD t 0) (ws.getD t 0))
def S8.add (s v : S8) : S8 := ⟨s.a + v.a, s.b + v.b, s.c + v.c, s.d + v.d, s.e + v.e, s.f + v.f, s.g + v.g, s.h + v.h⟩
def pieceF (ks : List (BitVec 64)) (s : S8) (p : List UInt8) : S8 := s.add (rnds ks (schedF p) 80 0 s)
def z8 : List AV := [.int .u64 0, .int .u64 0, .int .u64 0, .int .u64 0, .int .u64 0, .int .u64 0, .int .u64 0, .int .u64 0]
abbrev s8l (s : S8) : List AV := [u64 s.a, u64 s.b, u64 s.c, u64 s.d, u64 s.e, u64 s.f, u64 s.g, u64 s.h]
section
variable {W : World} {E : Env} {H : Heap} {Γ : List HP}
theorem nc8 : ((8 : Nat) : Int) = 8 := (Eq.refl _).trans rfl
theorem nc64 : ((64 : Nat) : Int) = 64 := (Eq.refl _).trans rfl
theorem nc80 : ((80 : Nat) : Int) = 80 := (Eq.refl _).trans rfl
theorem w_not (v : BitVec 64) : Option.map (fun x => AV.int IntKind.u64 x) (bits .xor .u64 (if IntKind.u64.signed = true then -1 else IntKind.u64.max) (v.toNat : Int)) = some (u64 (~~~v)) := by
  have : bin .xor (u64 (BitVec.allOnes 64)) (u64 v) = some (u64 (BitVec.allOnes 64 ^^^ v)) := w_xor _ _
  rw [BitVec.allOnes_xor] at this
  exact this
theorem piece_loop (hE : EnvS E) {jv jk js : Nat} {ks ws : List (BitVec 64)} (hks : ks.length = 80) (hws : ws.length = 80) {df : List Nat} : ∀ (m t : Nat) (A : Tm) (H : Heap) (s : S8), t + m = 80 → getX A 7 = .ptr (some ⟨.own jv, 0⟩) → getX A 1 = .ptr (some ⟨.own jk, 0⟩) → getX A 3 = .ptr (some ⟨.own js, 0⟩) → getX A 17 = .agg (wl ws) → getX A 18 = .int .i64 t → Holds H (blk jv (s8l s) 94 :: blk jk (wl ks) 92 :: Γ) →
    ∃ lv A' H', run W E (.loop lp63_0) ⟨A, df, none⟩ H = some (lv, ⟨A', df, none⟩, H') ∧ (lv = .exit 0 ∧ getX A' 3 = .ptr (some ⟨.own js, 0⟩) ∧ getX A' 6 = getX A 6 ∧ getX A' 7 = .ptr (some ⟨.own jv, 0⟩) ∧ Holds H' (blk jv (s8l (rnds ks ws m t s)) 94 :: blk jk (wl ks) 92 :: Γ)) := by
  have hlp : ∀ f H, run W E lp63_0 f H = run W E lp63_0 f H := fun _ _ => rfl
  conv at hlp => enter [f, H, 2]; unfold lp63_0
  intro m
  induction m with
  | zero =>
    intro t A H s htm a7 a1 a3 a17 a18 h
    have : t = 80 := by omega
    subst this
    have a18' : getX A 18 = .int .i64 80 := a18
    rw [run_loop]
    simp only [hlp, a18', ↓sxp, sxq, ↓reduceIte, Nat.reduceBEq, Nat.reduceLT, evP, evX, evR, blkOf, evA, storeA, Nat.reduceEqDiff, resL, resV, oneOrTup, Int.reduceEq, Int.reduceLT, Int.reduceLE, Int.reduceNeg, Int.reduceAdd, Int.reduceSub, Int.reduceMul, Int.reduceToNat, Nat.reduceAdd, noUnk, AV.cells, reduceCtorEq, Nat.reduceLeDiff, Cells.get, Nat.reduceMul, ↓bnd_assoc]
    exact ⟨_, _, _, rfl, rfl, by simp only [a3, ↓sxp, sxq, ↓reduceIte, Nat.reduceBEq, Nat.reduceLT, evP, evX, evR, blkOf, evA, storeA, Nat.reduceEqDiff, resL, resV, oneOrTup, Int.reduceEq, Int.reduceLT, Int.reduceLE, Int.reduceNeg, Int.reduceAdd, Int.reduceSub, Int.reduceMul, Int.reduceToNat, Nat.reduceAdd, noUnk, AV.cells, reduceCtorEq, Nat.reduceLeDiff, Cells.get, Nat.reduceMul, ↓bnd_assoc], by simp only [↓sxp, sxq, ↓reduceIte, Nat.reduceBEq, Nat.reduceLT, evP, evX, evR, blkOf, evA, storeA, Nat.reduceEqDiff, resL, resV, oneOrTup, Int.reduceEq, Int.reduceLT, Int.reduceLE, Int.reduceNeg, Int.reduceAdd, Int.reduceSub, Int.reduceMul, Int.reduceToNat, Nat.reduceAdd, noUnk, AV.cells, reduceCtorEq, Nat.reduceLeDiff, Cells.get, Nat.reduceMul, ↓bnd_assoc], by simp only [a7, ↓sxp, sxq, ↓reduceIte, Nat.reduceBEq, Nat.reduceLT, evP, evX, evR, blkOf, evA, storeA, Nat.reduceEqDiff, resL, resV, oneOrTup, Int.reduceEq, Int.reduceLT, Int.reduceLE, Int.reduceNeg, Int.reduceAdd, Int.reduceSub, Int.reduceMul, Int.reduceToNat, Nat.reduceAdd, noUnk, AV.cells, reduceCtorEq, Nat.reduceLeDiff, Cells.get, Nat.reduceMul, ↓bnd_assoc], h⟩
  | succ m ih =>
    intro t A H s htm a7 a1 a3 a17 a18 h
    have hlt : (t : Int) < 80 := by omega
    have hlt' : (t : Int) < ((80 : Nat) : Int) := by omega
    have hwr : IntKind.i64.wrap ((t : Int) + 1) = ((t + 1 : Nat) : Int) := by rw [w64 (by omega)]; simp
    have g1 := (h.bump 6).get
    have g2 := ((h.bump 6).bump 25).get
    have g3 := (((h.bump 6).bump 25).bump 19).get
    have k2 := (((h.bump 6).bump 25).ord [1]).get
    have gk := wl_get (show t < ks.length by omega)
    have gw := wl_get (show t < ws.length by omega)
    have r14 : ∀ (x : BitVec 64) (H : Heap), go W E 73 [u64 x, .int .i64 14, .int .i64 18, .int .i64 41] H = some (u64 (t14 x), H) := fun x H => c_turns hE x 14 18 41 (by omega) (by omega) (by omega)
    have r28 : ∀ (x : BitVec 64) (H : Heap), go W E 73 [u64 x, .int .i64 28, .int .i64 34, .int .i64 39] H = some (u64 (t28 x), H) := fun x H => c_turns hE x 28 34 39 (by omega) (by omega) (by omega)
    apply Fin.ex3
    rw [run_loop]
    obtain ⟨sa, sb, sc, sd, se, sf, sg, sh⟩ := s
    simp only [hlp, a7, a1, a3, a17, a18, hlt, nc8, nc80, Int.natCast_nonneg, and_self, ↓g1, ↓g2, ↓g3, ↓k2, gk, gw, r14, r28, w_and, w_or, w_not, u64_addw, partAV, Int.toNat_natCast, ↓sxp, sxq, ↓reduceIte, Nat.reduceBEq, Nat.reduceLT, evP, evX, evR, blkOf, evA, storeA, Nat.reduceEqDiff, resL, resV, oneOrTup, Int.reduceEq, Int.reduceLT, Int.reduceLE, Int.reduceNeg, Int.reduceAdd, Int.reduceSub, Int.reduceMul, Int.reduceToNat, Nat.reduceAdd, noUnk, AV.cells, reduceCtorEq, Nat.reduceLeDiff, Cells.get, Nat.reduceMul, ↓bnd_assoc]
    refine Fin.write (s8l (rnd ⟨sa, sb, sc, sd, se, sf, sg, sh⟩ (ks.getD t 0) (ws.getD t 0))) (((h.bump 6).bump 25).bump 19) (by simp only [Cells.setN, Cells.set]; rfl) (by simp) rfl fun H4 h4 => ?_
    simp only [hwr]
    exact Fin.of3 (ih (t + 1) _ _ (rnd ⟨sa, sb, sc, sd, se, sf, sg, sh⟩ (ks.getD t 0) (ws.getD t 0)) (by omega) (by simp only [a7, ↓sxp, sxq, ↓reduceIte, Nat.reduceBEq, Nat.reduceLT, evP, evX, evR, blkOf, evA, storeA, Nat.reduceEqDiff, resL, resV, oneOrTup, Int.reduceEq, Int.reduceLT, Int.reduceLE, Int.reduceNeg, Int.reduceAdd, Int.reduceSub, Int.reduceMul, Int.reduceToNat, Nat.reduceAdd, noUnk, AV.cells, reduceCtorEq, Nat.reduceLeDiff, Cells.get, Nat.reduceMul, ↓bnd_assoc]) (by simp only [a1, ↓sxp, sxq, ↓reduceIte, Nat.reduceBEq, Nat.reduceLT, evP, evX, evR, blkOf, evA, storeA, Nat.reduceEqDiff, resL, resV, oneOrTup, Int.reduceEq, Int.reduceLT, Int.reduceLE, Int.reduceNeg, Int.reduceAdd, Int.reduceSub, Int.reduceMul, Int.reduceToNat, Nat.reduceAdd, noUnk, AV.cells, reduceCtorEq, Nat.reduceLeDiff, Cells.get, Nat.reduceMul, ↓bnd_assoc]) (by simp only [a3, ↓sxp, sxq, ↓reduceIte, Nat.reduceBEq, Nat.reduceLT, evP, evX, evR, blkOf, evA, storeA, Nat.reduceEqDiff, resL, resV, oneOrTup, Int.reduceEq, Int.reduceLT, Int.reduceLE, Int.reduceNeg, Int.reduceAdd, Int.reduceSub, Int.reduceMul, Int.reduceToNat, Nat.reduceAdd, noUnk, AV.cells, reduceCtorEq, Nat.reduceLeDiff, Cells.get, Nat.reduceMul, ↓bnd_assoc]) (by simp only [a17, ↓sxp, sxq, ↓reduceIte, Nat.reduceBEq, Nat.reduceLT, evP, evX, evR, blkOf, evA, storeA, Nat.reduceEqDiff, resL, resV, oneOrTup, Int.reduceEq, Int.reduceLT, Int.reduceLE, Int.reduceNeg, Int.reduceAdd, Int.reduceSub, Int.reduceMul, Int.reduceToNat, Nat.reduceAdd, noUnk, AV.cells, reduceCtorEq, Nat.reduceLeDiff, Cells.get, Nat.reduceMul, ↓bnd_assoc]) (by simp only [↓sxp, sxq, ↓reduceIte, Nat.reduceBEq, Nat.reduceLT, evP, evX, evR, blkOf, evA, storeA, Nat.reduceEqDiff, resL, resV, oneOrTup, Int.reduceEq, Int.reduceLT, Int.reduceLE, Int.reduceNeg, Int.reduceAdd, Int.reduceSub, Int.reduceMul, Int.reduceToNat, Nat.reduceAdd, noUnk, AV.cells, reduceCtorEq, Nat.reduceLeDiff, Cells.get, Nat.reduceMul, ↓bnd_assoc]) h4) fun lv A' H' ⟨q1, q2, q3, q4, q5⟩ => ⟨q1, q2, q3.trans (by simp only [↓sxp, sxq, ↓reduceIte, Nat.reduceBEq, Nat.reduceLT, evP, evX, evR, blkOf, evA, storeA, Nat.reduceEqDiff, resL, resV, oneOrTup, Int.reduceEq, Int.reduceLT, Int.reduceLE, Int.reduceNeg, Int.reduceAdd, Int.reduceSub, Int.reduceMul, Int.reduceToNat, Nat.reduceAdd, noUnk, AV.cells, reduceCtorEq, Nat.reduceLeDiff, Cells.get, Nat.reduceMul, ↓bnd_assoc]), q4, q5⟩
theorem add_step (s0 v : S8) : ∀ t, t < 8 → ((s0.add v).l.take t ++ s0.l.drop t).set t (((s0.add v).l.take t ++ s0.l.drop t).getD t 0 + v.l.getD t 0) = (s0.add v).l.take (t + 1) ++ s0.l.drop (t + 1)
  | 0, _ => rfl
  | 1, _ => rfl
  | 2, _ => rfl
  | 3, _ => rfl
  | 4, _ => rfl
  | 5, _ => rfl
  | 6, _ => rfl
  | 7, _ => rfl
theorem add_loop {jv js : Nat} {v s0 : S8} {df : List Nat} : ∀ (m t : Nat) (A : Tm) (H : Heap) (l : List (BitVec 64)), t + m = 8 → l.length = 8 → getX A 7 = .ptr (some ⟨.own jv, 0⟩) → getX A 3 = .ptr (some ⟨.own js, 0⟩) → getX A 89 = .int .i64 t → l = ((s0.add v).l.take t ++ s0.l.drop t) → Holds H (blk js (wl l) 94 :: blk jv (wl v.l) 94 :: Γ) →
    ∃ lv A' H', run W E (.loop lp63_1) ⟨A, df, none⟩ H = some (lv, ⟨A', df, none⟩, H') ∧ (lv = .exit 2 ∧ getX A' 3 = .ptr (some ⟨.own js, 0⟩) ∧ getX A' 6 = getX A 6 ∧ Holds H' (blk js (wl (s0.add v).l) 94 :: blk jv (wl v.l) 94 :: Γ)) := by
  have hlp : ∀ f H, run W E lp63_1 f H = run W E lp63_1 f H := fun _ _ => rfl
  conv at hlp => enter [f, H, 2]; unfold lp63_1
  intro m
  induction m with
  | zero =>
    intro t A H l htm hl a7 a3 a89 el h
    have : t = 8 := by omega
    subst this
    have a89' : getX A 89 = .int .i64 8 := a89
    have e : l = (s0.add v).l := el
    subst e
    rw [run_loop]
    simp only [hlp, a89', ↓sxp, sxq, ↓reduceIte, Nat.reduceBEq, Nat.reduceLT, evP, evX, evR, blkOf, evA, storeA, Nat.reduceEqDiff, resL, resV, oneOrTup, Int.reduceEq, Int.reduceLT, Int.reduceLE, Int.reduceNeg, Int.reduceAdd, Int.reduceSub, Int.reduceMul, Int.reduceToNat, Nat.reduceAdd, noUnk, AV.cells, reduceCtorEq, Nat.reduceLeDiff, Cells.get, Nat.reduceMul, ↓bnd_assoc]
    exact ⟨_, _, _, rfl, rfl, by simp only [a3, ↓sxp, sxq, ↓reduceIte, Nat.reduceBEq, Nat.reduceLT, evP, evX, evR, blkOf, evA, storeA, Nat.reduceEqDiff, resL, resV, oneOrTup, Int.reduceEq, Int.reduceLT, Int.reduceLE, Int.reduceNeg, Int.reduceAdd, Int.reduceSub, Int.reduceMul, Int.reduceToNat, Nat.reduceAdd, noUnk, AV.cells, reduceCtorEq, Nat.reduceLeDiff, Cells.get, Nat.reduceMul, ↓bnd_assoc], by simp only [↓sxp, sxq, ↓reduceIte, Nat.reduceBEq, Nat.reduceLT, evP, evX, evR, blkOf, evA, storeA, Nat.reduceEqDiff, resL, resV, oneOrTup, Int.reduceEq, Int.reduceLT, Int.reduceLE, Int.reduceNeg, Int.reduceAdd, Int.reduceSub, Int.reduceMul, Int.reduceToNat, Nat.reduceAdd, noUnk, AV.cells, reduceCtorEq, Nat.reduceLeDiff, Cells.get, Nat.reduceMul, ↓bnd_assoc], h⟩
  | succ m ih =>
    intro t A H l htm hl a7 a3 a89 el h
    have hlt : (t : Int) < 8 := by omega
    have hwr : IntKind.i64.wrap ((t : Int) + 1) = ((t + 1 : Nat) : Int) := by rw [w64 (by omega)]; simp
    have g1 := (h.bump 9).get
    have g2 := ((h.bump 9).ord [1]).get
    have gl := wl_get (show t < l.length by omega)
    have hv : v.l.length = 8 := rfl
    have gv := wl_get (show t < v.l.length by omega)
    apply Fin.ex3
    rw [run_loop]
    simp only [hlp, a7, a3, a89, hlt, nc8, Int.natCast_nonneg, and_self, ↓g1, ↓g2, gl, gv, u64_addw, Int.toNat_natCast, ↓sxp, sxq, ↓reduceIte, Nat.reduceBEq, Nat.reduceLT, evP, evX, evR, blkOf, evA, storeA, Nat.reduceEqDiff, resL, resV, oneOrTup, Int.reduceEq, Int.reduceLT, Int.reduceLE, Int.reduceNeg, Int.reduceAdd, Int.reduceSub, Int.reduceMul, Int.reduceToNat, Nat.reduceAdd, noUnk, AV.cells, reduceCtorEq, Nat.reduceLeDiff, Cells.get, Nat.reduceMul, ↓bnd_assoc]
    refine Fin.write (wl (l.set t (l.getD t 0 + v.l.getD t 0))) (h.bump 9) (by simp only [Cells.setN, Cells.set, wl_set]) (by simp; omega) rfl fun H4 h4 => ?_
    simp only [hwr]
    exact Fin.of3 (ih (t + 1) _ _ _ (by omega) (by simp; exact hl) (by simp only [a7, ↓sxp, sxq, ↓reduceIte, Nat.reduceBEq, Nat.reduceLT, evP, evX, evR, blkOf, evA, storeA, Nat.reduceEqDiff, resL, resV, oneOrTup, Int.reduceEq, Int.reduceLT, Int.reduceLE, Int.reduceNeg, Int.reduceAdd, Int.reduceSub, Int.reduceMul, Int.reduceToNat, Nat.reduceAdd, noUnk, AV.cells, reduceCtorEq, Nat.reduceLeDiff, Cells.get, Nat.reduceMul, ↓bnd_assoc]) (by simp only [a3, ↓sxp, sxq, ↓reduceIte, Nat.reduceBEq, Nat.reduceLT, evP, evX, evR, blkOf, evA, storeA, Nat.reduceEqDiff, resL, resV, oneOrTup, Int.reduceEq, Int.reduceLT, Int.reduceLE, Int.reduceNeg, Int.reduceAdd, Int.reduceSub, Int.reduceMul, Int.reduceToNat, Nat.reduceAdd, noUnk, AV.cells, reduceCtorEq, Nat.reduceLeDiff, Cells.get, Nat.reduceMul, ↓bnd_assoc]) (by simp only [↓sxp, sxq, ↓reduceIte, Nat.reduceBEq, Nat.reduceLT, evP, evX, evR, blkOf, evA, storeA, Nat.reduceEqDiff, resL, resV, oneOrTup, Int.reduceEq, Int.reduceLT, Int.reduceLE, Int.reduceNeg, Int.reduceAdd, Int.reduceSub, Int.reduceMul, Int.reduceToNat, Nat.reduceAdd, noUnk, AV.cells, reduceCtorEq, Nat.reduceLeDiff, Cells.get, Nat.reduceMul, ↓bnd_assoc]) (by rw [el]; exact add_step s0 v t (by omega)) h4) fun lv A' H' ⟨q1, q2, q3, q4⟩ => ⟨q1, q2, q3.trans (by simp only [↓sxp, sxq, ↓reduceIte, Nat.reduceBEq, Nat.reduceLT, evP, evX, evR, blkOf, evA, storeA, Nat.reduceEqDiff, resL, resV, oneOrTup, Int.reduceEq, Int.reduceLT, Int.reduceLE, Int.reduceNeg, Int.reduceAdd, Int.reduceSub, Int.reduceMul, Int.reduceToNat, Nat.reduceAdd, noUnk, AV.cells, reduceCtorEq, Nat.reduceLeDiff, Cells.get, Nat.reduceMul, ↓bnd_assoc]), q4⟩
theorem schedF_len (bs : List UInt8) : (schedF bs).length = 80 := by
  unfold schedF
  rw [schF_len, List.length_append, wds_len]; rfl
theorem c_piece (hE : EnvS E) {R : HP} {p : List UInt8} {v : AV} {s : S8} {jk : Nat} {ks : List (BitVec 64)} (hks : ks.length = 80) (hp : p.length = 128) (hR : RdLike W p v R) (h : Holds H (blk jk (wl ks) 92 :: R :: Γ)) :
    ∃ H', go W E 63 [.agg (wl s.l), .ptr (some ⟨.own jk, 0⟩), v] H = some (.agg (wl (pieceF ks s p).l), H') ∧ Holds H' (blk jk (wl ks) 92 :: R :: Γ) := by
  apply Ends.out
  rw [go_code hE.f63 (by simp [sf63])]
  have h1 := (h.push (c := wl s.l) (t := 94)).push (c := z8) (t := 94)
  have h2 := h1.push (c := z8) (t := 94)
  simp only [push_next] at h1 h2
  have gs := (h1.ord [1]).get
  have n8 : ∀ s : S8, Cells.getN (.lst (wl s.l)) 0 8 = some (wl s.l) := fun s => rfl
  simp only [sf63, ↓gs, ↓n8, show [AV.int .u64 0, .int .u64 0, .int .u64 0, .int .u64 0, .int .u64 0, .int .u64 0, .int .u64 0, .int .u64 0] = z8 from rfl, ↓sxp, sxq, ↓reduceIte, Nat.reduceBEq, Nat.reduceLT, evP, evX, evR, blkOf, evA, storeA, Nat.reduceEqDiff, resL, resV, oneOrTup, Int.reduceEq, Int.reduceLT, Int.reduceLE, Int.reduceNeg, Int.reduceAdd, Int.reduceSub, Int.reduceMul, Int.reduceToNat, Nat.reduceAdd, noUnk, AV.cells, reduceCtorEq, Nat.reduceLeDiff, Cells.get, Nat.reduceMul, ↓bnd_assoc]
  have l8 : ∀ s : S8, (wl s.l).length = 8 := fun s => rfl
  have o8 : ∀ s : S8, (wl s.l).all oneC = true := fun s => rfl
  refine (show Fin (fun r : AV × Heap => r.1 = .agg (wl (pieceF ks s p).l) ∧ Holds r.2 (blk jk (wl ks) 92 :: R :: Γ)) _ from ?_)
  simp only [l8, ↓sxp, sxq, ↓reduceIte, Nat.reduceBEq, Nat.reduceLT, evP, evX, evR, blkOf, evA, storeA, Nat.reduceEqDiff, resL, resV, oneOrTup, Int.reduceEq, Int.reduceLT, Int.reduceLE, Int.reduceNeg, Int.reduceAdd, Int.reduceSub, Int.reduceMul, Int.reduceToNat, Nat.reduceAdd, noUnk, AV.cells, reduceCtorEq, Nat.reduceLeDiff, Cells.get, Nat.reduceMul, ↓bnd_assoc]
  refine Fin.write (wl s.l) h2 (setN_all rfl) (by rw [l8]; exact Nat.le_refl _) (o8 s) fun H3 h3 => ?_
  generalize H.next = b0 at *
  refine Fin.call (c_sched hE hp hR (h3.ord [4])) fun H4 h4 => ?_
  have h5 := h4.ord [1, 3]
  refine Fin.loop (piece_loop hE (js := b0) hks (schedF_len p) 80 0 _ _ s (by omega) (by simp only [↓sxp, sxq, ↓reduceIte, Nat.reduceBEq, Nat.reduceLT, evP, evX, evR, blkOf, evA, storeA, Nat.reduceEqDiff, resL, resV, oneOrTup, Int.reduceEq, Int.reduceLT, Int.reduceLE, Int.reduceNeg, Int.reduceAdd, Int.reduceSub, Int.reduceMul, Int.reduceToNat, Nat.reduceAdd, noUnk, AV.cells, reduceCtorEq, Nat.reduceLeDiff, Cells.get, Nat.reduceMul, ↓bnd_assoc]) (by simp only [↓sxp, sxq, ↓reduceIte, Nat.reduceBEq, Nat.reduceLT, evP, evX, evR, blkOf, evA, storeA, Nat.reduceEqDiff, resL, resV, oneOrTup, Int.reduceEq, Int.reduceLT, Int.reduceLE, Int.reduceNeg, Int.reduceAdd, Int.reduceSub, Int.reduceMul, Int.reduceToNat, Nat.reduceAdd, noUnk, AV.cells, reduceCtorEq, Nat.reduceLeDiff, Cells.get, Nat.reduceMul, ↓bnd_assoc]) (by simp only [↓sxp, sxq, ↓reduceIte, Nat.reduceBEq, Nat.reduceLT, evP, evX, evR, blkOf, evA, storeA, Nat.reduceEqDiff, resL, resV, oneOrTup, Int.reduceEq, Int.reduceLT, Int.reduceLE, Int.reduceNeg, Int.reduceAdd, Int.reduceSub, Int.reduceMul, Int.reduceToNat, Nat.reduceAdd, noUnk, AV.cells, reduceCtorEq, Nat.reduceLeDiff, Cells.get, Nat.reduceMul, ↓bnd_assoc]) (by simp only [↓sxp, sxq, ↓reduceIte, Nat.reduceBEq, Nat.reduceLT, evP, evX, evR, blkOf, evA, storeA, Nat.reduceEqDiff, resL, resV, oneOrTup, Int.reduceEq, Int.reduceLT, Int.reduceLE, Int.reduceNeg, Int.reduceAdd, Int.reduceSub, Int.reduceMul, Int.reduceToNat, Nat.reduceAdd, noUnk, AV.cells, reduceCtorEq, Nat.reduceLeDiff, Cells.get, Nat.reduceMul, ↓bnd_assoc]) (by simp only [↓sxp, sxq, ↓reduceIte, Nat.reduceBEq, Nat.reduceLT, evP, evX, evR, blkOf, evA, storeA, Nat.reduceEqDiff, resL, resV, oneOrTup, Int.reduceEq, Int.reduceLT, Int.reduceLE, Int.reduceNeg, Int.reduceAdd, Int.reduceSub, Int.reduceMul, Int.reduceToNat, Nat.reduceAdd, noUnk, AV.cells, reduceCtorEq, Nat.reduceLeDiff, Cells.get, Nat.reduceMul, ↓bnd_assoc]; rfl) h5) fun lv A H6 ⟨e1, a3, a6, a7, h6⟩ => ?_
  subst e1
  have a6' : getX A 6 = .ptr (some ⟨.own (b0 + 1), 0⟩) := a6.trans (by simp only [↓sxp, sxq, ↓reduceIte, Nat.reduceBEq, Nat.reduceLT, evP, evX, evR, blkOf, evA, storeA, Nat.reduceEqDiff, resL, resV, oneOrTup, Int.reduceEq, Int.reduceLT, Int.reduceLE, Int.reduceNeg, Int.reduceAdd, Int.reduceSub, Int.reduceMul, Int.reduceToNat, Nat.reduceAdd, noUnk, AV.cells, reduceCtorEq, Nat.reduceLeDiff, Cells.get, Nat.reduceMul, ↓bnd_assoc])
  simp only [↓sxp, sxq, ↓reduceIte, Nat.reduceBEq, Nat.reduceLT, evP, evX, evR, blkOf, evA, storeA, Nat.reduceEqDiff, resL, resV, oneOrTup, Int.reduceEq, Int.reduceLT, Int.reduceLE, Int.reduceNeg, Int.reduceAdd, Int.reduceSub, Int.reduceMul, Int.reduceToNat, Nat.reduceAdd, noUnk, AV.cells, reduceCtorEq, Nat.reduceLeDiff, Cells.get, Nat.reduceMul, ↓bnd_assoc]
  have h7 := h6.ord [4]
  have hpf : pieceF ks s p = s.add (rnds ks (schedF p) 80 0 s) := by unfold pieceF; exact rfl
  rw [hpf]
  generalize rnds ks (schedF p) 80 0 s = X at *
  have h7 : Holds H6 (blk b0 (wl s.l) 94 :: blk (b0 + 1 + 1) (wl X.l) 94 :: blk jk (wl ks) 92 :: R :: blk (b0 + 1) z8 94 :: Γ) := h7
  refine Fin.loop (add_loop (v := X) (s0 := s) 8 0 _ _ s.l (by omega) rfl (by simp only [a7, ↓sxp, sxq, ↓reduceIte, Nat.reduceBEq, Nat.reduceLT, evP, evX, evR, blkOf, evA, storeA, Nat.reduceEqDiff, resL, resV, oneOrTup, Int.reduceEq, Int.reduceLT, Int.reduceLE, Int.reduceNeg, Int.reduceAdd, Int.reduceSub, Int.reduceMul, Int.reduceToNat, Nat.reduceAdd, noUnk, AV.cells, reduceCtorEq, Nat.reduceLeDiff, Cells.get, Nat.reduceMul, ↓bnd_assoc]) (by simp only [a3, ↓sxp, sxq, ↓reduceIte, Nat.reduceBEq, Nat.reduceLT, evP, evX, evR, blkOf, evA, storeA, Nat.reduceEqDiff, resL, resV, oneOrTup, Int.reduceEq, Int.reduceLT, Int.reduceLE, Int.reduceNeg, Int.reduceAdd, Int.reduceSub, Int.reduceMul, Int.reduceToNat, Nat.reduceAdd, noUnk, AV.cells, reduceCtorEq, Nat.reduceLeDiff, Cells.get, Nat.reduceMul, ↓bnd_assoc]) (by simp only [↓sxp, sxq, ↓reduceIte, Nat.reduceBEq, Nat.reduceLT, evP, evX, evR, blkOf, evA, storeA, Nat.reduceEqDiff, resL, resV, oneOrTup, Int.reduceEq, Int.reduceLT, Int.reduceLE, Int.reduceNeg, Int.reduceAdd, Int.reduceSub, Int.reduceMul, Int.reduceToNat, Nat.reduceAdd, noUnk, AV.cells, reduceCtorEq, Nat.reduceLeDiff, Cells.get, Nat.reduceMul, ↓bnd_assoc]; rfl) rfl h7) fun lv A2 H8 ⟨e1, b3, b6, h8⟩ => ?_
  subst e1
  have b6' : getX A2 6 = .ptr (some ⟨.own (b0 + 1), 0⟩) := b6.trans (by simp only [a6', ↓sxp, sxq, ↓reduceIte, Nat.reduceBEq, Nat.reduceLT, evP, evX, evR, blkOf, evA, storeA, Nat.reduceEqDiff, resL, resV, oneOrTup, Int.reduceEq, Int.reduceLT, Int.reduceLE, Int.reduceNeg, Int.reduceAdd, Int.reduceSub, Int.reduceMul, Int.reduceToNat, Nat.reduceAdd, noUnk, AV.cells, reduceCtorEq, Nat.reduceLeDiff, Cells.get, Nat.reduceMul, ↓bnd_assoc])
  have g8 := h8.get
  simp only [b3, b6', ↓g8, ↓n8, l8, ↓sxp, sxq, ↓reduceIte, Nat.reduceBEq, Nat.reduceLT, evP, evX, evR, blkOf, evA, storeA, Nat.reduceEqDiff, resL, resV, oneOrTup, Int.reduceEq, Int.reduceLT, Int.reduceLE, Int.reduceNeg, Int.reduceAdd, Int.reduceSub, Int.reduceMul, Int.reduceToNat, Nat.reduceAdd, noUnk, AV.cells, reduceCtorEq, Nat.reduceLeDiff, Cells.get, Nat.reduceMul, ↓bnd_assoc]
  refine Fin.write (wl (s.add X).l) (h8.ord [4]) (setN_all (by rw [l8]; rfl)) (by rw [l8]; exact Nat.le_refl _) (o8 _) fun H9 h9 => ?_
  have g9 := h9.get
  simp only [b6', ↓g9, ↓n8, ↓sxp, sxq, ↓reduceIte, Nat.reduceBEq, Nat.reduceLT, evP, evX, evR, blkOf, evA, storeA, Nat.reduceEqDiff, resL, resV, oneOrTup, Int.reduceEq, Int.reduceLT, Int.reduceLE, Int.reduceNeg, Int.reduceAdd, Int.reduceSub, Int.reduceMul, Int.reduceToNat, Nat.reduceAdd, noUnk, AV.cells, reduceCtorEq, Nat.reduceLeDiff, Cells.get, Nat.reduceMul, ↓bnd_assoc]
  exact Fin.ret ⟨rfl, h9.tail.tail.tail⟩
end
end Go.Proofs.YtjfnhdiimibmiaaDoor.Sx

/- A list of bytes that is appended to and cut in front. -/
namespace Go.Proofs.YtjfnhdiimibmiaaDoor.Sx
open HP
section
variable {W : World} {E : Env} {H : Heap} {Γ : List HP}
theorem Rd.src {bs : List UInt8} {v : AV} (h : Rd W H bs v) : srcA W H 1 false v = some (bs.length, cb bs) := by
  cases h with
  | nil => rfl
  | emp => rfl
  | fin a e => rfl
  | ex bs r off k c hb hg hk => simp only [srcA, hb, Nat.mul_one, hg]
  | op bs r off c hb hg => simp only [srcA, hb, Nat.mul_one, hg]
theorem cb_app (a b : List UInt8) : cb (a ++ b) = cb a ++ cb b := List.map_append
theorem cb_one (a : List UInt8) : (cb a).all oneC = true := List.all_eq_true.2 fun x hx => by obtain ⟨y, _, rfl⟩ := List.mem_map.1 hx; rfl
theorem cb_len (a : List UInt8) : (cb a).length = a.length := List.length_map ..
theorem getN_mid (a b c : List AV) : Cells.getN (.lst (a ++ (b ++ c))) a.length b.length = some b := by
  have := getN_sub (c := .lst (a ++ (b ++ c))) (off := 0) (l := a ++ (b ++ c)) a.length b.length (by have := getN_all (a ++ (b ++ c)); exact this) (by simp)
  rw [Nat.zero_add] at this
  rw [this]; simp
/-- A list of bytes that append has made, and that is cut in front. -/
inductive LRow (H : Heap) : List UInt8 → AV → List Nat → Prop
  | nil : LRow H [] (.sl none 0 (.exact 0)) []
  | row (bs : List UInt8) (j l fl : Nat) (h0 : 0 < bs.length) (hg : H.get j = some (.cells (.lst (cb bs)) 5 (some l))) (hln : H.lines.get l = some (fl, j)) : LRow H bs (.sl (some ⟨.own j, 0⟩) bs.length (.opn 1)) [j, l]
  | cut (pre : List AV) (bs : List UInt8) (j l fl tip : Nat) (hp : 0 < pre.length) (h0 : 0 < bs.length) (hg : H.get j = some (.cells (.lst (pre ++ cb bs)) 5 (some l))) (hln : H.lines.get l = some (fl, tip)) : LRow H bs (.sl (some ⟨.own j, pre.length⟩) bs.length (.opn 1)) [j, l]
  | fin (pre : List AV) (j l fl tip : Nat) (hg : H.get j = some (.cells (.lst pre) 5 (some l))) (hln : H.lines.get l = some (fl, tip)) : LRow H [] (.fin ⟨.own j, pre.length⟩ 1) [j, l]
theorem LRow.lt (h : HWf H) {bs : List UInt8} {v : AV} {ids : List Nat} (r : LRow H bs v ids) : ∀ x ∈ ids, x < H.next := by
  have key : ∀ {j l : Nat} {c : Cells}, H.get j = some (.cells c 5 (some l)) → ∀ x ∈ [j, l], x < H.next := fun hg x hx => by
    simp only [List.mem_cons, List.not_mem_nil, or_false] at hx
    rcases hx with rfl | rfl
    · exact h.lt hg
    · exact h.line_lt hg
  cases r with
  | nil => intro x hx; cases hx
  | row _ j l fl h0 hg hln => exact key hg
  | cut pre _ j l fl tip hp h0 hg hln => exact key hg
  | fin pre j l fl tip hg hln => exact key hg
theorem LRow.keep {H' : Heap} (h : HWf H) {fp : List Nat} (k : Keep fp H H') {bs : List UInt8} {v : AV} {ids : List Nat} (r : LRow H bs v ids) (hd : ∀ x ∈ ids, x ∉ fp) : LRow H' bs v ids := by
  have key : ∀ {j l : Nat} {c : Cells}, H.get j = some (.cells c 5 (some l)) → (∀ x ∈ [j, l], x ∉ fp) → H'.get j = some (.cells c 5 (some l)) ∧ H'.lines.get l = H.lines.get l := fun {j l c} hg hd => by
    have h1 := hd j (by simp)
    have h2 := hd l (by simp)
    exact ⟨k.get h hg h1 (fun l' e => by cases e; exact h2), k.lines l (h.line_lt hg) h2⟩
  cases r with
  | nil => exact .nil
  | row _ j l fl h0 hg hln => obtain ⟨e1, e2⟩ := key hg hd; exact .row _ j l fl h0 e1 (e2.trans hln)
  | cut pre _ j l fl tip hp h0 hg hln => obtain ⟨e1, e2⟩ := key hg hd; exact .cut pre _ j l fl tip hp h0 e1 (e2.trans hln)
  | fin pre j l fl tip hg hln => obtain ⟨e1, e2⟩ := key hg hd; exact .fin pre j l fl tip e1 (e2.trans hln)
theorem LRow.rd {bs : List UInt8} {v : AV} {ids : List Nat} (r : LRow H bs v ids) : Rd W H bs v := by
  cases r with
  | nil => exact .nil
  | row _ j l fl h0 hg hln =>
    refine .op _ _ _ (.lst (cb bs)) (by simp only [blkOf, hg]) ?_
    have := getN_all (cb bs)
    rw [cb_len] at this; exact this
  | cut pre _ j l fl tip hp h0 hg hln =>
    refine .op _ _ _ (.lst (pre ++ cb bs)) (by simp only [blkOf, hg]) ?_
    have := getN_mid pre (cb bs) []
    rw [List.append_nil, cb_len] at this; exact this
  | fin pre j l fl tip hg hln => exact .fin _ _
theorem LRow.app (h : HWf H) {bs ps : List UInt8} {v : AV} {ids : List Nat} (r : LRow H bs v ids) (hb : bs.length + ps.length ≤ 140737488355328) :
    ∃ v' H' ids', appN W H 5 1 1 v ps.length (cb ps) = some (v', H') ∧ LRow H' (bs ++ ps) v' ids' ∧ Keep ids H H' ∧ (∀ i ∈ ids', i ∈ ids ∨ H.next ≤ i) := by
  by_cases hk : ps.length = 0
  · have hps : ps = [] := List.eq_nil_of_length_eq_zero hk
    subst hps
    refine ⟨v, H, ids, ?_, by rw [List.append_nil]; exact r, Keep.refl h _, fun i hi => .inl hi⟩
    cases r with
    | nil => rfl
    | row _ j l fl h0 hg hln => simp [appN]
    | cut pre _ j l fl tip hp h0 hg hln => simp [appN]
    | fin pre j l fl tip hg hln => rfl
  · cases r with
    | nil =>
      obtain ⟨v', H', ids', e, q, k, hi⟩ := Row.addN (W := W) (bytes := 1) (new := cb ps) h (Row.nil (H := H) (ty := 5) (es := 1)) (by omega) (k := ps.length) (by omega) (by rw [cb_len, Nat.mul_one]) (cb_one ps) (n := 0) rfl (by simp at hb; omega)
      refine ⟨v', H', ids', e, ?_, k, hi⟩
      rw [List.nil_append] at q ⊢
      generalize hcp : cb ps = cps at q
      cases q with
      | nil => cases ps with
        | nil => simp at hk
        | cons a l => cases hcp
      | mk h0 hl hg hln =>
        rename_i j l fl len
        subst hcp
        rw [cb_len, Nat.mul_one] at hl
        subst hl
        exact .row ps j l fl h0 hg hln
    | row _ j l fl h0 hg hln =>
      obtain ⟨v', H', ids', e, q, k, hi⟩ := Row.addN (W := W) (bytes := 1) (new := cb ps) h (Row.mk (es := 1) h0 (by rw [cb_len, Nat.mul_one]) hg hln) (by omega) (k := ps.length) (by omega) (by rw [cb_len, Nat.mul_one]) (cb_one ps) (n := bs.length) (by rw [cb_len, Nat.mul_one]) (by omega)
      refine ⟨v', H', ids', e, ?_, k, hi⟩
      rw [← cb_app] at q
      generalize hcp : cb (bs ++ ps) = cps at q
      cases q with
      | nil => 
        have := congrArg List.length hcp
        rw [cb_len, List.length_append, List.length_nil] at this; omega
      | mk h0 hl hg hln =>
        rename_i j l fl len
        subst hcp
        rw [cb_len, Nat.mul_one] at hl
        subst hl
        exact .row _ j l fl h0 hg hln
    | cut pre _ j l fl tip hp h0 hg hln =>
      have hfl := floor_le hg hln
      have hjlt := h.lt hg
      have hllt := h.line_lt hg
      have hget : Cells.getN (.lst (pre ++ cb bs)) pre.length bs.length = some (cb bs) := by
        have := getN_mid pre (cb bs) []
        rw [List.append_nil, cb_len] at this; exact this
      refine ⟨.sl (some ⟨.own H.next, 0⟩) (bs.length + ps.length) (.opn 1), { next := H.next + 1, objs := H.objs.set H.next (.cells (.lst (cb bs ++ cb ps)) 5 (some H.next)), lines := (H.lines.set l (H.next + 1, tip)).set H.next (H.next, H.next) }, [H.next, H.next], ?_, ?_, ?_, ?_⟩
      · simp only [appN]
        rw [if_pos ⟨trivial, by omega⟩, if_neg (by omega)]
        simp only [hg, Cells.size, List.length_append, cb_len]
        rw [if_neg (by omega), if_neg (by omega), if_pos ⟨hp, by omega, trivial⟩]
        simp only [hln, Nat.mul_one, hget]
        rw [if_pos ⟨by omega, cb_one ps⟩]
      · have := LRow.row (H := { next := H.next + 1, objs := H.objs.set H.next (.cells (.lst (cb bs ++ cb ps)) 5 (some H.next)), lines := (H.lines.set l (H.next + 1, tip)).set H.next (H.next, H.next) }) (bs ++ ps) H.next H.next H.next (by rw [List.length_append]; omega) (by rw [cb_app]; simp [Heap.get, Tr.get_set]) (by simp [Tr.get_set])
        rw [List.length_append] at this; exact this
      · refine ⟨Nat.le_succ _, fun i hi _ => ?_, fun i hi hn' => ?_, h.set (Nat.le_succ _) (Nat.lt_succ_self _) (fun l' e => by cases e; exact .inl rfl)⟩
        · simp only [Tr.get_set]; rw [if_neg (by omega)]
        · simp only [Tr.get_set]; rw [if_neg (by omega), if_neg (fun e => hn' (by simp [e]))]
      · intro i hi
        simp at hi
        exact .inr (by omega)
    | fin pre j l fl tip hg hln =>
      have hjlt := h.lt hg
      have hllt := h.line_lt hg
      refine ⟨.sl (some ⟨.own H.next, 0⟩) ps.length (.opn 1), { next := H.next + 1, objs := H.objs.set H.next (.cells (.lst (cb ps)) 5 (some H.next)), lines := (H.lines.set l (H.next + 1, tip)).set H.next (H.next, H.next) }, [H.next, H.next], ?_, ?_, ?_, ?_⟩
      · simp only [appN]
        rw [if_neg hk, if_pos ⟨trivial, by omega⟩]
        simp only [hg, Cells.size]
        rw [if_pos ⟨trivial, trivial⟩]
        simp only [hln]
        rw [if_pos ⟨by omega, cb_one ps⟩]
      · exact LRow.row (H := { next := H.next + 1, objs := H.objs.set H.next (.cells (.lst (cb ps)) 5 (some H.next)), lines := (H.lines.set l (H.next + 1, tip)).set H.next (H.next, H.next) }) ps H.next H.next H.next (by omega) (by simp [Heap.get, Tr.get_set]) (by simp [Tr.get_set])
      · refine ⟨Nat.le_succ _, fun i hi _ => ?_, fun i hi hn' => ?_, h.set (Nat.le_succ _) (Nat.lt_succ_self _) (fun l' e => by cases e; exact .inl rfl)⟩
        · simp only [Tr.get_set]; rw [if_neg (by omega)]
        · simp only [Tr.get_set]; rw [if_neg (by omega), if_neg (fun e => hn' (by simp [e]))]
      · intro i hi
        simp at hi
        exact .inr (by omega)
/-- Cut in front. -/
theorem LRow.lo {bs : List UInt8} {v : AV} {ids : List Nat} (r : LRow H bs v ids) {n : Nat} (hn : n ≤ bs.length) (h0 : 0 < n) : ∃ v', cutLo n v = some v' ∧ LRow H (bs.drop n) v' ids := by
  have hin : inI (n : Int) bs.length = some n := by unfold inI; rw [if_pos (by omega), if_pos (by simpa using hn)]; simp
  have hb2 : boundsO .e bs.length (some (.c (.int .i64 (n : Int)))) none = some (n, bs.length) := by simp [boundsO, bound, evX, hin, hn]
  have hd : (bs.drop n).length = bs.length - n := List.length_drop
  have hc : cb bs = cb (bs.take n) ++ cb (bs.drop n) := by rw [← cb_app, List.take_append_drop]
  have ht : (cb (bs.take n)).length = n := by rw [cb_len, List.length_take]; omega
  cases r with
  | nil => simp at hn; omega
  | fin pre j l fl tip hg hln => simp at hn; omega
  | row _ j l fl hx hg hln =>
    by_cases hl : n < bs.length
    · refine ⟨.sl (some ⟨.own j, 0 + n * 1⟩) (bs.length - n) (.opn 1), ?_, ?_⟩
      · simp only [cutLo, cutAV, if_true, hb2, if_neg (show ¬ n = 0 by omega), if_pos hl]
      · have := LRow.cut (cb (bs.take n)) (bs.drop n) j l fl j (by omega) (by omega) (by rw [← hc]; exact hg) hln
        rw [ht, hd] at this
        rw [Nat.zero_add, Nat.mul_one]; exact this
    · have he : n = bs.length := by omega
      subst he
      refine ⟨.fin ⟨.own j, 0 + bs.length * 1⟩ 1, ?_, ?_⟩
      · simp only [cutLo, cutAV, if_true, hb2, if_neg (show ¬ bs.length = 0 by omega), if_neg hl]
      · rw [List.drop_length]
        have := LRow.fin (cb bs) j l fl j hg hln
        rw [cb_len] at this
        rw [Nat.zero_add, Nat.mul_one]; exact this
  | cut pre _ j l fl tip hp hx hg hln =>
    by_cases hl : n < bs.length
    · refine ⟨.sl (some ⟨.own j, pre.length + n * 1⟩) (bs.length - n) (.opn 1), ?_, ?_⟩
      · simp only [cutLo, cutAV, if_true, hb2, if_neg (show ¬ n = 0 by omega), if_pos hl]
      · have := LRow.cut (pre ++ cb (bs.take n)) (bs.drop n) j l fl tip (by simp; omega) (by omega) (by rw [List.append_assoc, ← hc]; exact hg) hln
        rw [List.length_append, ht, hd] at this
        rw [Nat.mul_one]; exact this
    · have he : n = bs.length := by omega
      subst he
      refine ⟨.fin ⟨.own j, pre.length + bs.length * 1⟩ 1, ?_, ?_⟩
      · simp only [cutLo, cutAV, if_true, hb2, if_neg (show ¬ bs.length = 0 by omega), if_neg hl]
      · rw [List.drop_length]
        have := LRow.fin (pre ++ cb bs) j l fl tip hg hln
        rw [List.length_append, cb_len] at this
        rw [Nat.mul_one]; exact this
end
def HP.lrow (bs : List UInt8) (v : AV) : HP := ⟨fun H fp => LRow H bs v fp, fun hw h => h.lt hw, fun hw h k hd => h.keep hw k hd⟩
section
variable {W : World} {E : Env} {H : Heap} {Γ : List HP}
theorem RdLike.lrow (bs : List UInt8) (v : AV) : RdLike W bs v (HP.lrow bs v) := fun {H Γ} h => by
  obtain ⟨fp, f, g, a, b⟩ := h.a
  exact LRow.rd a
theorem Holds.lapp {bs ps : List UInt8} {v x : AV} (h : Holds H (HP.lrow bs v :: Γ)) (hx : srcA W H 1 false x = some (ps.length, cb ps)) (hb : bs.length + ps.length ≤ 140737488355328) :
    ∃ v' H', appA W H 5 1 1 false v x = some (v', H') ∧ Holds H' (HP.lrow (bs ++ ps) v' :: Γ) := by
  obtain ⟨fp, f, g, a, b, e, d⟩ := h.a
  obtain ⟨v', H', ids', e1, r, k', hi⟩ := LRow.app (W := W) h.wf a hb
  refine ⟨v', H', by simp only [appA, hx]; exact e1, h.step fun fp2 hp => ?_⟩
  obtain ⟨v2, H2, ids2, e2, r2, k2, hi2⟩ := LRow.app (W := W) h.wf hp hb
  rw [e1] at e2
  cases e2
  exact ⟨ids2, r2, k2, hi2⟩
theorem Fin.lapp {α : Type} {R : α → Prop} {k : AV × Heap → Option α} {bs ps : List UInt8} {v x : AV} (h : Holds H (HP.lrow bs v :: Γ)) (hx : srcA W H 1 false x = some (ps.length, cb ps)) (hb : bs.length + ps.length ≤ 140737488355328)
    (hk : ∀ v' H', Holds H' (HP.lrow (bs ++ ps) v' :: Γ) → Fin R (k (v', H'))) : Fin R (bnd (appA W H 5 1 1 false v x) k) := by
  obtain ⟨v', H', e, h'⟩ := h.lapp hx hb
  rw [e, bnd_some]
  exact hk _ _ h'
theorem Holds.lcut {bs : List UInt8} {v : AV} (h : Holds H (HP.lrow bs v :: Γ)) {n : Nat} (hn : n ≤ bs.length) (h0 : 0 < n) : ∃ v', cutLo n v = some v' ∧ Holds H (HP.lrow (bs.drop n) v' :: Γ) := by
  obtain ⟨fp, f, g, a, b, e, d⟩ := h.a
  obtain ⟨v', e1, r⟩ := LRow.lo a hn h0
  exact ⟨v', e1, h.wf, fp, f, g, r, b, e, d⟩
end
end Go.Proofs.YtjfnhdiimibmiaaDoor.Sx

/- What the sum takes in. -/
namespace Go.Proofs.YtjfnhdiimibmiaaDoor.Sx
open HP
/-- So many pieces, one after the other. -/
def foldB (ks : List (BitVec 64)) : Nat → S8 → List UInt8 → S8
  | 0, s, _ => s
  | k + 1, s, M => foldB ks k (pieceF ks s (M.take 128)) (M.drop 128)
section
variable {W : World} {E : Env} {H : Heap} {Γ : List HP}
theorem LRow.one {bs : List UInt8} {v : AV} {ids : List Nat} (r : LRow H bs v ids) : v.cells = [v] ∧ noUnk v = true ∧ oneC v = true := by
  cases r <;> exact ⟨rfl, rfl, rfl⟩
theorem Holds.lone {bs : List UInt8} {v : AV} (h : Holds H (HP.lrow bs v :: Γ)) : v.cells = [v] ∧ noUnk v = true ∧ oneC v = true := by
  obtain ⟨fp, f, g, a, b⟩ := h.a
  exact LRow.one a
theorem n8g (s : S8) : Cells.getN (.lst (wl s.l)) 0 8 = some (wl s.l) := rfl
theorem l8g (s : S8) : (wl s.l).length = 8 := rfl
theorem o8g (s : S8) : (wl s.l).all oneC = true := rfl
theorem take_loop (hE : EnvS E) {b5 b4 b3 : Nat} {ks : List (BitVec 64)} (hks : ks.length = 80) {df : List Nat} : ∀ (k : Nat) (bs : List UInt8) (v : AV) (s : S8) (A : Tm) (H : Heap), 128 * k ≤ bs.length → bs.length < 128 * k + 128 → getX A 1 = .ptr (some ⟨.own b5, 0⟩) → getX A 2 = .ptr (some ⟨.own b4, 0⟩) → getX A 3 = .ptr (some ⟨.own b3, 0⟩) → Holds H (blk b5 [v] 27 :: lrow bs v :: blk b4 (wl s.l) 94 :: blk b3 (wl ks) 92 :: Γ) →
    ∃ lv A' H', run W E (.loop lp62_0) ⟨A, df, none⟩ H = some (lv, ⟨A', df, none⟩, H') ∧ (lv = .exit 0 ∧ ∃ v', Holds H' (blk b5 [v'] 27 :: lrow (bs.drop (128 * k)) v' :: blk b4 (wl (foldB ks k s bs).l) 94 :: blk b3 (wl ks) 92 :: Γ)) := by
  have hlp : ∀ f H, run W E lp62_0 f H = run W E lp62_0 f H := fun _ _ => rfl
  conv at hlp => enter [f, H, 2]; unfold lp62_0
  intro k
  induction k with
  | zero =>
    intro bs v s A H h1 h2 a1 a2 a3 h
    have hlen := (RdLike.lrow (W := W) bs v (h.ord [1])).len
    have hlt : ¬ (128 : Int) ≤ bs.length := by omega
    have g := h.get
    rw [run_loop]
    simp only [hlp, a1, ↓g, hlen, hlt, ↓sxp, sxq, seval, evP, evX, evR, blkOf, evA, storeA, resL, resV, oneOrTup, noUnk, AV.cells, Cells.get, ↓bnd_assoc]
    exact ⟨_, _, _, rfl, rfl, v, h⟩
  | succ k ih =>
    intro bs v s A H h1 h2 a1 a2 a3 h
    have hlen := (RdLike.lrow (W := W) bs v (h.ord [1])).len
    have hlt : (128 : Int) ≤ bs.length := by omega
    have g := h.get
    have gb := (h.bump 5).get
    have gs := ((h.bump 5).ord [2]).get
    obtain ⟨p, e1, hR1⟩ := RdLike.hi (@RdLike.lrow W bs v) (h.ord [1]) (n := 128) (by omega) (by omega)
    have e1' : ∀ A : Tm, cutAV A 1 none (some (.c (.int .i64 128))) none v = some p := fun A => (cutHi_eq A 128 v).trans e1
    apply Fin.ex3
    rw [run_loop]
    have n8 := n8g s
    simp only [hlp, a1, a2, a3, ↓g, ↓gb, ↓gs, ↓n8, hlen, hlt, e1', ↓sxp, sxq, seval, evP, evX, evR, blkOf, evA, storeA, resL, resV, oneOrTup, noUnk, AV.cells, Cells.get, ↓bnd_assoc]
    refine Fin.call (c_piece hE hks (by rw [List.length_take]; omega) hR1 ((h.bump 5).ord [3, 1])) fun H2 h2 => ?_
    -- now: kinds, the list, the cell of the list, the numbers
    have h2' : Holds H2 (blk b4 (wl s.l) 94 :: blk b5 [v] 27 :: lrow bs v :: blk b3 (wl ks) 92 :: Γ) := h2.ord [3, 2, 1]
    have l8 := l8g (pieceF ks s (bs.take 128))
    simp only [l8, ↓sxp, sxq, seval, evP, evX, evR, blkOf, evA, storeA, resL, resV, oneOrTup, noUnk, AV.cells, Cells.get, ↓bnd_assoc]
    refine Fin.write (wl (pieceF ks s (bs.take 128)).l) h2' (setN_all (by rw [l8g, l8g])) (by rw [l8g, l8g]; exact Nat.le_refl _) (o8g _) fun H3 h3 => ?_
    have h4 : Holds H3 (lrow bs v :: blk b5 [v] 27 :: blk b4 (wl (pieceF ks s (bs.take 128)).l) 94 :: blk b3 (wl ks) 92 :: Γ) := h3.ord [2, 1]
    obtain ⟨q, e2, h5⟩ := h4.lcut (n := 128) (by omega) (by omega)
    have e2' : ∀ A : Tm, cutAV A 1 (some (.c (.int .i64 128))) none none v = some q := fun A => (cutLo_eq A 128 v).trans e2
    obtain ⟨u1, u2, u3⟩ := h5.lone
    have g3 := (h4.ord [1]).get
    unfold AV.cells at u1
    unfold noUnk at u2
    simp only [a1, ↓g3, e2', ↓u1, ↓u2, ↓sxp, sxq, seval, evP, evX, evR, blkOf, evA, storeA, resL, resV, oneOrTup, noUnk, AV.cells, Cells.get, ↓bnd_assoc]
    refine Fin.write [q] (h5.ord [1]) rfl (by simp) (by simp [u3]) fun H6 h6 => ?_
    exact Fin.of3 (ih (bs.drop 128) q (pieceF ks s (bs.take 128)) _ _ (by rw [List.length_drop]; omega) (by rw [List.length_drop]; omega) (by simp only [a1, ↓sxp, sxq, seval, evP, evX, evR, blkOf, evA, storeA, resL, resV, oneOrTup, noUnk, AV.cells, Cells.get, ↓bnd_assoc]) (by simp only [a2, ↓sxp, sxq, seval, evP, evX, evR, blkOf, evA, storeA, resL, resV, oneOrTup, noUnk, AV.cells, Cells.get, ↓bnd_assoc]) (by simp only [a3, ↓sxp, sxq, seval, evP, evX, evR, blkOf, evA, storeA, resL, resV, oneOrTup, noUnk, AV.cells, Cells.get, ↓bnd_assoc]) h6) fun lv A' H' ⟨r1, w, r2⟩ => ⟨r1, w, by
      rw [List.drop_drop] at r2
      rw [foldB, show 128 * (k + 1) = 128 + 128 * k from by omega]; exact r2⟩
/-- Taking bytes in. -/
theorem c_take (hE : EnvS E) {b5 b4 b3 : Nat} {ks : List (BitVec 64)} (hks : ks.length = 80) {bs ps : List UInt8} {v p : AV} {s : S8} (hp : Rd W H ps p) (hl : bs.length + ps.length < 1099511627776) (h : Holds H (blk b5 [v] 27 :: lrow bs v :: blk b4 (wl s.l) 94 :: blk b3 (wl ks) 92 :: Γ)) :
    ∃ v' H', go W E 62 [p, .ptr (some ⟨.own b5, 0⟩), .ptr (some ⟨.own b4, 0⟩), .ptr (some ⟨.own b3, 0⟩)] H = some (.tup [], H') ∧
      Holds H' (blk b5 [v'] 27 :: lrow ((bs ++ ps).drop (128 * ((bs ++ ps).length / 128))) v' :: blk b4 (wl (foldB ks ((bs ++ ps).length / 128) s (bs ++ ps)).l) 94 :: blk b3 (wl ks) 92 :: Γ) := by
  suffices hh : Fin (fun r : AV × Heap => r.1 = .tup [] ∧ ∃ v', Holds r.2 (blk b5 [v'] 27 :: lrow ((bs ++ ps).drop (128 * ((bs ++ ps).length / 128))) v' :: blk b4 (wl (foldB ks ((bs ++ ps).length / 128) s (bs ++ ps)).l) 94 :: blk b3 (wl ks) 92 :: Γ)) (go W E 62 [p, .ptr (some ⟨.own b5, 0⟩), .ptr (some ⟨.own b4, 0⟩), .ptr (some ⟨.own b3, 0⟩)] H) by
    obtain ⟨⟨r, H'⟩, e, hr, v', q⟩ := hh
    simp only at hr
    subst hr
    exact ⟨v', H', e, q⟩
  have g := h.get
  have hs := hp.src
  rw [go_code hE.f62 (by simp [sf62])]
  simp only [sf62, ↓g, ↓sxp, sxq, seval, evP, evX, evR, blkOf, evA, storeA, resL, resV, oneOrTup, noUnk, AV.cells, Cells.get, ↓bnd_assoc]
  refine Fin.lapp (h.ord [1]) hs (by omega) fun v2 H2 h2 => ?_
  obtain ⟨u1, u2, u3⟩ := h2.lone
  unfold AV.cells at u1
  unfold noUnk at u2
  simp only [↓u1, ↓u2, ↓sxp, sxq, seval, evP, evX, evR, blkOf, evA, storeA, resL, resV, oneOrTup, noUnk, AV.cells, Cells.get, ↓bnd_assoc]
  refine Fin.write [v2] (h2.ord [1]) rfl (by simp) (by simp [u3]) fun H3 h3 => ?_
  refine Fin.loop (take_loop hE hks ((bs ++ ps).length / 128) (bs ++ ps) v2 s _ _ (by omega) (by omega) (by simp only [↓sxp, sxq, seval, evP, evX, evR, blkOf, evA, storeA, resL, resV, oneOrTup, noUnk, AV.cells, Cells.get, ↓bnd_assoc]) (by simp only [↓sxp, sxq, seval, evP, evX, evR, blkOf, evA, storeA, resL, resV, oneOrTup, noUnk, AV.cells, Cells.get, ↓bnd_assoc]) (by simp only [↓sxp, sxq, seval, evP, evX, evR, blkOf, evA, storeA, resL, resV, oneOrTup, noUnk, AV.cells, Cells.get, ↓bnd_assoc]) h3) fun lv A H4 ⟨e1, w, h4⟩ => ?_
  subst e1
  simp only [↓sxp, sxq, seval, evP, evX, evR, blkOf, evA, storeA, resL, resV, oneOrTup, noUnk, AV.cells, Cells.get, ↓bnd_assoc]
  exact Fin.ret ⟨rfl, w, h4⟩
end
end Go.Proofs.YtjfnhdiimibmiaaDoor.Sx

/- Bytes of words. -/
namespace Go.Proofs.YtjfnhdiimibmiaaDoor.Sx
open HP
def byteAt (x m : Nat) : UInt8 := UInt8.ofNat (x / 256 ^ m)
/-- The lowest m bytes, the highest first. -/
def bytesN : Nat → Nat → List UInt8
  | 0, _ => []
  | m + 1, x => byteAt x m :: bytesN m x
def bytesL (ws : List (BitVec 64)) : List UInt8 := ws.flatMap fun w => bytesN 8 w.toNat
theorem bytesN_len : ∀ (m x : Nat), (bytesN m x).length = m
  | 0, _ => rfl
  | m + 1, x => by rw [bytesN, List.length_cons, bytesN_len]
theorem bytesL_len : ∀ ws : List (BitVec 64), (bytesL ws).length = 8 * ws.length
  | [] => rfl
  | w :: ws => by
    have := bytesL_len ws
    unfold bytesL at this ⊢
    rw [List.flatMap_cons, List.length_append, bytesN_len, this, List.length_cons]; omega
theorem wrap_u8' (n : Nat) : IntKind.u8.wrap (n : Int) = ((UInt8.ofNat n).toNat : Int) := by
  rw [UInt8.toNat_ofNat']
  simp [IntKind.wrap, IntKind.bits, IntKind.signed]
theorem conv_byte (x : BitVec 64) (m : Nat) : IntKind.u8.wrap (((x >>> (8 * m)).toNat : Nat) : Int) = ((byteAt x.toNat m).toNat : Int) := by
  rw [wrap_u8', BitVec.toNat_ushiftRight, Nat.shiftRight_eq_div_pow, Nat.pow_mul]; rfl
section
variable {W : World} {E : Env} {H : Heap} {Γ : List HP}
/-- A piece by which a list of words can be read. -/
def WdLike (W : World) (ws : List (BitVec 64)) (v : AV) (R : HP) : Prop := ∀ {H : Heap} {Γ : List HP}, Holds H (R :: Γ) → lenV v = some (.int .i64 ws.length) ∧ ∀ i (hi : i < ws.length), ∃ p, iaddrV 1 v (.int .i64 (i : Int)) = some p ∧ loadV W H none p = some (u64 ws[i])
theorem WdLike.blk (j : Nat) (ws : List (BitVec 64)) (t : TypeId) : WdLike W ws (.sl (some ⟨.own j, 0⟩) ws.length (.exact ws.length)) (HP.blk j (wl ws) t) := fun {H Γ} h => ⟨rfl, fun i hi => by
  refine ⟨_, by simp only [iaddrV]; rw [if_pos (by omega)], ?_⟩
  have g := h.get
  simp only [loadV, blkOf, g, Cells.get, Int.toNat_natCast, Nat.mul_one, Nat.zero_add]
  rw [wl_get hi]
  simp [List.getD_eq_getElem?_getD, List.getElem?_eq_getElem hi]⟩
theorem b64_loop1 {x : BitVec 64} {df : List Nat} : ∀ (m : Nat) (A : Tm) (H : Heap) (acc : List UInt8) (out : AV), m ≤ 8 → acc.length + m ≤ 1099511627776 → getX A 3 = out → getX A 5 = u64 x → getX A 6 = .int .i64 (8 * (m : Int) - 8) → Holds H (row 5 1 (cb acc) out :: Γ) →
    ∃ lv A' H', run W E (.loop lp65_1) ⟨A, df, none⟩ H = some (lv, ⟨A', df, none⟩, H') ∧ (lv = .exit 2 ∧ getX A' 7 = getX A 7 ∧ getX A' 8 = getX A 8 ∧ getX A' 9 = getX A 9 ∧ ∃ out', getX A' 3 = out' ∧ Holds H' (row 5 1 (cb (acc ++ bytesN m x.toNat)) out' :: Γ)) := by
  have hlp : ∀ f H, run W E lp65_1 f H = run W E lp65_1 f H := fun _ _ => rfl
  conv at hlp => enter [f, H, 2]; unfold lp65_1
  intro m
  induction m with
  | zero =>
    intro A H acc out hm hl a3 a5 a6 h
    have a6' : getX A 6 = .int .i64 (-8) := a6
    rw [run_loop]
    simp only [hlp, a6', ↓sxp, sxq, seval, evP, evX, evR, blkOf, evA, storeA, resL, resV, oneOrTup, noUnk, AV.cells, Cells.get, ↓bnd_assoc]
    exact ⟨_, _, _, rfl, rfl, by simp only [↓sxp, sxq, seval, evP, evX, evR, blkOf, evA, storeA, resL, resV, oneOrTup, noUnk, AV.cells, Cells.get, ↓bnd_assoc], by simp only [↓sxp, sxq, seval, evP, evX, evR, blkOf, evA, storeA, resL, resV, oneOrTup, noUnk, AV.cells, Cells.get, ↓bnd_assoc], by simp only [↓sxp, sxq, seval, evP, evX, evR, blkOf, evA, storeA, resL, resV, oneOrTup, noUnk, AV.cells, Cells.get, ↓bnd_assoc], out, by simp only [a3, ↓sxp, sxq, seval, evP, evX, evR, blkOf, evA, storeA, resL, resV, oneOrTup, noUnk, AV.cells, Cells.get, ↓bnd_assoc], by rw [bytesN, List.append_nil]; exact h⟩
  | succ m ih =>
    intro A H acc out hm hl a3 a5 a6 h
    have a6' : getX A 6 = .int .i64 ((8 * m : Nat) : Int) := by rw [a6]; congr 1; omega
    have h0 : (0 : Int) ≤ ((8 * m : Nat) : Int) := by omega
    have e1 : IntKind.u64.wrap ((8 * m : Nat) : Int) = ((8 * m : Nat) : Int) := by rw [wrap_u64']; omega
    have e2 : bin .shr (u64 x) (.int .u64 ((8 * m : Nat) : Int)) = some (u64 (x >>> (8 * m))) := w_shr x .u64 (8 * m)
    have e3 := conv_byte x m
    have e4 : IntKind.i64.wrap (((8 * m : Nat) : Int) - 8) = 8 * (m : Int) - 8 := by rw [w64 (by omega)]; omega
    apply Fin.ex3
    rw [run_loop]
    have h2 := h.push (c := [.int .u8 (byteAt x.toNat m).toNat]) (t := 5)
    have g2 := h2.get
    generalize (8 * m : Nat) = m8 at *
    simp only [hlp, a3, a5, a6', h0, e1, e2, e3, ↓sxp, sxq, seval, evP, evX, evR, blkOf, evA, storeA, resL, resV, oneOrTup, noUnk, AV.cells, Cells.get, ↓bnd_assoc]
    refine Fin.app (h2.ord [1]) (by omega) (by simp only [srcA, blkOf, g2, Nat.one_mul]; rfl) (by omega) (new := [.int .u8 (byteAt x.toNat m).toNat]) (n := acc.length) rfl rfl (by simp) (by omega) fun v' H3 h3 => ?_
    have h4 : Holds H3 (row 5 1 (cb (acc ++ [byteAt x.toNat m])) v' :: Γ) := by
      have := h3.rm 1
      simp only [cb, List.map_append, List.map_cons, List.map_nil]; exact this
    simp only [a6', e4, ↓sxp, sxq, seval, evP, evX, evR, blkOf, evA, storeA, resL, resV, oneOrTup, noUnk, AV.cells, Cells.get, ↓bnd_assoc]
    refine Fin.of3 (ih _ _ (acc ++ [byteAt x.toNat m]) v' (by omega) (by simp; omega) (by simp only [↓sxp, sxq, seval, evP, evX, evR, blkOf, evA, storeA, resL, resV, oneOrTup, noUnk, AV.cells, Cells.get, ↓bnd_assoc]) (by simp only [a5, ↓sxp, sxq, seval, evP, evX, evR, blkOf, evA, storeA, resL, resV, oneOrTup, noUnk, AV.cells, Cells.get, ↓bnd_assoc]) (by simp only [↓sxp, sxq, seval, evP, evX, evR, blkOf, evA, storeA, resL, resV, oneOrTup, noUnk, AV.cells, Cells.get, ↓bnd_assoc]) h4) fun lv A' H' ⟨r1, q7, q8, q9, o, r2, r3⟩ => ⟨r1, q7.trans (by simp only [↓sxp, sxq, seval, evP, evX, evR, blkOf, evA, storeA, resL, resV, oneOrTup, noUnk, AV.cells, Cells.get, ↓bnd_assoc]), q8.trans (by simp only [↓sxp, sxq, seval, evP, evX, evR, blkOf, evA, storeA, resL, resV, oneOrTup, noUnk, AV.cells, Cells.get, ↓bnd_assoc]), q9.trans (by simp only [↓sxp, sxq, seval, evP, evX, evR, blkOf, evA, storeA, resL, resV, oneOrTup, noUnk, AV.cells, Cells.get, ↓bnd_assoc]), o, r2, ?_⟩
    rw [bytesN]
    rw [List.append_assoc] at r3; exact r3
theorem b64_loop0 {R : HP} {ws : List (BitVec 64)} {v : AV} (hR : WdLike W ws v R) (hws : ws.length < 65536) {df : List Nat} : ∀ (m i : Nat) (A : Tm) (H : Heap) (acc : List UInt8) (out : AV), i + m = ws.length → acc.length = 8 * i → getX A 3 = out → getX A 7 = v → getX A 8 = .int .i64 ws.length → getX A 9 = .int .i64 i → Holds H (row 5 1 (cb acc) out :: R :: Γ) →
    ∃ lv A' H', run W E (.loop lp65_0) ⟨A, df, none⟩ H = some (lv, ⟨A', df, none⟩, H') ∧ (lv = .exit 0 ∧ ∃ out', getX A' 3 = out' ∧ Holds H' (row 5 1 (cb (acc ++ bytesL (ws.drop i))) out' :: R :: Γ)) := by
  have hlp : ∀ f H, run W E lp65_0 f H = run W E lp65_0 f H := fun _ _ => rfl
  conv at hlp => enter [f, H, 2]; unfold lp65_0
  intro m
  induction m with
  | zero =>
    intro i A H acc out him hl a3 a7 a8 a9 h
    have : i = ws.length := by omega
    subst this
    have hlt : ¬ (ws.length : Int) < ws.length := by omega
    rw [run_loop]
    simp only [hlp, a8, a9, hlt, ↓sxp, sxq, seval, evP, evX, evR, blkOf, evA, storeA, resL, resV, oneOrTup, noUnk, AV.cells, Cells.get, ↓bnd_assoc]
    exact ⟨_, _, _, rfl, rfl, out, by simp only [a3, ↓sxp, sxq, seval, evP, evX, evR, blkOf, evA, storeA, resL, resV, oneOrTup, noUnk, AV.cells, Cells.get, ↓bnd_assoc], by rw [List.drop_length]; simp only [bytesL, List.flatMap_nil, List.append_nil]; exact h⟩
  | succ m ih =>
    intro i A H acc out him hl a3 a7 a8 a9 h
    have hlt : (i : Int) < ws.length := by omega
    have hwr : IntKind.i64.wrap ((i : Int) + 1) = ((i + 1 : Nat) : Int) := by rw [w64 (by omega)]; simp
    obtain ⟨p, e1, e2⟩ := (hR (h.ord [1])).2 i (by omega)
    apply Fin.ex3
    rw [run_loop]
    simp only [hlp, a3, a7, a8, a9, hlt, e1, e2, ↓sxp, sxq, seval, evP, evX, evR, blkOf, evA, storeA, resL, resV, oneOrTup, noUnk, AV.cells, Cells.get, ↓bnd_assoc]
    refine Fin.loop (b64_loop1 (x := ws[i]) 8 _ _ acc out (by omega) (by omega) (by simp only [a3, ↓sxp, sxq, seval, evP, evX, evR, blkOf, evA, storeA, resL, resV, oneOrTup, noUnk, AV.cells, Cells.get, ↓bnd_assoc]) (by simp only [↓sxp, sxq, seval, evP, evX, evR, blkOf, evA, storeA, resL, resV, oneOrTup, noUnk, AV.cells, Cells.get, ↓bnd_assoc]) (by simp only [↓sxp, sxq, seval, evP, evX, evR, blkOf, evA, storeA, resL, resV, oneOrTup, noUnk, AV.cells, Cells.get, ↓bnd_assoc] <;> rfl) h) fun lv A1 H1 ⟨q1, q7, q8, q9, o, q3, h1⟩ => ?_
    subst q1
    simp only [a7, a8, a9, ↓sxp, sxq, seval, evP, evX, evR, blkOf, evA, storeA, resL, resV, oneOrTup, noUnk, AV.cells, Cells.get, ↓bnd_assoc] at q7 q8 q9
    simp only [q9, hwr, ↓sxp, sxq, seval, evP, evX, evR, blkOf, evA, storeA, resL, resV, oneOrTup, noUnk, AV.cells, Cells.get, ↓bnd_assoc]
    refine Fin.of3 (ih (i + 1) _ _ (acc ++ bytesN 8 ws[i].toNat) o (by omega) (by rw [List.length_append, bytesN_len]; omega) (by simp only [q3, ↓sxp, sxq, seval, evP, evX, evR, blkOf, evA, storeA, resL, resV, oneOrTup, noUnk, AV.cells, Cells.get, ↓bnd_assoc]) (by simp only [q7, ↓sxp, sxq, seval, evP, evX, evR, blkOf, evA, storeA, resL, resV, oneOrTup, noUnk, AV.cells, Cells.get, ↓bnd_assoc]) (by simp only [q8, ↓sxp, sxq, seval, evP, evX, evR, blkOf, evA, storeA, resL, resV, oneOrTup, noUnk, AV.cells, Cells.get, ↓bnd_assoc]) (by simp only [↓sxp, sxq, seval, evP, evX, evR, blkOf, evA, storeA, resL, resV, oneOrTup, noUnk, AV.cells, Cells.get, ↓bnd_assoc]) h1) fun lv A' H' ⟨r1, o, r2, r3⟩ => ⟨r1, o, r2, ?_⟩
    have e : acc ++ bytesL (ws.drop i) = acc ++ bytesN 8 ws[i].toNat ++ bytesL (ws.drop (i + 1)) := by
      rw [List.drop_eq_getElem_cons (show i < ws.length by omega), List.append_assoc]; simp only [bytesL, List.flatMap_cons]
    rw [e]; exact r3
theorem c_bytes64 (hE : EnvS E) {R : HP} {ws : List (BitVec 64)} {v : AV} (hR : WdLike W ws v R) (hws : ws.length < 65536) (h : Holds H (R :: Γ)) :
    ∃ out H', go W E 65 [v] H = some (out, H') ∧ Holds H' (row 5 1 (cb (bytesL ws)) out :: R :: Γ) := by
  have hlen := (hR h).1
  suffices hh : Fin (fun r : AV × Heap => Holds r.2 (row 5 1 (cb (bytesL ws)) r.1 :: R :: Γ)) (go W E 65 [v] H) by
    obtain ⟨⟨r, H'⟩, e, q⟩ := hh
    exact ⟨r, H', e, q⟩
  rw [go_code hE.f65 (by simp [sf65])]
  simp only [sf65, hlen, ↓sxp, sxq, seval, evP, evX, evR, blkOf, evA, storeA, resL, resV, oneOrTup, noUnk, AV.cells, Cells.get, ↓bnd_assoc]
  refine Fin.loop (b64_loop0 hR hws ws.length 0 _ _ [] (.sl none 0 (.exact 0)) (by omega) rfl (by simp only [↓sxp, sxq, seval, evP, evX, evR, blkOf, evA, storeA, resL, resV, oneOrTup, noUnk, AV.cells, Cells.get, ↓bnd_assoc]) (by simp only [↓sxp, sxq, seval, evP, evX, evR, blkOf, evA, storeA, resL, resV, oneOrTup, noUnk, AV.cells, Cells.get, ↓bnd_assoc]) (by simp only [↓sxp, sxq, seval, evP, evX, evR, blkOf, evA, storeA, resL, resV, oneOrTup, noUnk, AV.cells, Cells.get, ↓bnd_assoc]) (by simp only [↓sxp, sxq, seval, evP, evX, evR, blkOf, evA, storeA, resL, resV, oneOrTup, noUnk, AV.cells, Cells.get, ↓bnd_assoc] <;> rfl) h.row_nil) fun lv A H1 ⟨e1, out, e2, h2⟩ => ?_
  subst e1
  rw [List.nil_append, List.drop_zero] at h2
  simp only [e2, ↓sxp, sxq, seval, evP, evX, evR, blkOf, evA, storeA, resL, resV, oneOrTup, noUnk, AV.cells, Cells.get, ↓bnd_assoc]
  exact Fin.ret h2
end
end Go.Proofs.YtjfnhdiimibmiaaDoor.Sx

/- What stands behind bytes. -/
namespace Go.Proofs.YtjfnhdiimibmiaaDoor.Sx
open HP
def padF (n : Nat) : List UInt8 := 128 :: (List.replicate ((239 - n % 128) % 128 + 8) 0 ++ bytesN 8 (8 * n))
theorem padF_len (n : Nat) : (n + (padF n).length) % 128 = 0 := by
  unfold padF
  rw [List.length_cons, List.length_append, List.length_replicate, bytesN_len]; omega
section
variable {W : World} {E : Env} {H : Heap} {Γ : List HP}
theorem i_rem (a b : Nat) (hb : b ≠ 0) : bin .rem (.int .i64 (a : Int)) (.int .i64 (b : Int)) = some (.int .i64 ((a % b : Nat) : Int)) := by
  have h1 : ¬ (b : Int) = 0 := by omega
  simp only [bin, binI, if_true, if_neg h1]
  rw [← Int.ofNat_tmod]
theorem stepK_appz {A : Tm} {t b : Nat} {s n : SX} : stepK W E (run W E) A H (.e (.appz t b s n)) = appZ W H t b (evX A s) (evX A n) := (Eq.refl _).trans rfl
theorem Holds.addN {ty es bytes : Nat} {flat new : List AV} {v : AV} {k n : Nat} (h : Holds H (row ty es flat v :: Γ)) (he : 0 < es) (hk : 0 < k) (hnl : new.length = k * es) (h1 : new.all oneC = true) (hn : flat.length = n * es) (hb : (n + k) * bytes ≤ 140737488355328) :
    ∃ v' H', appN W H ty es bytes v k new = some (v', H') ∧ Holds H' (row ty es (flat ++ new) v' :: Γ) := by
  obtain ⟨fp, f, g, a, b, e, d⟩ := h.a
  obtain ⟨v', H', ids', e1, r, k', hi⟩ := Row.addN (W := W) (bytes := bytes) h.wf a he hk hnl h1 hn hb
  refine ⟨v', H', e1, h.step fun fp2 hp => ?_⟩
  obtain ⟨v2, H2, ids2, e2, r2, k2, hi2⟩ := Row.addN (W := W) (bytes := bytes) h.wf hp he hk hnl h1 hn hb
  rw [e1] at e2
  cases e2
  exact ⟨ids2, r2, k2, hi2⟩
/-- Appending to a list that is a whole block. -/
theorem Holds.xadd {j ty bytes n k : Nat} {t : TypeId} {c new : List AV} (h : Holds H (blk j c t :: Γ)) (hc : c.length = n) (hn : 0 < n) (hk : 0 < k) (hl : new.length = k) (h1 : (c ++ new).all oneC = true) (hb : (n + k) * bytes ≤ 140737488355328) :
    ∃ v' H', appN W H ty 1 bytes (.sl (some ⟨.own j, 0⟩) n (.exact n)) k new = some (v', H') ∧ Holds H' (row ty 1 (c ++ new) v' :: blk j c t :: Γ) := by
  have e0 : appN W H ty 1 bytes (.sl (some ⟨.own j, 0⟩) n (.exact n)) k new = appN W H ty 1 bytes (.sl none 0 (.exact 0)) (n + k) (c ++ new) := by
    have hg : Cells.getN (.lst c) 0 (n * 1) = some c := by
      have := getN_all c
      rw [hc] at this; rw [Nat.mul_one]; exact this
    simp only [appN, blkOf, h.get, hg]
    rw [if_neg (by omega), if_neg (by omega), if_pos ⟨trivial, trivial⟩, if_neg (by omega)]
    simp only [appNew, List.nil_append]
  rw [e0]
  have := (h.row_nil (ty := ty) (es := 1)).addN (W := W) (bytes := bytes) (k := n + k) (new := c ++ new) (n := 0) (by omega) (by omega) (by rw [List.length_append, hc, hl, Nat.mul_one]) h1 rfl (by rw [Nat.zero_add]; exact hb)
  rw [List.nil_append] at this
  exact this
theorem Holds.row_src {ty es n : Nat} {flat : List AV} {v : AV} (h : Holds H (row ty es flat v :: Γ)) (he : 0 < es) (hn : flat.length = n * es) (h0 : 0 < n) : srcA W H es false v = some (n, flat) := by
  obtain ⟨j, l, c, rfl, hg⟩ := h.row_get he hn h0
  have hgn := getN_all flat
  rw [hn] at hgn
  simp only [srcA, blkOf, hg, hgn]
theorem u64_ofNat (n : Nat) (hn : n < 18446744073709551616) : (.int .u64 (n : Int) : AV) = u64 (BitVec.ofNat 64 n) := by
  show _ = AV.int .u64 (((BitVec.ofNat 64 n).toNat : Nat) : Int)
  rw [BitVec.toNat_ofNat, Nat.mod_eq_of_lt hn]
theorem zero_cb (n : Nat) : List.replicate n (.int .u8 0) = cb (List.replicate n 0) := by
  rw [cb, List.map_replicate]; rfl
theorem c_pad (hE : EnvS E) {n : Nat} (hn : n < 65536) (h : Holds H Γ) :
    ∃ out H', go W E 64 [.int .i64 (n : Int)] H = some (out, H') ∧ Holds H' (row 5 1 (cb (padF n)) out :: Γ) := by
  suffices hh : Fin (fun r : AV × Heap => Holds r.2 (row 5 1 (cb (padF n)) r.1 :: Γ)) (go W E 64 [.int .i64 (n : Int)] H) by
    obtain ⟨⟨r, H'⟩, e, q⟩ := hh
    exact ⟨r, H', e, q⟩
  have h0 : ¬ (n : Int) < 0 := by omega
  have h1 : ¬ (1099511627776 : Int) < n := by omega
  have e1 := i_rem n 128 (by omega)
  have e2 : IntKind.i64.wrap (239 - ((n % 128 : Nat) : Int)) = ((239 - n % 128 : Nat) : Int) := by rw [w64 (by omega)]; omega
  have e3 := i_rem (239 - n % 128) 128 (by omega)
  have e4 : IntKind.i64.wrap ((((239 - n % 128) % 128 : Nat) : Int) + 8) = (((239 - n % 128) % 128 + 8 : Nat) : Int) := by rw [w64 (by omega)]; omega
  have e5 : IntKind.u64.wrap (n : Int) = (n : Int) := by rw [wrap_u64']; omega
  have e6 : bin .shl (.int .u64 (n : Int)) (.int .u64 3) = some (u64 (BitVec.ofNat 64 (8 * n))) := by
    have := w_shl (BitVec.ofNat 64 n) .u64 3
    rw [u64_ofNat n (by omega)]
    refine this.trans ?_
    congr 2
    apply BitVec.eq_of_toNat_eq
    rw [BitVec.toNat_shiftLeft, BitVec.toNat_ofNat, BitVec.toNat_ofNat, Nat.shiftLeft_eq]
    omega
  have e7 : (BitVec.ofNat 64 (8 * n)).toNat = 8 * n := by rw [BitVec.toNat_ofNat]; omega
  have hz0 : (0 : Int) ≤ (((239 - n % 128) % 128 + 8 : Nat) : Int) := by omega
  have hz1 : (((239 - n % 128) % 128 + 8 : Nat) : Int) ≤ 1099511627776 := by omega
  have hp : padF n = [128] ++ List.replicate ((239 - n % 128) % 128 + 8) 0 ++ bytesN 8 (8 * n) := rfl
  rw [hp]
  have hzz : (239 - n % 128) % 128 + 8 < 256 := by omega
  have hz8 : 0 < (239 - n % 128) % 128 + 8 := by omega
  generalize (239 - n % 128) % 128 + 8 = z at *
  generalize (239 - n % 128) % 128 = z0 at *
  have e1' : bin .rem (.int .i64 (n : Int)) (.int .i64 128) = some (.int .i64 ((n % 128 : Nat) : Int)) := e1
  have e3' : bin .rem (.int .i64 ((239 - n % 128 : Nat) : Int)) (.int .i64 128) = some (.int .i64 ((z0 : Nat) : Int)) := e3
  have h2 := h.push (c := [.int .u8 128]) (t := 5)
  rw [go_code hE.f64 (by simp [sf64])]
  simp only [sf64, h0, h1, e1', e2, e3', e4, ↓stepK_appz, ↓sxp, sxq, seval, evP, evX, evR, blkOf, evA, storeA, resL, resV, oneOrTup, noUnk, AV.cells, Cells.get, ↓bnd_assoc]
  obtain ⟨v2, H2, ea, h3⟩ := h2.xadd (W := W) (ty := 5) (bytes := 1) (n := 1) (k := z) (new := List.replicate z (.int .u8 0)) rfl (by omega) hz8 (by simp) (by rw [zero_cb]; exact cb_one (128 :: List.replicate z 0)) (by omega)
  have ea' : appZ W (H.push (.cells (.lst [.int .u8 128]) 5 none)) 5 1 (.sl (some ⟨.own H.next, 0⟩) 1 (.exact 1)) (.int .i64 (z : Int)) = some (v2, H2) := by
    simp only [appZ]
    rw [if_pos ⟨hz0, hz1⟩, Int.toNat_natCast]; exact ea
  have h3' : Holds H2 (row 5 1 (cb (128 :: List.replicate z 0)) v2 :: Γ) := by
    rw [zero_cb] at h3
    exact h3.rm 1
  have h4 := h3'.push (c := [u64 (BitVec.ofNat 64 (8 * n))]) (t := 91)
  generalize hb : BitVec.ofNat 64 (8 * n) = xb at *
  simp only [↓ea', e5, e6, ↓sxp, sxq, seval, evP, evX, evR, blkOf, evA, storeA, resL, resV, oneOrTup, noUnk, AV.cells, Cells.get, ↓bnd_assoc]
  refine Fin.call2 (B := fun v => row 5 1 (cb (bytesL [xb])) v :: blk H2.next [u64 xb] 91 :: row 5 1 (cb (128 :: List.replicate z 0)) v2 :: Γ) (c_bytes64 hE (WdLike.blk H2.next [xb] 91) (by simp) h4) fun v H5 h5 => ?_
  have eb : bytesL [xb] = bytesN 8 (8 * n) := by simp [bytesL, e7]
  rw [eb] at h5
  refine Fin.app (h5.ord [2]) (by omega) (by exact h5.row_src (by omega) (n := 8) (by rw [cb_len, bytesN_len]) (by omega)) (by omega) (by rw [cb_len, bytesN_len]) (cb_one _) (n := z + 1) (by rw [cb_len]; simp) (by omega) fun v' H6 h6 => ?_
  refine Fin.ret ?_
  have e : cb (128 :: List.replicate z 0) ++ cb (bytesN 8 (8 * n)) = cb ([128] ++ List.replicate z 0 ++ bytesN 8 (8 * n)) := (cb_app _ _).symm
  rw [e] at h6
  exact (h6.rm 1).rm 1
end
end Go.Proofs.YtjfnhdiimibmiaaDoor.Sx

/- The program's sum. -/
namespace Go.Proofs.YtjfnhdiimibmiaaDoor.Sx
open HP
theorem foldB_add (ks : List (BitVec 64)) : ∀ (a b : Nat) (s : S8) (M : List UInt8), foldB ks (a + b) s M = foldB ks b (foldB ks a s M) (M.drop (128 * a)) := by
  intro a
  induction a with
  | zero => intro b s M; rw [Nat.zero_add, foldB, Nat.mul_zero, List.drop_zero]
  | succ a ih =>
    intro b s M
    rw [show a + 1 + b = a + b + 1 from by omega, foldB, foldB, ih, List.drop_drop]
    congr 2; omega
theorem foldB_app (ks : List (BitVec 64)) : ∀ (a : Nat) (s : S8) (M N : List UInt8), 128 * a ≤ M.length → foldB ks a s (M ++ N) = foldB ks a s M := by
  intro a
  induction a with
  | zero => intro s M N h; rfl
  | succ a ih =>
    intro s M N h
    rw [foldB, foldB, List.take_append_of_le_length (by omega), List.drop_append_of_le_length (by omega), ih _ _ _ (by rw [List.length_drop]; omega)]
theorem feed_eq (ks : List (BitVec 64)) (s : S8) (M ps : List UInt8) :
    foldB ks ((M.drop (128 * (M.length / 128)) ++ ps).length / 128) (foldB ks (M.length / 128) s M) (M.drop (128 * (M.length / 128)) ++ ps) = foldB ks ((M ++ ps).length / 128) s (M ++ ps) ∧
    (M.drop (128 * (M.length / 128)) ++ ps).drop (128 * ((M.drop (128 * (M.length / 128)) ++ ps).length / 128)) = (M ++ ps).drop (128 * ((M ++ ps).length / 128)) := by
  have hB : M.drop (128 * (M.length / 128)) ++ ps = (M ++ ps).drop (128 * (M.length / 128)) := (List.drop_append_of_le_length (by omega)).symm
  have hk : (M ++ ps).length / 128 = M.length / 128 + (M.drop (128 * (M.length / 128)) ++ ps).length / 128 := by
    rw [List.length_append, List.length_append, List.length_drop]; omega
  rw [hk]
  refine ⟨?_, ?_⟩
  · rw [foldB_add, foldB_app ks (M.length / 128) s M ps (by omega), ← hB]
  · generalize (M.drop (128 * (M.length / 128)) ++ ps).length / 128 = k
    rw [hB, List.drop_drop]; congr 1; omega
def K80 : List (BitVec 64) := [4794697086780616226, 8158064640168781261, 13096744586834688815, 16840607885511220156, 4131703408338449720, 6480981068601479193, 10538285296894168987, 12329834152419229976, 15566598209576043074, 1334009975649890238, 2608012711638119052, 6128411473006802146, 8268148722764581231, 9286055187155687089, 11230858885718282805, 13951009754708518548, 16472876342353939154, 17275323862435702243, 1135362057144423861, 2597628984639134821, 3308224258029322869, 5365058923640841347, 6679025012923562964, 8573033837759648693, 10970295158949994411, 12119686244451234320, 12683024718118986047, 13788192230050041572, 14330467153632333762, 15395433587784984357, 489312712824947311, 1452737877330783856, 2861767655752347644, 3322285676063803686, 5560940570517711597, 5996557281743188959, 7280758554555802590, 8532644243296465576, 9350256976987008742, 10552545826968843579, 11727347734174303076, 12113106623233404929, 14000437183269869457, 14369950271660146224, 15101387698204529176, 15463397548674623760, 17586052441742319658, 1182934255886127544, 1847814050463011016, 2177327727835720531, 2830643537854262169, 3796741975233480872, 4115178125766777443, 5681478168544905931, 6601373596472566643, 7507060721942968483, 8399075790359081724, 8693463985226723168, 9568029438360202098, 10144078919501101548, 10430055236837252648, 11840083180663258601, 13761210420658862357, 14299343276471374635, 14566680578165727644, 15097957966210449927, 16922976911328602910, 17689382322260857208, 500013540394364858, 748580250866718886, 1242879168328830382, 1977374033974150939, 2944078676154940804, 3659926193048069267, 4368137639120453308, 4836135668995329356, 5532061633213252278, 6448918945643986474, 6902733635092675308, 7801388544844847127]
def S0 : S8 := ⟨7640891576956012808, 13503953896175478587, 4354685564936845355, 11912009170470909681, 5840696475078001361, 11170449401992604703, 2270897969802886507, 6620516959819538809⟩
theorem K80_len : K80.length = 80 := rfl
def sumF (M : List UInt8) : List UInt8 := bytesL (foldB K80 ((M ++ padF M.length).length / 128) S0 (M ++ padF M.length)).l
section
variable {W : World} {E : Env} {H : Heap} {Γ : List HP}
/-- The cells of K(0) to K(79). -/
def c80 : List AV := wl K80
theorem Fin.ev {α β : Type} {R : β → Prop} {o : Option α} {k : α → Option β} {v : α} (h : o = some v) (hk : Fin R (k v)) : Fin R (bnd o k) := by
  rw [h]; exact hk
theorem c_kinds (hE : EnvS E) (h : Holds H Γ) : ∃ H', go W E 60 [] H = some (.agg (wl K80), H') ∧ Holds H' Γ := by
  apply Ends.out
  refine (show Fin (fun r : AV × Heap => r.1 = .agg (wl K80) ∧ Holds r.2 Γ) _ from ?_)
  have h1 := h.push (c := wl (List.replicate 80 0)) (t := 92)
  rw [go_code hE.f60 (by simp [sf60])]
  simp only [sf60, ↓sxp, sxq, seval, evX, evR, blkOf, evA, storeA, resL, resV, oneOrTup, noUnk, AV.cells, Cells.get, ↓bnd_assoc]
  refine Fin.ev (v := .agg (wl K80)) (by kernel_rfl) ?_
  have l80 : (wl K80).length = 80 := rfl
  have o80 : (wl K80).all oneC = true := List.all_eq_true.2 fun x hx => by obtain ⟨y, _, rfl⟩ := List.mem_map.1 hx; rfl
  generalize hK : K80 = ks at *
  simp only [l80, ↓sxp, sxq, seval, evX, evR, blkOf, evA, storeA, resL, resV, oneOrTup, noUnk, AV.cells, Cells.get, ↓bnd_assoc]
  refine Fin.write (wl ks) h1 (setN_all (by rw [l80, List.length_map, List.length_replicate])) (by rw [l80, List.length_map, List.length_replicate]; exact Nat.le_refl _) o80 fun H2 h2 => ?_
  have g2 := h2.get
  have hgl : Cells.getN (.lst (wl ks)) 0 80 = some (wl ks) := by
    have := getN_all (wl ks)
    rw [l80] at this; exact this
  simp only [↓g2, ↓hgl, ↓sxp, sxq, seval, evX, evR, blkOf, evA, storeA, resL, resV, oneOrTup, noUnk, AV.cells, Cells.get, ↓bnd_assoc]
  exact Fin.ret ⟨rfl, h2.tail⟩
theorem c_begin (hE : EnvS E) (h : Holds H Γ) : ∃ H', go W E 61 [] H = some (.agg (wl S0.l), H') ∧ Holds H' Γ := by
  apply Ends.out
  refine (show Fin (fun r : AV × Heap => r.1 = .agg (wl S0.l) ∧ Holds r.2 Γ) _ from ?_)
  have h1 := h.push (c := z8) (t := 94)
  have hS : [AV.int IntKind.u64 7640891576956012808, AV.int IntKind.u64 13503953896175478587, AV.int IntKind.u64 4354685564936845355, AV.int IntKind.u64 11912009170470909681, AV.int IntKind.u64 5840696475078001361, AV.int IntKind.u64 11170449401992604703, AV.int IntKind.u64 2270897969802886507, AV.int IntKind.u64 6620516959819538809] = wl S0.l := by kernel_rfl
  rw [go_code hE.f61 (by simp [sf61])]
  simp only [sf61, ↓sxp, sxq, seval, evP, evX, evR, blkOf, evA, storeA, resL, resV, oneOrTup, noUnk, AV.cells, Cells.get, ↓bnd_assoc]
  rw [hS]
  refine Fin.write (wl S0.l) h1 (setN_all rfl) (by rw [l8g]; exact Nat.le_refl _) (o8g _) fun H2 h2 => ?_
  have g2 := h2.get
  have n8 := n8g S0
  generalize hK : S0.l = ks at *
  simp only [↓g2, ↓n8, ↓sxp, sxq, seval, evP, evX, evR, blkOf, evA, storeA, resL, resV, oneOrTup, noUnk, AV.cells, Cells.get, ↓bnd_assoc]
  exact Fin.ret ⟨rfl, h2.tail⟩
end
end Go.Proofs.YtjfnhdiimibmiaaDoor.Sx

/- The program's sum, whole. -/
namespace Go.Proofs.YtjfnhdiimibmiaaDoor.Sx
open HP
def z64 : List AV := cb (List.replicate 64 0)
section
variable {W : World} {E : Env} {H : Heap} {Γ : List HP}
theorem RdLike.row (bs : List UInt8) (v : AV) : RdLike W bs v (HP.row 5 1 (cb bs) v) := fun {H Γ} h => by
  by_cases h0 : bs.length = 0
  · have : bs = [] := List.eq_nil_of_length_eq_zero h0
    subst this
    obtain ⟨fp, f, g, a, b⟩ := h.a
    have a : Row H 5 1 (cb []) v f := a
    generalize hq : cb [] = q at a
    cases a with
    | nil => exact .nil
    | mk h0 hl hg hln => subst hq; simp at hl; try omega
  · obtain ⟨j, l, c, e, hg⟩ := h.row_get (by omega) (n := bs.length) (by rw [cb_len, Nat.mul_one]) (by omega)
    obtain ⟨fp, f, g, a, b⟩ := h.a
    have a : Row H 5 1 (cb bs) v f := a
    generalize hq : cb bs = q at a
    cases a with
    | nil => cases e; try omega
    | mk h0 hl hg2 hln =>
      subst hq
      rw [cb_len, Nat.mul_one] at hl
      subst hl
      have := getN_all (cb bs)
      rw [cb_len] at this
      exact .op bs _ 0 _ (by simp only [blkOf, hg2]) this
theorem bndN (A : Tm) (n : Nat) : bounds A n n none none none = some (0, n, n) := (Eq.refl _).trans rfl
/-- Bytes are copied to the front of a block. -/
theorem Holds.copy {j n : Nat} {c : List AV} {t : TypeId} {bs : List UInt8} {x : AV} (h : Holds H (blk j c t :: Γ)) (hx : Rd W H bs x) (hc : c.length = n) (h0 : 0 < bs.length) (hm : bs.length ≤ n) :
    ∃ r H', copyA W H 1 (.sl (some ⟨.own j, 0⟩) n (.exact n)) x = some (r, H') ∧ Holds H' (blk j (cb bs ++ c.drop bs.length) t :: Γ) := by
  have hmin : Nat.min bs.length n = bs.length := Nat.min_eq_left hm
  obtain ⟨hw, h'⟩ := h.writeN (off := 0) (c' := cb bs ++ c.drop bs.length) (vs := cb bs) (by
    rw [setN_lst _ _ _ (by rw [cb_len]; omega), List.take_zero, List.nil_append, cb_len, Nat.zero_add]) (by rw [cb_len]; omega) (cb_one bs)
  cases hx with
  | nil => simp at h0
  | emp => simp at h0
  | fin a e => simp at h0
  | ex bs r off k cc hb hg hk =>
    refine ⟨.int .i64 bs.length, _, ?_, h'⟩
    simp only [copyA, hmin, hb, Nat.mul_one, hg, hw]
  | op bs r off cc hb hg =>
    refine ⟨.int .i64 bs.length, _, ?_, h'⟩
    simp only [copyA, hmin, hb, Nat.mul_one, hg, hw]
theorem Fin.copy {α : Type} {P : α → Prop} {k : AV × Heap → Option α} {j n : Nat} {c : List AV} {t : TypeId} {bs : List UInt8} {x : AV} (h : Holds H (blk j c t :: Γ)) (hx : Rd W H bs x) (hc : c.length = n) (h0 : 0 < bs.length) (hm : bs.length ≤ n)
    (hk : ∀ r H', Holds H' (blk j (cb bs ++ c.drop bs.length) t :: Γ) → Fin P (k (r, H'))) : Fin P (bnd (copyA W H 1 (.sl (some ⟨.own j, 0⟩) n (.exact n)) x) k) := by
  obtain ⟨r, H', e, h'⟩ := h.copy hx hc h0 hm
  rw [e, bnd_some]
  exact hk _ _ h'
theorem Holds.lnil (h : Holds H Γ) : Holds H (lrow [] (.sl none 0 (.exact 0)) :: Γ) := by
  obtain ⟨fp, hp⟩ := h.a
  exact ⟨h.wf, fp, [], fp, .nil, hp, by simp, by simp⟩
/-- A piece by which a list of lists of bytes can be read. -/
def PsLike (W : World) (ps : List (List UInt8 × AV)) (v : AV) (R : HP) : Prop := ∀ {H : Heap} {Γ : List HP}, Holds H (R :: Γ) → lenV v = some (.int .i64 ps.length) ∧ ∀ i (hi : i < ps.length), (∃ p, iaddrV 1 v (.int .i64 (i : Int)) = some p ∧ loadV W H none p = some ps[i].2) ∧ Rd W H ps[i].1 ps[i].2
def flat (ps : List (List UInt8 × AV)) : List UInt8 := ps.flatMap (·.1)
theorem flat_take (ps : List (List UInt8 × AV)) (i : Nat) (hi : i < ps.length) : flat (ps.take (i + 1)) = flat (ps.take i) ++ ps[i].1 := by
  rw [List.take_succ_eq_append_getElem hi]
  unfold flat
  rw [List.flatMap_append]
  simp only [List.flatMap_cons, List.flatMap_nil, List.append_nil]
theorem sum_loop (hE : EnvS E) {R : HP} {ps : List (List UInt8 × AV)} {v : AV} {b5 b4 b3 : Nat} {ks : List (BitVec 64)} {s0 : S8} (hks : ks.length = 80) (hR : PsLike W ps v R) (hl : (flat ps).length < 65536) (hpl : ps.length < 65536) {df : List Nat} : ∀ (m i : Nat) (A : Tm) (H : Heap) (M : List UInt8) (u : AV), i + m = ps.length → M = flat (ps.take i) → getX A 6 = .int .i64 M.length → getX A 7 = .fn 62 [] [.ptr (some ⟨.own b5, 0⟩), .ptr (some ⟨.own b4, 0⟩), .ptr (some ⟨.own b3, 0⟩)] → getX A 14 = v → getX A 15 = .int .i64 ps.length → getX A 16 = .int .i64 i →
    Holds H (blk b5 [u] 27 :: lrow (M.drop (128 * (M.length / 128))) u :: blk b4 (wl (foldB ks (M.length / 128) s0 M).l) 94 :: blk b3 (wl ks) 92 :: R :: Γ) →
    ∃ lv A' H', run W E (.loop lp49_0) ⟨A, df, none⟩ H = some (lv, ⟨A', df, none⟩, H') ∧ (lv = .exit 0 ∧ getX A' 2 = getX A 2 ∧ getX A' 4 = getX A 4 ∧ getX A' 7 = getX A 7 ∧ getX A' 6 = .int .i64 (flat ps).length ∧ ∃ u', Holds H' (blk b5 [u'] 27 :: lrow ((flat ps).drop (128 * ((flat ps).length / 128))) u' :: blk b4 (wl (foldB ks ((flat ps).length / 128) s0 (flat ps)).l) 94 :: blk b3 (wl ks) 92 :: R :: Γ)) := by
  have hlp : ∀ f H, run W E lp49_0 f H = run W E lp49_0 f H := fun _ _ => rfl
  conv at hlp => enter [f, H, 2]; unfold lp49_0
  intro m
  induction m with
  | zero =>
    intro i A H M u him hM a6 a7 a14 a15 a16 h
    have : i = ps.length := by omega
    subst this
    rw [List.take_length] at hM
    subst hM
    have hlt : ¬ (ps.length : Int) < ps.length := by omega
    rw [run_loop]
    simp only [hlp, a15, a16, hlt, ↓sxp, sxq, seval, evP, evX, evR, blkOf, evA, storeA, resL, resV, oneOrTup, noUnk, AV.cells, Cells.get, ↓bnd_assoc]
    exact ⟨_, _, _, rfl, rfl, by simp only [↓sxp, sxq, seval, evP, evX, evR, blkOf, evA, storeA, resL, resV, oneOrTup, noUnk, AV.cells, Cells.get, ↓bnd_assoc], by simp only [↓sxp, sxq, seval, evP, evX, evR, blkOf, evA, storeA, resL, resV, oneOrTup, noUnk, AV.cells, Cells.get, ↓bnd_assoc], by simp only [↓sxp, sxq, seval, evP, evX, evR, blkOf, evA, storeA, resL, resV, oneOrTup, noUnk, AV.cells, Cells.get, ↓bnd_assoc], by simp only [a6, ↓sxp, sxq, seval, evP, evX, evR, blkOf, evA, storeA, resL, resV, oneOrTup, noUnk, AV.cells, Cells.get, ↓bnd_assoc], u, h⟩
  | succ m ih =>
    intro i A H M u him hM a6 a7 a14 a15 a16 h
    have hlt : (i : Int) < ps.length := by omega
    have hwr : IntKind.i64.wrap ((i : Int) + 1) = ((i + 1 : Nat) : Int) := by rw [w64 (by omega)]; simp
    have hM2 : flat (ps.take (i + 1)) = M ++ ps[i].1 := by rw [flat_take ps i (by omega), ← hM]
    have hlen2 : (M ++ ps[i].1).length ≤ (flat ps).length := by
      rw [← hM2]
      have : flat ps = flat (ps.take (i + 1)) ++ flat (ps.drop (i + 1)) := by
        unfold flat
        rw [← List.flatMap_append, List.take_append_drop]
      rw [this, List.length_append]; omega
    rw [List.length_append] at hlen2
    obtain ⟨⟨p, e1, e2⟩, hrd⟩ := (hR (h.ord [4])).2 i (by omega)
    have hlen := hrd.len
    have w2 : IntKind.i64.wrap ((M.length : Int) + (ps[i].1.length : Int)) = ((M ++ ps[i].1).length : Int) := by rw [List.length_append, w64 (by omega)]; simp
    have hML : (M.drop (128 * (M.length / 128))).length < 128 := by rw [List.length_drop]; omega
    obtain ⟨f1, f2⟩ := feed_eq ks s0 M ps[i].1
    apply Fin.ex3
    rw [run_loop]
    simp only [hlp, a6, a7, a14, a15, a16, hlt, e1, e2, hlen, w2, ↓stepK_v, ↓sxp, sxq, seval, evP, evX, evR, blkOf, evA, storeA, resL, resV, oneOrTup, noUnk, AV.cells, Cells.get, ↓bnd_assoc]
    refine Fin.callE (fun _ : AV => .tup []) (fun u' => blk b5 [u'] 27 :: lrow ((M ++ ps[i].1).drop (128 * ((M ++ ps[i].1).length / 128))) u' :: blk b4 (wl (foldB ks ((M ++ ps[i].1).length / 128) s0 (M ++ ps[i].1)).l) 94 :: blk b3 (wl ks) 92 :: R :: Γ) (by
      obtain ⟨u', H', e, hh⟩ := c_take hE hks hrd (by omega) h
      rw [f1, f2] at hh
      exact ⟨u', H', e, hh⟩) fun u' H2 h2 => ?_
    simp only [a16, hwr, ↓sxp, sxq, seval, evP, evX, evR, blkOf, evA, storeA, resL, resV, oneOrTup, noUnk, AV.cells, Cells.get, ↓bnd_assoc]
    exact Fin.of3 (ih (i + 1) _ _ (M ++ ps[i].1) u' (by omega) hM2.symm (by simp only [↓sxp, sxq, seval, evP, evX, evR, blkOf, evA, storeA, resL, resV, oneOrTup, noUnk, AV.cells, Cells.get, ↓bnd_assoc]) (by simp only [a7, ↓sxp, sxq, seval, evP, evX, evR, blkOf, evA, storeA, resL, resV, oneOrTup, noUnk, AV.cells, Cells.get, ↓bnd_assoc]) (by simp only [a14, ↓sxp, sxq, seval, evP, evX, evR, blkOf, evA, storeA, resL, resV, oneOrTup, noUnk, AV.cells, Cells.get, ↓bnd_assoc]) (by simp only [a15, ↓sxp, sxq, seval, evP, evX, evR, blkOf, evA, storeA, resL, resV, oneOrTup, noUnk, AV.cells, Cells.get, ↓bnd_assoc]) (by simp only [↓sxp, sxq, seval, evP, evX, evR, blkOf, evA, storeA, resL, resV, oneOrTup, noUnk, AV.cells, Cells.get, ↓bnd_assoc]) h2) fun lv A' H' ⟨q1, q2, q3, q4, q⟩ => ⟨q1, q2.trans (by simp only [↓sxp, sxq, seval, evP, evX, evR, blkOf, evA, storeA, resL, resV, oneOrTup, noUnk, AV.cells, Cells.get, ↓bnd_assoc]), q3.trans (by simp only [↓sxp, sxq, seval, evP, evX, evR, blkOf, evA, storeA, resL, resV, oneOrTup, noUnk, AV.cells, Cells.get, ↓bnd_assoc]), q4.trans (by simp only [a7, ↓sxp, sxq, seval, evP, evX, evR, blkOf, evA, storeA, resL, resV, oneOrTup, noUnk, AV.cells, Cells.get, ↓bnd_assoc]), q⟩
theorem c_sum (hE : EnvS E) {R : HP} {ps : List (List UInt8 × AV)} {v : AV} (hR : PsLike W ps v R) (hl : (flat ps).length < 60000) (hpl : ps.length < 65536) (h : Holds H (R :: Γ)) :
    ∃ H', go W E 49 [v] H = some (.agg (cb (sumF (flat ps))), H') ∧ Holds H' (R :: Γ) := by
  apply Ends.out
  refine (show Fin (fun r : AV × Heap => r.1 = .agg (cb (sumF (flat ps))) ∧ Holds r.2 (R :: Γ)) _ from ?_)
  have hlen := (hR h).1
  have h1 := h.push (c := z64) (t := 71)
  rw [go_code hE.f49 (by simp [sf49])]
  simp only [sf49, show [AV.int .u8 0, AV.int .u8 0, AV.int .u8 0, AV.int .u8 0, AV.int .u8 0, AV.int .u8 0, AV.int .u8 0, AV.int .u8 0, AV.int .u8 0, AV.int .u8 0, AV.int .u8 0, AV.int .u8 0, AV.int .u8 0, AV.int .u8 0, AV.int .u8 0, AV.int .u8 0, AV.int .u8 0, AV.int .u8 0, AV.int .u8 0, AV.int .u8 0, AV.int .u8 0, AV.int .u8 0, AV.int .u8 0, AV.int .u8 0, AV.int .u8 0, AV.int .u8 0, AV.int .u8 0, AV.int .u8 0, AV.int .u8 0, AV.int .u8 0, AV.int .u8 0, AV.int .u8 0, AV.int .u8 0, AV.int .u8 0, AV.int .u8 0, AV.int .u8 0, AV.int .u8 0, AV.int .u8 0, AV.int .u8 0, AV.int .u8 0, AV.int .u8 0, AV.int .u8 0, AV.int .u8 0, AV.int .u8 0, AV.int .u8 0, AV.int .u8 0, AV.int .u8 0, AV.int .u8 0, AV.int .u8 0, AV.int .u8 0, AV.int .u8 0, AV.int .u8 0, AV.int .u8 0, AV.int .u8 0, AV.int .u8 0, AV.int .u8 0, AV.int .u8 0, AV.int .u8 0, AV.int .u8 0, AV.int .u8 0, AV.int .u8 0, AV.int .u8 0, AV.int .u8 0, AV.int .u8 0] = z64 from rfl, hlen, ↓sxp, sxq, seval, evP, evX, evR, blkOf, evA, storeA, resL, resV, oneOrTup, noUnk, AV.cells, Cells.get, ↓bnd_assoc]
  refine Fin.call (c_kinds hE h1) fun H2 h2 => ?_
  simp only [↓sxp, sxq, seval, evP, evX, evR, blkOf, evA, storeA, resL, resV, oneOrTup, noUnk, AV.cells, Cells.get, ↓bnd_assoc]
  refine Fin.call (c_begin hE h2) fun H3 h3 => ?_
  have l80 : (wl K80).length = 80 := rfl
  have o80 : (wl K80).all oneC = true := List.all_eq_true.2 fun x hx => by obtain ⟨y, _, rfl⟩ := List.mem_map.1 hx; rfl
  have hgl : Cells.getN (.lst (wl K80)) 0 80 = some (wl K80) := by
    have := getN_all (wl K80)
    rw [l80] at this; exact this
  have hks : K80.length = 80 := rfl
  have hsum : ∀ M, sumF M = bytesL (foldB K80 ((M ++ padF M.length).length / 128) S0 (M ++ padF M.length)).l := fun _ => rfl
  rw [hsum]
  generalize K80 = ks at *
  have h4 := (h3.push (c := wl (List.replicate 80 0)) (t := 92)).push (c := z8) (t := 94)
  simp only [push_next] at h4
  have l8 := l8g S0
  simp only [l80, l8, ↓sxp, sxq, seval, evP, evX, evR, blkOf, evA, storeA, resL, resV, oneOrTup, noUnk, AV.cells, Cells.get, ↓bnd_assoc]
  generalize H.next = b2 at *
  generalize H3.next = b3 at *
  refine Fin.write (wl ks) (h4.ord [1]) (setN_all (by rw [l80, List.length_map, List.length_replicate])) (by rw [l80, List.length_map, List.length_replicate]; exact Nat.le_refl _) o80 fun H5 h5 => ?_
  refine Fin.write (wl S0.l) (h5.ord [1]) (setN_all rfl) (by rw [l8]; exact Nat.le_refl _) (o8g _) fun H6 h6 => ?_
  have h7 := h6.push (c := [.sl none 0 (.exact 0)]) (t := 27)
  generalize H6.next = b5 at *
  have h8 : Holds (H6.push (.cells (.lst [.sl none 0 (.exact 0)]) 27 none)) (blk b5 [.sl none 0 (.exact 0)] 27 :: lrow [] (.sl none 0 (.exact 0)) :: blk (b3 + 1) (wl S0.l) 94 :: blk b3 (wl ks) 92 :: R :: blk b2 z64 71 :: Γ) := by
    have := (h7.lnil).ord [1, 0, 0, 0, 1]
    exact this
  refine Fin.loop (sum_loop hE hks hR (by omega) hpl ps.length 0 _ _ [] (.sl none 0 (.exact 0)) (by omega) rfl (by simp only [↓sxp, sxq, seval, evP, evX, evR, blkOf, evA, storeA, resL, resV, oneOrTup, noUnk, AV.cells, Cells.get, ↓bnd_assoc] <;> rfl) (by simp only [↓sxp, sxq, seval, evP, evX, evR, blkOf, evA, storeA, resL, resV, oneOrTup, noUnk, AV.cells, Cells.get, ↓bnd_assoc]) (by simp only [↓sxp, sxq, seval, evP, evX, evR, blkOf, evA, storeA, resL, resV, oneOrTup, noUnk, AV.cells, Cells.get, ↓bnd_assoc]) (by simp only [↓sxp, sxq, seval, evP, evX, evR, blkOf, evA, storeA, resL, resV, oneOrTup, noUnk, AV.cells, Cells.get, ↓bnd_assoc]) (by simp only [↓sxp, sxq, seval, evP, evX, evR, blkOf, evA, storeA, resL, resV, oneOrTup, noUnk, AV.cells, Cells.get, ↓bnd_assoc] <;> rfl) h8) fun lv A H9 ⟨q1, a2, a4, a7, a6, u, h9⟩ => ?_
  subst q1
  have a2' : getX A 2 = .ptr (some ⟨.own b2, 0⟩) := a2.trans (by simp only [↓sxp, sxq, seval, evP, evX, evR, blkOf, evA, storeA, resL, resV, oneOrTup, noUnk, AV.cells, Cells.get, ↓bnd_assoc])
  have a4' : getX A 4 = .ptr (some ⟨.own (b3 + 1), 0⟩) := a4.trans (by simp only [↓sxp, sxq, seval, evP, evX, evR, blkOf, evA, storeA, resL, resV, oneOrTup, noUnk, AV.cells, Cells.get, ↓bnd_assoc])
  have a7' : getX A 7 = .fn 62 [] [.ptr (some ⟨.own b5, 0⟩), .ptr (some ⟨.own (b3 + 1), 0⟩), .ptr (some ⟨.own b3, 0⟩)] := a7.trans (by simp only [↓sxp, sxq, seval, evP, evX, evR, blkOf, evA, storeA, resL, resV, oneOrTup, noUnk, AV.cells, Cells.get, ↓bnd_assoc])
  simp only [a6, a7', ↓stepK_v, ↓sxp, sxq, seval, evP, evX, evR, blkOf, evA, storeA, resL, resV, oneOrTup, noUnk, AV.cells, Cells.get, ↓bnd_assoc]
  refine Fin.call2 (B := fun o => row 5 1 (cb (padF (flat ps).length)) o :: blk b5 [u] 27 :: lrow ((flat ps).drop (128 * ((flat ps).length / 128))) u :: blk (b3 + 1) (wl (foldB ks ((flat ps).length / 128) S0 (flat ps)).l) 94 :: blk b3 (wl ks) 92 :: R :: blk b2 z64 71 :: Γ) (c_pad hE (by omega) h9) fun o H10 h10 => ?_
  have hpl2 : (padF (flat ps).length).length ≤ 400 := by
    unfold padF
    rw [List.length_cons, List.length_append, List.length_replicate, bytesN_len]; omega
  have hdl : ((flat ps).drop (128 * ((flat ps).length / 128))).length < 128 := by rw [List.length_drop]; omega
  obtain ⟨f1, f2⟩ := feed_eq ks S0 (flat ps) (padF (flat ps).length)
  obtain ⟨u', H11, e11, h11⟩ := c_take (W := W) hE hks (RdLike.row (W := W) _ o h10) (by omega) (h10.ord [1, 1, 1, 1])
  rw [f1, f2] at h11
  have b8 := fun A => bndN A 8
  have b64 := fun A => bndN A 64
  simp only [↓e11, a2', a4', ↓b8, ↓b64, ↓stepK_copy, Nat.sub_zero, ↓sxp, sxq, seval, evP, evX, evR, blkOf, evA, storeA, resL, resV, oneOrTup, noUnk, AV.cells, Cells.get, ↓bnd_assoc]
  generalize foldB ks ((flat ps ++ padF (flat ps).length).length / 128) S0 (flat ps ++ padF (flat ps).length) = sf at *
  have h12 := (((h11.ord [2]).push (c := z64) (t := 71)).bump 4).ord [1]
  simp only [push_next] at h12
  have hwd : WdLike W sf.l (.sl (some ⟨.own (b3 + 1), 0⟩) 8 (.exact 8)) (blk (b3 + 1) (wl sf.l) 94) := WdLike.blk (b3 + 1) sf.l 94
  generalize H11.next = b10 at *
  refine Fin.call2 (c_bytes64 hE hwd (show 8 < 65536 by omega) h12) fun o2 H13 h13 => ?_
  have hbl : (bytesL sf.l).length = 64 := bytesL_len sf.l
  generalize bytesL sf.l = ob at *
  refine Fin.copy (h13.ord [2]) (RdLike.row (W := W) ob o2 h13) (by rfl) (by omega) (by omega) fun r H14 h14 => ?_
  have hcd : cb ob ++ z64.drop ob.length = cb ob := by
    rw [hbl, List.drop_of_length_le (by decide), List.append_nil]
  rw [hcd] at h14
  have g14 := h14.get
  have hg64 : Cells.getN (.lst (cb ob)) 0 64 = some (cb ob) := by
    have := getN_all (cb ob)
    rw [cb_len, hbl] at this; exact this
  have hl64 : (cb ob).length = 64 := by rw [cb_len, hbl]
  simp only [↓g14, ↓hg64, hl64, ↓sxp, sxq, seval, evP, evX, evR, blkOf, evA, storeA, resL, resV, oneOrTup, noUnk, AV.cells, Cells.get, ↓bnd_assoc]
  refine Fin.write (cb ob) (h14.ord [8]) (setN_all (by rw [hl64]; rfl)) (by rw [hl64]; exact Nat.le_refl _) (cb_one ob) fun H15 h15 => ?_
  have g15 := h15.get
  simp only [↓g15, ↓hg64, ↓sxp, sxq, seval, evP, evX, evR, blkOf, evA, storeA, resL, resV, oneOrTup, noUnk, AV.cells, Cells.get, ↓bnd_assoc]
  exact Fin.ret ⟨rfl, h15.tail.tail.tail.tail.tail.tail.tail.tail⟩
end
end Go.Proofs.YtjfnhdiimibmiaaDoor.Sx

/- The document's sum: its rounds. -/
namespace Go.Proofs.YtjfnhdiimibmiaaDoor.Sx
open HP
theorem ch_x (e f g : BitVec 64) : e &&& f ^^^ ~~~e &&& g = chF e f g := by
  unfold chF
  apply BitVec.eq_of_getLsbD_eq
  intro i hi
  simp only [BitVec.getLsbD_xor, BitVec.getLsbD_and, BitVec.getLsbD_or, BitVec.getLsbD_not, hi, decide_true, Bool.true_and]
  cases e.getLsbD i <;> cases f.getLsbD i <;> cases g.getLsbD i <;> rfl
theorem ma_x (a b c : BitVec 64) : a &&& b ^^^ a &&& c ^^^ b &&& c = maF a b c := by
  unfold maF
  apply BitVec.eq_of_getLsbD_eq
  intro i hi
  simp only [BitVec.getLsbD_xor, BitVec.getLsbD_and, BitVec.getLsbD_or]
  cases a.getLsbD i <;> cases b.getLsbD i <;> cases c.getLsbD i <;> rfl
theorem u64_not (e : BitVec 64) : IntKind.u64.wrap (18446744073709551615 - (e.toNat : Int)) = ((~~~e).toNat : Int) := by
  have := e.isLt
  rw [wrap_u64', BitVec.toNat_not]; omega
section
variable {W : World} {E : Env} {H : Heap} {Γ : List HP}
theorem dturn (hE : EnvS E) (n : Nat) (h0 : 0 < n) (h1 : n < 64) (x : BitVec 64) (H : Heap) : go W E 70 [u64 x, .int .i64 n] H = some (u64 (x.rotateRight n), { H with next := H.next + 12 }) := by
  obtain ⟨H', e, rfl⟩ := c_turn (W := W) (H := H) hE x n h0 h1
  exact e
theorem dr_loop (hE : EnvS E) {jk : Nat} {ks ws : List (BitVec 64)} {vw : AV} (hks : ks.length = 80) (hws : ws.length = 80) {df : List Nat} : ∀ (m t : Nat) (A : Tm) (H : Heap) (s : S8), t + m = 80 → getX A 3 = .sl (some ⟨.own jk, 0⟩) 80 (.exact 80) → getX A 7 = vw → getX A 11 = u64 s.a → getX A 12 = u64 s.b → getX A 13 = u64 s.c → getX A 14 = u64 s.d → getX A 15 = u64 s.e → getX A 16 = u64 s.f → getX A 17 = u64 s.g → getX A 18 = u64 s.h → getX A 19 = .int .i64 t → Holds H (row 91 1 (wl ws) vw :: blk jk (wl ks) 91 :: Γ) →
    ∃ lv A' H', run W E (.loop lp53_2) ⟨A, df, none⟩ H = some (lv, ⟨A', df, none⟩, H') ∧ (lv = .exit 4 ∧ getX A' 2 = getX A 2 ∧ getX A' 3 = getX A 3 ∧ getX A' 4 = getX A 4 ∧ getX A' 5 = getX A 5 ∧ getX A' 6 = getX A 6 ∧ ∃ s' : S8, s' = rnds ks ws m t s ∧ getX A' 11 = u64 s'.a ∧ getX A' 12 = u64 s'.b ∧ getX A' 13 = u64 s'.c ∧ getX A' 14 = u64 s'.d ∧ getX A' 15 = u64 s'.e ∧ getX A' 16 = u64 s'.f ∧ getX A' 17 = u64 s'.g ∧ getX A' 18 = u64 s'.h ∧ Holds H' (row 91 1 (wl ws) vw :: blk jk (wl ks) 91 :: Γ)) := by
  have hlp : ∀ f H, run W E lp53_2 f H = run W E lp53_2 f H := fun _ _ => rfl
  conv at hlp => enter [f, H, 2]; unfold lp53_2
  intro m
  induction m with
  | zero =>
    intro t A H s htm a3 a7 a11 a12 a13 a14 a15 a16 a17 a18 a19 h
    have : t = 80 := by omega
    subst this
    have a19' : getX A 19 = .int .i64 80 := a19
    rw [run_loop]
    simp only [hlp, a19', ↓sxp, sxq, seval, evP, evX, evR, blkOf, evA, storeA, resL, resV, oneOrTup, noUnk, AV.cells, Cells.get, ↓bnd_assoc]
    exact ⟨_, _, _, rfl, rfl, by simp only [↓sxp, sxq, seval, evP, evX, evR, blkOf, evA, storeA, resL, resV, oneOrTup, noUnk, AV.cells, Cells.get, ↓bnd_assoc], by simp only [↓sxp, sxq, seval, evP, evX, evR, blkOf, evA, storeA, resL, resV, oneOrTup, noUnk, AV.cells, Cells.get, ↓bnd_assoc], by simp only [↓sxp, sxq, seval, evP, evX, evR, blkOf, evA, storeA, resL, resV, oneOrTup, noUnk, AV.cells, Cells.get, ↓bnd_assoc], by simp only [↓sxp, sxq, seval, evP, evX, evR, blkOf, evA, storeA, resL, resV, oneOrTup, noUnk, AV.cells, Cells.get, ↓bnd_assoc], by simp only [↓sxp, sxq, seval, evP, evX, evR, blkOf, evA, storeA, resL, resV, oneOrTup, noUnk, AV.cells, Cells.get, ↓bnd_assoc], s, rfl, by simp only [a11, ↓sxp, sxq, seval, evP, evX, evR, blkOf, evA, storeA, resL, resV, oneOrTup, noUnk, AV.cells, Cells.get, ↓bnd_assoc], by simp only [a12, ↓sxp, sxq, seval, evP, evX, evR, blkOf, evA, storeA, resL, resV, oneOrTup, noUnk, AV.cells, Cells.get, ↓bnd_assoc], by simp only [a13, ↓sxp, sxq, seval, evP, evX, evR, blkOf, evA, storeA, resL, resV, oneOrTup, noUnk, AV.cells, Cells.get, ↓bnd_assoc], by simp only [a14, ↓sxp, sxq, seval, evP, evX, evR, blkOf, evA, storeA, resL, resV, oneOrTup, noUnk, AV.cells, Cells.get, ↓bnd_assoc], by simp only [a15, ↓sxp, sxq, seval, evP, evX, evR, blkOf, evA, storeA, resL, resV, oneOrTup, noUnk, AV.cells, Cells.get, ↓bnd_assoc], by simp only [a16, ↓sxp, sxq, seval, evP, evX, evR, blkOf, evA, storeA, resL, resV, oneOrTup, noUnk, AV.cells, Cells.get, ↓bnd_assoc], by simp only [a17, ↓sxp, sxq, seval, evP, evX, evR, blkOf, evA, storeA, resL, resV, oneOrTup, noUnk, AV.cells, Cells.get, ↓bnd_assoc], by simp only [a18, ↓sxp, sxq, seval, evP, evX, evR, blkOf, evA, storeA, resL, resV, oneOrTup, noUnk, AV.cells, Cells.get, ↓bnd_assoc], h⟩
  | succ m ih =>
    intro t A H s htm a3 a7 a11 a12 a13 a14 a15 a16 a17 a18 a19 h
    have hlt : (t : Int) < 80 := by omega
    have hwr : IntKind.i64.wrap ((t : Int) + 1) = ((t + 1 : Nat) : Int) := by rw [w64 (by omega)]; simp
    obtain ⟨jw, lw, cw, rfl, gw⟩ := h.row_get (by omega) (n := 80) (by rw [List.length_map, hws]) (by omega)
    have gk := (h.ord [1]).get
    have xk := wl_get (show t < ks.length by omega)
    have xw := wl_get (show t < ws.length by omega)
    have r14 := dturn (W := W) hE 14 (by omega) (by omega)
    have r18 := dturn (W := W) hE 18 (by omega) (by omega)
    have r41 := dturn (W := W) hE 41 (by omega) (by omega)
    have r28 := dturn (W := W) hE 28 (by omega) (by omega)
    have r34 := dturn (W := W) hE 34 (by omega) (by omega)
    have r39 := dturn (W := W) hE 39 (by omega) (by omega)
    have n14 : ((14 : Nat) : Int) = 14 := rfl
    have n18 : ((18 : Nat) : Int) = 18 := rfl
    have n41 : ((41 : Nat) : Int) = 41 := rfl
    have n28 : ((28 : Nat) : Int) = 28 := rfl
    have n34 : ((34 : Nat) : Int) = 34 := rfl
    have n39 : ((39 : Nat) : Int) = 39 := rfl
    rw [n14] at r14; rw [n18] at r18; rw [n41] at r41; rw [n28] at r28; rw [n34] at r34; rw [n39] at r39
    obtain ⟨sa, sb, sc, sd, se, sf, sg, sh⟩ := s
    simp only at a11 a12 a13 a14 a15 a16 a17 a18
    apply Fin.ex3
    rw [run_loop]
    simp only [hlp, a3, a7, a11, a12, a13, a14, a15, a16, a17, a18, a19, hlt, nc80, Int.natCast_nonneg, and_self, gk, gw, xk, xw, r14, r18, r41, r28, r34, r39, w_and, w_or, w_xor, u64_not, u64_addw, ch_x, ma_x, hwr, Int.toNat_natCast, ↓sxp, sxq, seval, evP, evX, evR, blkOf, evA, storeA, resL, resV, oneOrTup, noUnk, AV.cells, Cells.get, ↓bnd_assoc]
    refine Fin.of3 (ih (t + 1) _ _ (rnd ⟨sa, sb, sc, sd, se, sf, sg, sh⟩ (ks.getD t 0) (ws.getD t 0)) (by omega) (by simp only [a3, ↓sxp, sxq, seval, evP, evX, evR, blkOf, evA, storeA, resL, resV, oneOrTup, noUnk, AV.cells, Cells.get, ↓bnd_assoc]) (by simp only [a7, ↓sxp, sxq, seval, evP, evX, evR, blkOf, evA, storeA, resL, resV, oneOrTup, noUnk, AV.cells, Cells.get, ↓bnd_assoc]) (by simp only [↓sxp, sxq, seval, evP, evX, evR, blkOf, evA, storeA, resL, resV, oneOrTup, noUnk, AV.cells, Cells.get, ↓bnd_assoc]; rfl) (by simp only [a11, ↓sxp, sxq, seval, evP, evX, evR, blkOf, evA, storeA, resL, resV, oneOrTup, noUnk, AV.cells, Cells.get, ↓bnd_assoc]; rfl) (by simp only [a12, ↓sxp, sxq, seval, evP, evX, evR, blkOf, evA, storeA, resL, resV, oneOrTup, noUnk, AV.cells, Cells.get, ↓bnd_assoc]; rfl) (by simp only [a13, ↓sxp, sxq, seval, evP, evX, evR, blkOf, evA, storeA, resL, resV, oneOrTup, noUnk, AV.cells, Cells.get, ↓bnd_assoc]; rfl) (by simp only [↓sxp, sxq, seval, evP, evX, evR, blkOf, evA, storeA, resL, resV, oneOrTup, noUnk, AV.cells, Cells.get, ↓bnd_assoc]; rfl) (by simp only [a15, ↓sxp, sxq, seval, evP, evX, evR, blkOf, evA, storeA, resL, resV, oneOrTup, noUnk, AV.cells, Cells.get, ↓bnd_assoc]; rfl) (by simp only [a16, ↓sxp, sxq, seval, evP, evX, evR, blkOf, evA, storeA, resL, resV, oneOrTup, noUnk, AV.cells, Cells.get, ↓bnd_assoc]; rfl) (by simp only [a17, ↓sxp, sxq, seval, evP, evX, evR, blkOf, evA, storeA, resL, resV, oneOrTup, noUnk, AV.cells, Cells.get, ↓bnd_assoc]; rfl) (by simp only [↓sxp, sxq, seval, evP, evX, evR, blkOf, evA, storeA, resL, resV, oneOrTup, noUnk, AV.cells, Cells.get, ↓bnd_assoc]) ?_) fun lv A' H' ⟨q1, q2, q3, q4, q5, q6, s', q7, q⟩ => ⟨q1, q2.trans (by simp only [↓sxp, sxq, seval, evP, evX, evR, blkOf, evA, storeA, resL, resV, oneOrTup, noUnk, AV.cells, Cells.get, ↓bnd_assoc]), q3.trans (by simp only [a3, ↓sxp, sxq, seval, evP, evX, evR, blkOf, evA, storeA, resL, resV, oneOrTup, noUnk, AV.cells, Cells.get, ↓bnd_assoc]), q4.trans (by simp only [↓sxp, sxq, seval, evP, evX, evR, blkOf, evA, storeA, resL, resV, oneOrTup, noUnk, AV.cells, Cells.get, ↓bnd_assoc]), q5.trans (by simp only [↓sxp, sxq, seval, evP, evX, evR, blkOf, evA, storeA, resL, resV, oneOrTup, noUnk, AV.cells, Cells.get, ↓bnd_assoc]), q6.trans (by simp only [↓sxp, sxq, seval, evP, evX, evR, blkOf, evA, storeA, resL, resV, oneOrTup, noUnk, AV.cells, Cells.get, ↓bnd_assoc]), s', q7, q⟩
    exact (((((((h.bump 30).bump 12).bump 12).bump 12).bump 12).bump 12).bump 12)
end
end Go.Proofs.YtjfnhdiimibmiaaDoor.Sx

/- The document's sum: its words. -/
namespace Go.Proofs.YtjfnhdiimibmiaaDoor.Sx
open HP
theorem schF_lo : ∀ (m t : Nat) (w : List (BitVec 64)) (i : Nat), i < t → (schF m t w).getD i 0 = w.getD i 0 := by
  intro m
  induction m with
  | zero => intro t w i h; rfl
  | succ m ih =>
    intro t w i h
    rw [schF, ih _ _ _ (by omega)]
    simp only [List.getD_eq_getElem?_getD, List.getElem?_set]
    rw [if_neg (by omega)]
theorem schF_hi : ∀ (m t : Nat) (w : List (BitVec 64)) (i : Nat), 16 ≤ t → t + m ≤ w.length → t ≤ i → i < t + m → (schF m t w).getD i 0 = wNext (schF m t w) i := by
  intro m
  induction m with
  | zero => intro t w i h16 hl h1 h2; omega
  | succ m ih =>
    intro t w i h16 hl h1 h2
    rw [schF]
    by_cases he : i = t
    · subst he
      have hv : (w.set i (wNext w i)).getD i 0 = wNext w i := by
        simp only [List.getD_eq_getElem?_getD, List.getElem?_set]
        rw [if_pos trivial, if_pos (by omega)]; rfl
      have e : ∀ x, wNext (schF m (i + 1) (w.set i x)) i = wNext w i := fun x => by
        have hs : ∀ k, k < i → (schF m (i + 1) (w.set i x)).getD k 0 = w.getD k 0 := fun k hk => by
          rw [schF_lo _ _ _ _ (by omega)]
          simp only [List.getD_eq_getElem?_getD, List.getElem?_set]
          rw [if_neg (by omega)]
        unfold wNext
        rw [hs (i - 16) (by omega), hs (i - 15) (by omega), hs (i - 7) (by omega), hs (i - 2) (by omega)]
      rw [schF_lo _ _ _ i (by omega), hv, e]
    · exact ih (t + 1) _ i (by omega) (by simp; omega) (by omega) (by omega)
theorem wds_get : ∀ (k : Nat) (bs : List UInt8) (i : Nat), i < k → (wds k bs).getD i 0 = wd ((bs.drop (8 * i)).take 8) := by
  intro k
  induction k with
  | zero => intro bs i h; omega
  | succ k ih =>
    intro bs i h
    cases i with
    | zero => rw [wds]; rfl
    | succ i =>
      rw [wds, List.getD_cons_succ, ih _ _ (by omega), List.drop_drop]
      congr 3; omega
theorem schedF_lo (p : List UInt8) (t : Nat) (h : t < 16) : (schedF p).getD t 0 = wd ((p.drop (8 * t)).take 8) := by
  unfold schedF
  rw [schF_lo _ _ _ _ h]
  simp only [List.getD_eq_getElem?_getD]
  rw [List.getElem?_append_left (by rw [wds_len]; exact h)]
  have := wds_get 16 p t h
  simp only [List.getD_eq_getElem?_getD] at this; exact this
theorem schedF_hi (p : List UInt8) (t : Nat) (h : 16 ≤ t) (h2 : t < 80) : (schedF p).getD t 0 = wNext (schedF p) t := by
  unfold schedF
  exact schF_hi 64 16 _ t (by omega) (by rw [List.length_append, wds_len]; simp) h (by omega)
theorem take_succ_getD (l : List (BitVec 64)) (t : Nat) (h : t < l.length) : l.take (t + 1) = l.take t ++ [l.getD t 0] := by
  rw [List.take_succ_eq_append_getElem h, List.getD_eq_getElem?_getD, List.getElem?_eq_getElem h]; rfl
theorem getD_take (l : List (BitVec 64)) (t i : Nat) (h : i < t) : (l.take t).getD i 0 = l.getD i 0 := by
  simp only [List.getD_eq_getElem?_getD]
  rw [List.getElem?_take_of_lt h]
section
variable {W : World} {E : Env} {H : Heap} {Γ : List HP}
def cutMid (a b v : AV) : Option AV := cutAV .e 1 (some (.c a)) (some (.c b)) none v
theorem cut_tt (A : Tm) (i j : Nat) (v : AV) : cutAV A 1 (some (.tmp i)) (some (.tmp j)) none v = cutMid (getX A i) (getX A j) v := by
  cases v <;> rfl
theorem Rd.mid {bs : List UInt8} {v : AV} (h : Rd W H bs v) {a b : Nat} (hab : a < b) (hb : b ≤ bs.length) : ∃ v', cutMid (.int .i64 (a : Int)) (.int .i64 (b : Int)) v = some v' ∧ Rd W H ((bs.drop a).take (b - a)) v' := by
  have hin : ∀ n k : Nat, n ≤ k → inI (n : Int) k = some n := fun n k hk => by unfold inI; rw [if_pos (by omega), if_pos (by simpa using hk)]; simp
  have hl : ((bs.drop a).take (b - a)).length = b - a := by rw [List.length_take, List.length_drop]; omega
  cases h with
  | nil => simp at hb; omega
  | emp => simp at hb; omega
  | fin _ _ => simp at hb; omega
  | ex bs r off k c hb' hg hk =>
    have hb2 : bounds .e bs.length k (some (.c (.int .i64 (a : Int)))) (some (.c (.int .i64 (b : Int)))) none = some (a, b, k) := by simp [bounds, bound, evX, hin b k (by omega), hin a b (by omega)]
    refine ⟨.sl (some ⟨r, off + a * 1⟩) (b - a) (.exact (k - a)), ?_, ?_⟩
    · simp only [cutMid, cutAV, hb2, if_neg (show ¬ k = a by omega), Option.map_some]
    · have hs := getN_sub a (b - a) hg (by omega)
      rw [cb_sub] at hs
      have := Rd.ex (W := W) (H := H) ((bs.drop a).take (b - a)) r (off + a * 1) (k - a) c hb' (by rw [hl, Nat.mul_one]; exact hs) (by omega)
      rw [hl] at this; exact this
  | op bs r off c hb' hg =>
    have hb2 : boundsO .e bs.length (some (.c (.int .i64 (a : Int)))) (some (.c (.int .i64 (b : Int)))) = some (a, b) := by simp [boundsO, bound, evX, hin b _ hb, hin a b (by omega)]
    by_cases h0 : a = 0
    · subst h0
      refine ⟨.sl (some ⟨r, off⟩) b (.opn 1), by simp only [cutMid, cutAV, if_true, hb2], ?_⟩
      have hs := getN_sub 0 b hg (by omega)
      rw [cb_sub] at hs
      have := Rd.op (W := W) (H := H) ((bs.drop 0).take (b - 0)) r off c hb' (by rw [hl, Nat.sub_zero]; simpa using hs)
      rw [hl, Nat.sub_zero] at this; exact this
    · refine ⟨.sl (some ⟨r, off + a * 1⟩) (b - a) (.opn 1), by simp only [cutMid, cutAV, if_true, hb2, if_neg h0, if_pos (show a < bs.length by omega)], ?_⟩
      have hs := getN_sub a (b - a) hg (by omega)
      rw [cb_sub] at hs
      have := Rd.op (W := W) (H := H) ((bs.drop a).take (b - a)) r (off + a * 1) c hb' (by rw [hl, Nat.mul_one]; exact hs)
      rw [hl] at this; exact this
theorem dshift (hE : EnvS E) (n : Nat) (h1 : n < 64) (x : BitVec 64) (H : Heap) : go W E 71 [u64 x, .int .i64 n] H = some (u64 (x >>> n), H) := c_shift hE x n (by omega)
theorem dw_loop (hE : EnvS E) {R : HP} {M : List UInt8} {vm : AV} (hR : RdLike W M vm R) {at_ : Nat} (hat : at_ + 128 ≤ M.length) (hM : M.length < 65536) {S : List (BitVec 64)} (hsl : S.length = 80) (hlo : ∀ t, t < 16 → S.getD t 0 = wd ((M.drop (at_ + 8 * t)).take 8)) (hhi : ∀ t, 16 ≤ t → t < 80 → S.getD t 0 = wNext S t) {df : List Nat} : ∀ (m t : Nat) (A : Tm) (H : Heap) (vw : AV), t + m = 80 → getX A 4 = vm → getX A 6 = .int .i64 at_ → getX A 7 = vw → getX A 8 = .int .i64 t → Holds H (row 91 1 (wl (S.take t)) vw :: R :: Γ) →
    ∃ lv A' H', run W E (.loop lp53_1) ⟨A, df, none⟩ H = some (lv, ⟨A', df, none⟩, H') ∧ (lv = .exit 2 ∧ getX A' 2 = getX A 2 ∧ getX A' 3 = getX A 3 ∧ getX A' 4 = getX A 4 ∧ getX A' 5 = getX A 5 ∧ getX A' 6 = getX A 6 ∧ ∃ vw', getX A' 7 = vw' ∧ Holds H' (row 91 1 (wl S) vw' :: R :: Γ)) := by
  have hlp : ∀ f H, run W E lp53_1 f H = run W E lp53_1 f H := fun _ _ => rfl
  conv at hlp => enter [f, H, 2]; unfold lp53_1
  intro m
  induction m with
  | zero =>
    intro t A H vw htm a4 a6 a7 a8 h
    have : t = 80 := by omega
    subst this
    have a8' : getX A 8 = .int .i64 80 := a8
    rw [run_loop]
    simp only [hlp, a8', ↓sxp, sxq, ↓reduceIte, Nat.reduceBEq, Nat.reduceLT, evP, evX, evR, blkOf, evA, storeA, Nat.reduceEqDiff, resL, resV, oneOrTup, Int.reduceEq, Int.reduceLT, Int.reduceLE, Int.reduceNeg, Int.reduceAdd, Int.reduceSub, Int.reduceMul, Int.reduceToNat, Nat.reduceAdd, noUnk, AV.cells, reduceCtorEq, Nat.reduceLeDiff, Cells.get, Nat.reduceMul, ↓bnd_assoc]
    rw [List.take_of_length_le (by omega)] at h
    exact ⟨_, _, _, rfl, rfl, by simp only [↓sxp, sxq, ↓reduceIte, Nat.reduceBEq, Nat.reduceLT, evP, evX, evR, blkOf, evA, storeA, Nat.reduceEqDiff, resL, resV, oneOrTup, Int.reduceEq, Int.reduceLT, Int.reduceLE, Int.reduceNeg, Int.reduceAdd, Int.reduceSub, Int.reduceMul, Int.reduceToNat, Nat.reduceAdd, noUnk, AV.cells, reduceCtorEq, Nat.reduceLeDiff, Cells.get, Nat.reduceMul, ↓bnd_assoc], by simp only [↓sxp, sxq, ↓reduceIte, Nat.reduceBEq, Nat.reduceLT, evP, evX, evR, blkOf, evA, storeA, Nat.reduceEqDiff, resL, resV, oneOrTup, Int.reduceEq, Int.reduceLT, Int.reduceLE, Int.reduceNeg, Int.reduceAdd, Int.reduceSub, Int.reduceMul, Int.reduceToNat, Nat.reduceAdd, noUnk, AV.cells, reduceCtorEq, Nat.reduceLeDiff, Cells.get, Nat.reduceMul, ↓bnd_assoc], by simp only [↓sxp, sxq, ↓reduceIte, Nat.reduceBEq, Nat.reduceLT, evP, evX, evR, blkOf, evA, storeA, Nat.reduceEqDiff, resL, resV, oneOrTup, Int.reduceEq, Int.reduceLT, Int.reduceLE, Int.reduceNeg, Int.reduceAdd, Int.reduceSub, Int.reduceMul, Int.reduceToNat, Nat.reduceAdd, noUnk, AV.cells, reduceCtorEq, Nat.reduceLeDiff, Cells.get, Nat.reduceMul, ↓bnd_assoc], by simp only [↓sxp, sxq, ↓reduceIte, Nat.reduceBEq, Nat.reduceLT, evP, evX, evR, blkOf, evA, storeA, Nat.reduceEqDiff, resL, resV, oneOrTup, Int.reduceEq, Int.reduceLT, Int.reduceLE, Int.reduceNeg, Int.reduceAdd, Int.reduceSub, Int.reduceMul, Int.reduceToNat, Nat.reduceAdd, noUnk, AV.cells, reduceCtorEq, Nat.reduceLeDiff, Cells.get, Nat.reduceMul, ↓bnd_assoc], by simp only [↓sxp, sxq, ↓reduceIte, Nat.reduceBEq, Nat.reduceLT, evP, evX, evR, blkOf, evA, storeA, Nat.reduceEqDiff, resL, resV, oneOrTup, Int.reduceEq, Int.reduceLT, Int.reduceLE, Int.reduceNeg, Int.reduceAdd, Int.reduceSub, Int.reduceMul, Int.reduceToNat, Nat.reduceAdd, noUnk, AV.cells, reduceCtorEq, Nat.reduceLeDiff, Cells.get, Nat.reduceMul, ↓bnd_assoc], vw, by simp only [a7, ↓sxp, sxq, ↓reduceIte, Nat.reduceBEq, Nat.reduceLT, evP, evX, evR, blkOf, evA, storeA, Nat.reduceEqDiff, resL, resV, oneOrTup, Int.reduceEq, Int.reduceLT, Int.reduceLE, Int.reduceNeg, Int.reduceAdd, Int.reduceSub, Int.reduceMul, Int.reduceToNat, Nat.reduceAdd, noUnk, AV.cells, reduceCtorEq, Nat.reduceLeDiff, Cells.get, Nat.reduceMul, ↓bnd_assoc], h⟩
  | succ m ih =>
    intro t A H vw htm a4 a6 a7 a8 h
    have hlt : (t : Int) < 80 := by omega
    have hwr : IntKind.i64.wrap ((t : Int) + 1) = ((t + 1 : Nat) : Int) := by rw [w64 (by omega)]; simp
    by_cases h16 : t < 16
    · have hl16 : (t : Int) < 16 := by omega
      have m1 : IntKind.i64.wrap (8 * (t : Int)) = ((8 * t : Nat) : Int) := by rw [w64 (by omega)]; omega
      have m2 : IntKind.i64.wrap ((at_ : Int) + ((8 * t : Nat) : Int)) = ((at_ + 8 * t : Nat) : Int) := by rw [w64 (by omega)]; omega
      have m3 : IntKind.i64.wrap (((at_ + 8 * t : Nat) : Int) + 8) = ((at_ + 8 * t + 8 : Nat) : Int) := by rw [w64 (by omega)]; omega
      have hrd := hR (h.ord [1])
      obtain ⟨q, e1, hq⟩ := hrd.mid (a := at_ + 8 * t) (b := at_ + 8 * t + 8) (by omega) (by omega)
      have hlq : ((M.drop (at_ + 8 * t)).take (at_ + 8 * t + 8 - (at_ + 8 * t))).length = 8 := by rw [List.length_take, List.length_drop]; omega
      have e2 := c_wide (E := E) hE hq (by omega)
      have hval : S.getD t 0 = wd ((M.drop (at_ + 8 * t)).take (at_ + 8 * t + 8 - (at_ + 8 * t))) := by
        rw [hlo t h16]
        congr 2
        omega
      rw [← hval] at e2
      have h2 := h.push (c := [u64 (S.getD t 0)]) (t := 91)
      have g2 := h2.get
      apply Fin.ex3
      rw [run_loop]
      simp only [hlp, a4, a6, a7, a8, hlt, hl16, m1, m2, m3, ↓cut_tt, e1, e2, ↓sxp, sxq, ↓reduceIte, Nat.reduceBEq, Nat.reduceLT, evP, evX, evR, blkOf, evA, storeA, Nat.reduceEqDiff, resL, resV, oneOrTup, Int.reduceEq, Int.reduceLT, Int.reduceLE, Int.reduceNeg, Int.reduceAdd, Int.reduceSub, Int.reduceMul, Int.reduceToNat, Nat.reduceAdd, noUnk, AV.cells, reduceCtorEq, Nat.reduceLeDiff, Cells.get, Nat.reduceMul, ↓bnd_assoc]
      refine Fin.app (h2.ord [1]) (by omega) (by simp only [srcA, blkOf, g2, Nat.one_mul]; rfl) (by omega) (new := [u64 (S.getD t 0)]) (n := t) rfl rfl (by rw [List.length_map, List.length_take]; omega) (by omega) fun v' H3 h3 => ?_
      have h4 : Holds H3 (row 91 1 (wl (S.take (t + 1))) v' :: R :: Γ) := by
        have := h3.rm 1
        rw [take_succ_getD _ _ (by omega)]
        simp only [wl, List.map_append, List.map_cons, List.map_nil]; exact this
      simp only [a8, hwr, ↓sxp, sxq, ↓reduceIte, Nat.reduceBEq, Nat.reduceLT, evP, evX, evR, blkOf, evA, storeA, Nat.reduceEqDiff, resL, resV, oneOrTup, Int.reduceEq, Int.reduceLT, Int.reduceLE, Int.reduceNeg, Int.reduceAdd, Int.reduceSub, Int.reduceMul, Int.reduceToNat, Nat.reduceAdd, noUnk, AV.cells, reduceCtorEq, Nat.reduceLeDiff, Cells.get, Nat.reduceMul, ↓bnd_assoc]
      exact Fin.of3 (ih (t + 1) _ _ v' (by omega) (by simp only [a4, ↓sxp, sxq, ↓reduceIte, Nat.reduceBEq, Nat.reduceLT, evP, evX, evR, blkOf, evA, storeA, Nat.reduceEqDiff, resL, resV, oneOrTup, Int.reduceEq, Int.reduceLT, Int.reduceLE, Int.reduceNeg, Int.reduceAdd, Int.reduceSub, Int.reduceMul, Int.reduceToNat, Nat.reduceAdd, noUnk, AV.cells, reduceCtorEq, Nat.reduceLeDiff, Cells.get, Nat.reduceMul, ↓bnd_assoc]) (by simp only [a6, ↓sxp, sxq, ↓reduceIte, Nat.reduceBEq, Nat.reduceLT, evP, evX, evR, blkOf, evA, storeA, Nat.reduceEqDiff, resL, resV, oneOrTup, Int.reduceEq, Int.reduceLT, Int.reduceLE, Int.reduceNeg, Int.reduceAdd, Int.reduceSub, Int.reduceMul, Int.reduceToNat, Nat.reduceAdd, noUnk, AV.cells, reduceCtorEq, Nat.reduceLeDiff, Cells.get, Nat.reduceMul, ↓bnd_assoc]) (by simp only [↓sxp, sxq, ↓reduceIte, Nat.reduceBEq, Nat.reduceLT, evP, evX, evR, blkOf, evA, storeA, Nat.reduceEqDiff, resL, resV, oneOrTup, Int.reduceEq, Int.reduceLT, Int.reduceLE, Int.reduceNeg, Int.reduceAdd, Int.reduceSub, Int.reduceMul, Int.reduceToNat, Nat.reduceAdd, noUnk, AV.cells, reduceCtorEq, Nat.reduceLeDiff, Cells.get, Nat.reduceMul, ↓bnd_assoc]) (by simp only [↓sxp, sxq, ↓reduceIte, Nat.reduceBEq, Nat.reduceLT, evP, evX, evR, blkOf, evA, storeA, Nat.reduceEqDiff, resL, resV, oneOrTup, Int.reduceEq, Int.reduceLT, Int.reduceLE, Int.reduceNeg, Int.reduceAdd, Int.reduceSub, Int.reduceMul, Int.reduceToNat, Nat.reduceAdd, noUnk, AV.cells, reduceCtorEq, Nat.reduceLeDiff, Cells.get, Nat.reduceMul, ↓bnd_assoc]) h4) fun lv A' H' ⟨q1, q2, q3, q4, q5, q6, q⟩ => ⟨q1, q2.trans (by simp only [↓sxp, sxq, ↓reduceIte, Nat.reduceBEq, Nat.reduceLT, evP, evX, evR, blkOf, evA, storeA, Nat.reduceEqDiff, resL, resV, oneOrTup, Int.reduceEq, Int.reduceLT, Int.reduceLE, Int.reduceNeg, Int.reduceAdd, Int.reduceSub, Int.reduceMul, Int.reduceToNat, Nat.reduceAdd, noUnk, AV.cells, reduceCtorEq, Nat.reduceLeDiff, Cells.get, Nat.reduceMul, ↓bnd_assoc]), q3.trans (by simp only [↓sxp, sxq, ↓reduceIte, Nat.reduceBEq, Nat.reduceLT, evP, evX, evR, blkOf, evA, storeA, Nat.reduceEqDiff, resL, resV, oneOrTup, Int.reduceEq, Int.reduceLT, Int.reduceLE, Int.reduceNeg, Int.reduceAdd, Int.reduceSub, Int.reduceMul, Int.reduceToNat, Nat.reduceAdd, noUnk, AV.cells, reduceCtorEq, Nat.reduceLeDiff, Cells.get, Nat.reduceMul, ↓bnd_assoc]), q4.trans (by simp only [a4, ↓sxp, sxq, ↓reduceIte, Nat.reduceBEq, Nat.reduceLT, evP, evX, evR, blkOf, evA, storeA, Nat.reduceEqDiff, resL, resV, oneOrTup, Int.reduceEq, Int.reduceLT, Int.reduceLE, Int.reduceNeg, Int.reduceAdd, Int.reduceSub, Int.reduceMul, Int.reduceToNat, Nat.reduceAdd, noUnk, AV.cells, reduceCtorEq, Nat.reduceLeDiff, Cells.get, Nat.reduceMul, ↓bnd_assoc]), q5.trans (by simp only [↓sxp, sxq, ↓reduceIte, Nat.reduceBEq, Nat.reduceLT, evP, evX, evR, blkOf, evA, storeA, Nat.reduceEqDiff, resL, resV, oneOrTup, Int.reduceEq, Int.reduceLT, Int.reduceLE, Int.reduceNeg, Int.reduceAdd, Int.reduceSub, Int.reduceMul, Int.reduceToNat, Nat.reduceAdd, noUnk, AV.cells, reduceCtorEq, Nat.reduceLeDiff, Cells.get, Nat.reduceMul, ↓bnd_assoc]), q6.trans (by simp only [a6, ↓sxp, sxq, ↓reduceIte, Nat.reduceBEq, Nat.reduceLT, evP, evX, evR, blkOf, evA, storeA, Nat.reduceEqDiff, resL, resV, oneOrTup, Int.reduceEq, Int.reduceLT, Int.reduceLE, Int.reduceNeg, Int.reduceAdd, Int.reduceSub, Int.reduceMul, Int.reduceToNat, Nat.reduceAdd, noUnk, AV.cells, reduceCtorEq, Nat.reduceLeDiff, Cells.get, Nat.reduceMul, ↓bnd_assoc]), q⟩
    · have hl16 : ¬ (t : Int) < 16 := by omega
      have hlen : (wl (S.take t)).length = t * 1 := by rw [List.length_map, List.length_take]; omega
      have hlen' : (S.take t).length = t := by rw [List.length_take]; omega
      obtain ⟨jw, lw, cw, rfl, gw⟩ := h.row_get (by omega) (n := t) hlen (by omega)
      have s15 : IntKind.i64.wrap ((t : Int) - 15) = ((t - 15 : Nat) : Int) := by rw [w64 (by omega)]; omega
      have s16 : IntKind.i64.wrap ((t : Int) - 16) = ((t - 16 : Nat) : Int) := by rw [w64 (by omega)]; omega
      have s7 : IntKind.i64.wrap ((t : Int) - 7) = ((t - 7 : Nat) : Int) := by rw [w64 (by omega)]; omega
      have s2 : IntKind.i64.wrap ((t : Int) - 2) = ((t - 2 : Nat) : Int) := by rw [w64 (by omega)]; omega
      have i15 : ((t - 15 : Nat) : Int) < (t : Int) := by omega
      have i16 : ((t - 16 : Nat) : Int) < (t : Int) := by omega
      have i7 : ((t - 7 : Nat) : Int) < (t : Int) := by omega
      have i2 : ((t - 2 : Nat) : Int) < (t : Int) := by omega
      have x15 := wl_get (show t - 15 < (S.take t).length by omega)
      have x16 := wl_get (show t - 16 < (S.take t).length by omega)
      have x7 := wl_get (show t - 7 < (S.take t).length by omega)
      have x2 := wl_get (show t - 2 < (S.take t).length by omega)
      rw [getD_take _ _ _ (by omega)] at x15 x16 x7 x2
      have hval := hhi t (by omega) (by omega)
      unfold wNext sg0 sg1 at hval
      have r1 := dturn (W := W) hE 1 (by omega) (by omega)
      have r8 := dturn (W := W) hE 8 (by omega) (by omega)
      have r19 := dturn (W := W) hE 19 (by omega) (by omega)
      have r61 := dturn (W := W) hE 61 (by omega) (by omega)
      have v7 := dshift (W := W) hE 7 (by omega)
      have v6 := dshift (W := W) hE 6 (by omega)
      have n1 : ((1 : Nat) : Int) = 1 := rfl
      have n8 : ((8 : Nat) : Int) = 8 := rfl
      have n19 : ((19 : Nat) : Int) = 19 := rfl
      have n61 : ((61 : Nat) : Int) = 61 := rfl
      have n7 : ((7 : Nat) : Int) = 7 := rfl
      have n6 : ((6 : Nat) : Int) = 6 := rfl
      rw [n1] at r1; rw [n8] at r8; rw [n19] at r19; rw [n61] at r61; rw [n7] at v7; rw [n6] at v6
      apply Fin.ex3
      rw [run_loop]
      simp only [hlp, a4, a6, a7, a8, hlt, hl16, s15, s16, s7, s2, i15, i16, i7, i2, Int.natCast_nonneg, and_self, gw, x15, x16, x7, x2, r1, r8, r19, r61, v7, v6, w_xor, u64_addw, Int.toNat_natCast, ↓sxp, sxq, ↓reduceIte, Nat.reduceBEq, Nat.reduceLT, evP, evX, evR, blkOf, evA, storeA, Nat.reduceEqDiff, resL, resV, oneOrTup, Int.reduceEq, Int.reduceLT, Int.reduceLE, Int.reduceNeg, Int.reduceAdd, Int.reduceSub, Int.reduceMul, Int.reduceToNat, Nat.reduceAdd, noUnk, AV.cells, reduceCtorEq, Nat.reduceLeDiff, Cells.get, Nat.reduceMul, ↓bnd_assoc]
      rw [← hval]
      have h2 := (((((h.bump1 33 30).bump 12).bump 12).bump 12).bump 12).lay (c := [u64 (S.getD t 0)]) (t := 91)
      have g2 := h2.get
      refine Fin.app (h2.ord [1]) (by omega) (by simp only [srcA, blkOf, g2, Nat.one_mul]; rfl) (by omega) (new := [u64 (S.getD t 0)]) (n := t) rfl rfl hlen (by omega) fun v' H3 h3 => ?_
      have h4 : Holds H3 (row 91 1 (wl (S.take (t + 1))) v' :: R :: Γ) := by
        have := h3.rm 1
        rw [take_succ_getD _ _ (by omega)]
        simp only [wl, List.map_append, List.map_cons, List.map_nil]; exact this
      simp only [a8, hwr, ↓sxp, sxq, ↓reduceIte, Nat.reduceBEq, Nat.reduceLT, evP, evX, evR, blkOf, evA, storeA, Nat.reduceEqDiff, resL, resV, oneOrTup, Int.reduceEq, Int.reduceLT, Int.reduceLE, Int.reduceNeg, Int.reduceAdd, Int.reduceSub, Int.reduceMul, Int.reduceToNat, Nat.reduceAdd, noUnk, AV.cells, reduceCtorEq, Nat.reduceLeDiff, Cells.get, Nat.reduceMul, ↓bnd_assoc]
      exact Fin.of3 (ih (t + 1) _ _ v' (by omega) (by simp only [a4, ↓sxp, sxq, ↓reduceIte, Nat.reduceBEq, Nat.reduceLT, evP, evX, evR, blkOf, evA, storeA, Nat.reduceEqDiff, resL, resV, oneOrTup, Int.reduceEq, Int.reduceLT, Int.reduceLE, Int.reduceNeg, Int.reduceAdd, Int.reduceSub, Int.reduceMul, Int.reduceToNat, Nat.reduceAdd, noUnk, AV.cells, reduceCtorEq, Nat.reduceLeDiff, Cells.get, Nat.reduceMul, ↓bnd_assoc]) (by simp only [a6, ↓sxp, sxq, ↓reduceIte, Nat.reduceBEq, Nat.reduceLT, evP, evX, evR, blkOf, evA, storeA, Nat.reduceEqDiff, resL, resV, oneOrTup, Int.reduceEq, Int.reduceLT, Int.reduceLE, Int.reduceNeg, Int.reduceAdd, Int.reduceSub, Int.reduceMul, Int.reduceToNat, Nat.reduceAdd, noUnk, AV.cells, reduceCtorEq, Nat.reduceLeDiff, Cells.get, Nat.reduceMul, ↓bnd_assoc]) (by simp only [↓sxp, sxq, ↓reduceIte, Nat.reduceBEq, Nat.reduceLT, evP, evX, evR, blkOf, evA, storeA, Nat.reduceEqDiff, resL, resV, oneOrTup, Int.reduceEq, Int.reduceLT, Int.reduceLE, Int.reduceNeg, Int.reduceAdd, Int.reduceSub, Int.reduceMul, Int.reduceToNat, Nat.reduceAdd, noUnk, AV.cells, reduceCtorEq, Nat.reduceLeDiff, Cells.get, Nat.reduceMul, ↓bnd_assoc]) (by simp only [↓sxp, sxq, ↓reduceIte, Nat.reduceBEq, Nat.reduceLT, evP, evX, evR, blkOf, evA, storeA, Nat.reduceEqDiff, resL, resV, oneOrTup, Int.reduceEq, Int.reduceLT, Int.reduceLE, Int.reduceNeg, Int.reduceAdd, Int.reduceSub, Int.reduceMul, Int.reduceToNat, Nat.reduceAdd, noUnk, AV.cells, reduceCtorEq, Nat.reduceLeDiff, Cells.get, Nat.reduceMul, ↓bnd_assoc]) h4) fun lv A' H' ⟨q1, q2, q3, q4, q5, q6, q⟩ => ⟨q1, q2.trans (by simp only [↓sxp, sxq, ↓reduceIte, Nat.reduceBEq, Nat.reduceLT, evP, evX, evR, blkOf, evA, storeA, Nat.reduceEqDiff, resL, resV, oneOrTup, Int.reduceEq, Int.reduceLT, Int.reduceLE, Int.reduceNeg, Int.reduceAdd, Int.reduceSub, Int.reduceMul, Int.reduceToNat, Nat.reduceAdd, noUnk, AV.cells, reduceCtorEq, Nat.reduceLeDiff, Cells.get, Nat.reduceMul, ↓bnd_assoc]), q3.trans (by simp only [↓sxp, sxq, ↓reduceIte, Nat.reduceBEq, Nat.reduceLT, evP, evX, evR, blkOf, evA, storeA, Nat.reduceEqDiff, resL, resV, oneOrTup, Int.reduceEq, Int.reduceLT, Int.reduceLE, Int.reduceNeg, Int.reduceAdd, Int.reduceSub, Int.reduceMul, Int.reduceToNat, Nat.reduceAdd, noUnk, AV.cells, reduceCtorEq, Nat.reduceLeDiff, Cells.get, Nat.reduceMul, ↓bnd_assoc]), q4.trans (by simp only [a4, ↓sxp, sxq, ↓reduceIte, Nat.reduceBEq, Nat.reduceLT, evP, evX, evR, blkOf, evA, storeA, Nat.reduceEqDiff, resL, resV, oneOrTup, Int.reduceEq, Int.reduceLT, Int.reduceLE, Int.reduceNeg, Int.reduceAdd, Int.reduceSub, Int.reduceMul, Int.reduceToNat, Nat.reduceAdd, noUnk, AV.cells, reduceCtorEq, Nat.reduceLeDiff, Cells.get, Nat.reduceMul, ↓bnd_assoc]), q5.trans (by simp only [↓sxp, sxq, ↓reduceIte, Nat.reduceBEq, Nat.reduceLT, evP, evX, evR, blkOf, evA, storeA, Nat.reduceEqDiff, resL, resV, oneOrTup, Int.reduceEq, Int.reduceLT, Int.reduceLE, Int.reduceNeg, Int.reduceAdd, Int.reduceSub, Int.reduceMul, Int.reduceToNat, Nat.reduceAdd, noUnk, AV.cells, reduceCtorEq, Nat.reduceLeDiff, Cells.get, Nat.reduceMul, ↓bnd_assoc]), q6.trans (by simp only [a6, ↓sxp, sxq, ↓reduceIte, Nat.reduceBEq, Nat.reduceLT, evP, evX, evR, blkOf, evA, storeA, Nat.reduceEqDiff, resL, resV, oneOrTup, Int.reduceEq, Int.reduceLT, Int.reduceLE, Int.reduceNeg, Int.reduceAdd, Int.reduceSub, Int.reduceMul, Int.reduceToNat, Nat.reduceAdd, noUnk, AV.cells, reduceCtorEq, Nat.reduceLeDiff, Cells.get, Nat.reduceMul, ↓bnd_assoc]), q⟩
end
end Go.Proofs.YtjfnhdiimibmiaaDoor.Sx

/- The document's pad. -/
namespace Go.Proofs.YtjfnhdiimibmiaaDoor.Sx
open HP
/-- Bytes that can be appended to: what append has made, or a whole block. -/
def XH (H : Heap) (bs : List UInt8) (v : AV) (Γ : List HP) : Prop := Holds H (row 5 1 (cb bs) v :: Γ) ∨ ∃ j, 0 < bs.length ∧ v = .sl (some ⟨.own j, 0⟩) bs.length (.exact bs.length) ∧ Holds H (blk j (cb bs) 5 :: Γ)
section
variable {W : World} {E : Env} {H : Heap} {Γ : List HP}
theorem XH.push {bs : List UInt8} {v : AV} {c : List AV} {t : TypeId} (h : XH H bs v Γ) : XH (H.push (.cells (.lst c) t none)) bs v (blk H.next c t :: Γ) := by
  rcases h with h | ⟨j, h0, e, h⟩
  · exact .inl (h.push.ord [1])
  · exact .inr ⟨j, h0, e, h.push.ord [1]⟩
theorem XH.len {bs : List UInt8} {v : AV} (h : XH H bs v Γ) : lenV v = some (.int .i64 bs.length) := by
  rcases h with h | ⟨j, h0, e, h⟩
  · obtain ⟨a, c, e⟩ := h.row_len (by omega) (n := bs.length) (by rw [cb_len, Nat.mul_one])
    subst e; rfl
  · subst e; rfl
theorem XH.src {bs : List UInt8} {v : AV} (h : XH H bs v Γ) : srcA W H 1 false v = some (bs.length, cb bs) := by
  rcases h with h | ⟨j, h0, e, h⟩
  · by_cases h0 : bs.length = 0
    · have : bs = [] := List.eq_nil_of_length_eq_zero h0
      subst this
      obtain ⟨fp, f, g, a, b⟩ := h.a
      generalize hq : cb [] = q at a
      cases a with
      | nil => rfl
      | mk h0 hl hg hln => subst hq; simp at hl; omega
    · exact h.row_src (by omega) (n := bs.length) (by rw [cb_len, Nat.mul_one]) (by omega)
  · subst e
    have g := h.get
    have := getN_all (cb bs)
    rw [cb_len] at this
    simp only [srcA, blkOf, g, Nat.mul_one, this]
theorem XH.app {bs ps : List UInt8} {v x : AV} (h : XH H bs v Γ) (hx : srcA W H 1 false x = some (ps.length, cb ps)) (h0 : 0 < ps.length) (hb : bs.length + ps.length ≤ 140737488355328) :
    ∃ v' H', appA W H 5 1 1 false v x = some (v', H') ∧ Holds H' (row 5 1 (cb (bs ++ ps)) v' :: Γ) := by
  rw [cb_app]
  rcases h with h | ⟨j, hj, e, h⟩
  · exact h.app (by omega) hx h0 (by rw [cb_len, Nat.mul_one]) (cb_one ps) (n := bs.length) (by rw [cb_len, Nat.mul_one]) (by omega)
  · subst e
    obtain ⟨v', H', e1, h'⟩ := h.xadd (W := W) (ty := 5) (bytes := 1) (k := ps.length) (new := cb ps) (cb_len bs) hj h0 (cb_len ps) (by rw [← cb_app]; exact cb_one _) (by omega)
    exact ⟨v', H', by simp only [appA, hx]; exact e1, h'.rm 1⟩
theorem one_src {b : UInt8} : srcA W (H.push (.cells (.lst [.int .u8 b.toNat]) 5 none)) 1 false (.sl (some ⟨.own H.next, 0⟩) 1 (.exact 1)) = some ([b].length, cb [b]) := by
  have g : (H.push (.cells (.lst [.int .u8 b.toNat]) 5 none)).get H.next = some (.cells (.lst [.int .u8 b.toNat]) 5 none) := by rw [get_push_cells, if_pos rfl]
  simp only [srcA, blkOf, g]; rfl
/-- One byte is appended. -/
theorem Fin.byte {α : Type} {R : α → Prop} {k : AV × Heap → Option α} {bs : List UInt8} {v : AV} (h : XH H bs v Γ) (b : UInt8) (hb : bs.length < 1099511627776)
    (hk : ∀ v' H', Holds H' (row 5 1 (cb (bs ++ [b])) v' :: Γ) → Fin R (k (v', H'))) : Fin R (bnd (appA W (H.push (.cells (.lst [.int .u8 b.toNat]) 5 none)) 5 1 1 false v (.sl (some ⟨.own H.next, 0⟩) 1 (.exact 1))) k) := by
  obtain ⟨v', H', e, h'⟩ := XH.app (W := W) (ps := [b]) h.push one_src (by simp) (by simp; omega)
  rw [e, bnd_some]
  exact hk _ _ (h'.rm 1)
theorem u8_mod (a : Nat) : UInt8.ofNat (a % 256) = UInt8.ofNat a := by
  apply UInt8.toNat_inj.1
  rw [UInt8.toNat_ofNat', UInt8.toNat_ofNat']; omega
theorem pad_loop0 {n : Nat} (hn : n < 65536) {df : List Nat} : ∀ (m z : Nat) (A : Tm) (H : Heap) (v : AV), z + m = (239 - n % 128) % 128 → getX A 0 = .int .i64 n → getX A 3 = v → XH H (128 :: List.replicate z 0) v Γ →
    ∃ lv A' H', run W E (.loop lp67_0) ⟨A, df, none⟩ H = some (lv, ⟨A', df, none⟩, H') ∧ (lv = .exit 0 ∧ getX A' 0 = getX A 0 ∧ ∃ v', getX A' 3 = v' ∧ XH H' (128 :: List.replicate ((239 - n % 128) % 128) 0) v' Γ) := by
  have hlp : ∀ f H, run W E lp67_0 f H = run W E lp67_0 f H := fun _ _ => rfl
  conv at hlp => enter [f, H, 2]; unfold lp67_0
  intro m
  induction m with
  | zero =>
    intro z A H v hzm a0 a3 h
    have : z = (239 - n % 128) % 128 := by omega
    have hlen := h.len
    rw [List.length_cons, List.length_replicate] at hlen
    have e1 : IntKind.i64.wrap ((n : Int) + ((z + 1 : Nat) : Int)) = ((n + (z + 1) : Nat) : Int) := by rw [w64 (by omega)]; omega
    have e2 : bin .rem (.int .i64 ((n + (z + 1) : Nat) : Int)) (.int .i64 128) = some (.int .i64 (((n + (z + 1)) % 128 : Nat) : Int)) := i_rem _ 128 (by omega)
    have e3 : (((n + (z + 1)) % 128 : Nat) : Int) = 112 := by omega
    rw [e3] at e2
    generalize (n + (z + 1) : Nat) = q at *
    rw [run_loop]
    simp only [hlp, a0, a3, hlen, e1, e2, ↓sxp, sxq, seval, evP, evX, evR, blkOf, evA, storeA, resL, resV, oneOrTup, noUnk, AV.cells, Cells.get, ↓bnd_assoc]
    refine ⟨_, _, _, rfl, rfl, by simp only [a0, ↓sxp, sxq, seval, evP, evX, evR, blkOf, evA, storeA, resL, resV, oneOrTup, noUnk, AV.cells, Cells.get, ↓bnd_assoc], v, by simp only [a3, ↓sxp, sxq, seval, evP, evX, evR, blkOf, evA, storeA, resL, resV, oneOrTup, noUnk, AV.cells, Cells.get, ↓bnd_assoc], ?_⟩
    rw [← this]; exact h
  | succ m ih =>
    intro z A H v hzm a0 a3 h
    have hlen := h.len
    rw [List.length_cons, List.length_replicate] at hlen
    have e1 : IntKind.i64.wrap ((n : Int) + ((z + 1 : Nat) : Int)) = ((n + (z + 1) : Nat) : Int) := by rw [w64 (by omega)]; omega
    have e2 : bin .rem (.int .i64 ((n + (z + 1) : Nat) : Int)) (.int .i64 128) = some (.int .i64 (((n + (z + 1)) % 128 : Nat) : Int)) := i_rem _ 128 (by omega)
    have e3 : ¬ (((n + (z + 1)) % 128 : Nat) : Int) = 112 := by omega
    apply Fin.ex3
    rw [run_loop]
    generalize hq : ((n + (z + 1)) % 128 : Nat) = q at *
    simp only [hlp, a0, a3, hlen, e1, e2, e3, ↓sxp, sxq, seval, evP, evX, evR, blkOf, evA, storeA, resL, resV, oneOrTup, noUnk, AV.cells, Cells.get, ↓bnd_assoc]
    refine Fin.byte h 0 (by simp; omega) fun v' H' h' => ?_
    simp only [↓sxp, sxq, seval, evP, evX, evR, blkOf, evA, storeA, resL, resV, oneOrTup, noUnk, AV.cells, Cells.get, ↓bnd_assoc]
    refine Fin.of3 (ih (z + 1) _ _ v' (by omega) (by simp only [a0, ↓sxp, sxq, seval, evP, evX, evR, blkOf, evA, storeA, resL, resV, oneOrTup, noUnk, AV.cells, Cells.get, ↓bnd_assoc]) (by simp only [↓sxp, sxq, seval, evP, evX, evR, blkOf, evA, storeA, resL, resV, oneOrTup, noUnk, AV.cells, Cells.get, ↓bnd_assoc]) (.inl (by rw [List.replicate_succ']; exact h'))) fun lv A' H' ⟨q1, q2, q⟩ => ⟨q1, q2.trans (by simp only [a0, ↓sxp, sxq, seval, evP, evX, evR, blkOf, evA, storeA, resL, resV, oneOrTup, noUnk, AV.cells, Cells.get, ↓bnd_assoc]), q⟩
theorem pad_loop1 {df : List Nat} : ∀ (m i : Nat) (A : Tm) (H : Heap) (bs : List UInt8) (v : AV), i + m = 8 → bs.length < 65536 → getX A 4 = .int .i64 i → getX A 3 = v → XH H (bs ++ List.replicate i 0) v Γ →
    ∃ lv A' H', run W E (.loop lp67_1) ⟨A, df, none⟩ H = some (lv, ⟨A', df, none⟩, H') ∧ (lv = .exit 2 ∧ getX A' 0 = getX A 0 ∧ ∃ v', getX A' 3 = v' ∧ XH H' (bs ++ List.replicate 8 0) v' Γ) := by
  have hlp : ∀ f H, run W E lp67_1 f H = run W E lp67_1 f H := fun _ _ => rfl
  conv at hlp => enter [f, H, 2]; unfold lp67_1
  intro m
  induction m with
  | zero =>
    intro i A H bs v him hb a4 a3 h
    have : i = 8 := by omega
    subst this
    have a4' : getX A 4 = .int .i64 8 := a4
    rw [run_loop]
    simp only [hlp, a4', ↓sxp, sxq, seval, evP, evX, evR, blkOf, evA, storeA, resL, resV, oneOrTup, noUnk, AV.cells, Cells.get, ↓bnd_assoc]
    exact ⟨_, _, _, rfl, rfl, by simp only [↓sxp, sxq, seval, evP, evX, evR, blkOf, evA, storeA, resL, resV, oneOrTup, noUnk, AV.cells, Cells.get, ↓bnd_assoc], v, by simp only [a3, ↓sxp, sxq, seval, evP, evX, evR, blkOf, evA, storeA, resL, resV, oneOrTup, noUnk, AV.cells, Cells.get, ↓bnd_assoc], h⟩
  | succ m ih =>
    intro i A H bs v him hb a4 a3 h
    have hlt : (i : Int) < 8 := by omega
    have hwr : IntKind.i64.wrap ((i : Int) + 1) = ((i + 1 : Nat) : Int) := by rw [w64 (by omega)]; simp
    apply Fin.ex3
    rw [run_loop]
    simp only [hlp, a4, a3, hlt, ↓sxp, sxq, seval, evP, evX, evR, blkOf, evA, storeA, resL, resV, oneOrTup, noUnk, AV.cells, Cells.get, ↓bnd_assoc]
    refine Fin.byte h 0 (by simp; omega) fun v' H' h' => ?_
    simp only [a4, hwr, ↓sxp, sxq, seval, evP, evX, evR, blkOf, evA, storeA, resL, resV, oneOrTup, noUnk, AV.cells, Cells.get, ↓bnd_assoc]
    refine Fin.of3 (ih (i + 1) _ _ bs v' (by omega) hb (by simp only [↓sxp, sxq, seval, evP, evX, evR, blkOf, evA, storeA, resL, resV, oneOrTup, noUnk, AV.cells, Cells.get, ↓bnd_assoc]) (by simp only [↓sxp, sxq, seval, evP, evX, evR, blkOf, evA, storeA, resL, resV, oneOrTup, noUnk, AV.cells, Cells.get, ↓bnd_assoc]) (.inl (by rw [List.replicate_succ', ← List.append_assoc]; exact h'))) fun lv A' H' ⟨q1, q2, q⟩ => ⟨q1, q2.trans (by simp only [↓sxp, sxq, seval, evP, evX, evR, blkOf, evA, storeA, resL, resV, oneOrTup, noUnk, AV.cells, Cells.get, ↓bnd_assoc]), q⟩
theorem pad_loop2 {x : Nat} (hx : x < 18446744073709551616) {df : List Nat} : ∀ (m i sc : Nat) (A : Tm) (H : Heap) (bs : List UInt8) (v : AV), i + m = 8 → (0 < m → sc = 256 ^ (m - 1)) → bs.length + m < 65536 → getX A 5 = .int .u64 sc → getX A 6 = .int .u64 x → getX A 7 = .int .i64 i → getX A 3 = v → XH H bs v Γ →
    ∃ lv A' H', run W E (.loop lp67_2) ⟨A, df, none⟩ H = some (lv, ⟨A', df, none⟩, H') ∧ (lv = .exit 4 ∧ ∃ v', getX A' 3 = v' ∧ XH H' (bs ++ bytesN m x) v' Γ) := by
  have hlp : ∀ f H, run W E lp67_2 f H = run W E lp67_2 f H := fun _ _ => rfl
  conv at hlp => enter [f, H, 2]; unfold lp67_2
  intro m
  induction m with
  | zero =>
    intro i sc A H bs v him hsc hb a5 a6 a7 a3 h
    have : i = 8 := by omega
    subst this
    have a7' : getX A 7 = .int .i64 8 := a7
    rw [run_loop]
    simp only [hlp, a7', ↓sxp, sxq, seval, evP, evX, evR, blkOf, evA, storeA, resL, resV, oneOrTup, noUnk, AV.cells, Cells.get, ↓bnd_assoc]
    exact ⟨_, _, _, rfl, rfl, v, by simp only [a3, ↓sxp, sxq, seval, evP, evX, evR, blkOf, evA, storeA, resL, resV, oneOrTup, noUnk, AV.cells, Cells.get, ↓bnd_assoc], by rw [bytesN, List.append_nil]; exact h⟩
  | succ m ih =>
    intro i sc A H bs v him hsc hb a5 a6 a7 a3 h
    have hlt : (i : Int) < 8 := by omega
    have hwr : IntKind.i64.wrap ((i : Int) + 1) = ((i + 1 : Nat) : Int) := by rw [w64 (by omega)]; simp
    have hsc' : sc = 256 ^ m := hsc (by omega)
    have hsc0 : sc ≠ 0 := by rw [hsc']; exact Nat.pos_iff_ne_zero.1 (Nat.pow_pos (by omega))
    have hscl : sc < 18446744073709551616 := by rw [hsc']; exact Nat.pow_lt_pow_right (a := 256) (by omega) (show m < 8 by omega)
    have e1 := n_quo x sc hsc0 hx
    have e2 : bin .rem (.int .u64 ((x / sc : Nat) : Int)) (.int .u64 256) = some (.int .u64 ((x / sc % 256 : Nat) : Int)) := n_rem (x / sc) 256 (by omega)
    have e3 : IntKind.u8.wrap ((x / sc % 256 : Nat) : Int) = ((byteAt x m).toNat : Int) := by rw [wrap_u8', u8_mod, hsc']; rfl
    have e4 : bin .quo (.int .u64 (sc : Int)) (.int .u64 256) = some (.int .u64 ((sc / 256 : Nat) : Int)) := n_quo sc 256 (by omega) hscl
    apply Fin.ex3
    rw [run_loop]
    simp only [hlp, a5, a6, a7, a3, hlt, e1, e2, e3, ↓sxp, sxq, seval, evP, evX, evR, blkOf, evA, storeA, resL, resV, oneOrTup, noUnk, AV.cells, Cells.get, ↓bnd_assoc]
    refine Fin.byte h (byteAt x m) (by omega) fun v' H' h' => ?_
    simp only [a5, a7, hwr, e4, ↓sxp, sxq, seval, evP, evX, evR, blkOf, evA, storeA, resL, resV, oneOrTup, noUnk, AV.cells, Cells.get, ↓bnd_assoc]
    refine Fin.of3 (ih (i + 1) (sc / 256) _ _ (bs ++ [byteAt x m]) v' (by omega) (fun hm => ?_) (by simp; omega) (by simp only [↓sxp, sxq, seval, evP, evX, evR, blkOf, evA, storeA, resL, resV, oneOrTup, noUnk, AV.cells, Cells.get, ↓bnd_assoc]) (by simp only [a6, ↓sxp, sxq, seval, evP, evX, evR, blkOf, evA, storeA, resL, resV, oneOrTup, noUnk, AV.cells, Cells.get, ↓bnd_assoc]) (by simp only [↓sxp, sxq, seval, evP, evX, evR, blkOf, evA, storeA, resL, resV, oneOrTup, noUnk, AV.cells, Cells.get, ↓bnd_assoc]) (by simp only [↓sxp, sxq, seval, evP, evX, evR, blkOf, evA, storeA, resL, resV, oneOrTup, noUnk, AV.cells, Cells.get, ↓bnd_assoc]) (.inl h')) fun lv A' H' ⟨q1, v', q2, q3⟩ => ⟨q1, v', q2, ?_⟩
    · rw [hsc']
      cases m with
      | zero => omega
      | succ m => rw [Nat.pow_succ, Nat.mul_div_cancel _ (by omega)]; rfl
    · rw [List.append_assoc] at q3; exact q3
theorem c_dpad (hE : EnvS E) {n : Nat} (hn : n < 65536) (h : Holds H Γ) :
    ∃ out H', go W E 67 [.int .i64 (n : Int)] H = some (out, H') ∧ XH H' (padF n) out Γ := by
  suffices hh : Fin (fun r : AV × Heap => XH r.2 (padF n) r.1 Γ) (go W E 67 [.int .i64 (n : Int)] H) by
    obtain ⟨⟨r, H'⟩, e, q⟩ := hh
    exact ⟨r, H', e, q⟩
  have e1 : IntKind.u64.wrap (n : Int) = (n : Int) := by rw [wrap_u64']; omega
  have e2 : bin .mul (.int .u64 (n : Int)) (.int .u64 8) = some (.int .u64 ((8 * n : Nat) : Int)) := by
    have := n_mul n 8
    rw [Nat.mod_eq_of_lt (by omega), Nat.mul_comm n 8] at this; exact this
  have h2 := h.push (c := [.int .u8 128]) (t := 5)
  rw [go_code hE.f67 (by simp [sf67])]
  simp only [sf67, ↓sxp, sxq, seval, evP, evX, evR, blkOf, evA, storeA, resL, resV, oneOrTup, noUnk, AV.cells, Cells.get, ↓bnd_assoc]
  refine Fin.loop (pad_loop0 hn ((239 - n % 128) % 128) 0 _ _ _ (by omega) (by simp only [↓sxp, sxq, seval, evP, evX, evR, blkOf, evA, storeA, resL, resV, oneOrTup, noUnk, AV.cells, Cells.get, ↓bnd_assoc]) (by simp only [↓sxp, sxq, seval, evP, evX, evR, blkOf, evA, storeA, resL, resV, oneOrTup, noUnk, AV.cells, Cells.get, ↓bnd_assoc] <;> rfl) (.inr ⟨H.next, by simp, rfl, h2⟩)) fun lv A H1 ⟨q1, a0, v1, a3, h3⟩ => ?_
  subst q1
  simp only [↓sxp, sxq, seval, evP, evX, evR, blkOf, evA, storeA, resL, resV, oneOrTup, noUnk, AV.cells, Cells.get, ↓bnd_assoc] at a0
  simp only [a3, ↓sxp, sxq, seval, evP, evX, evR, blkOf, evA, storeA, resL, resV, oneOrTup, noUnk, AV.cells, Cells.get, ↓bnd_assoc]
  refine Fin.loop (pad_loop1 (Γ := Γ) 8 0 _ _ (128 :: List.replicate ((239 - n % 128) % 128) 0) v1 (by omega) (by simp; omega) (by simp only [↓sxp, sxq, seval, evP, evX, evR, blkOf, evA, storeA, resL, resV, oneOrTup, noUnk, AV.cells, Cells.get, ↓bnd_assoc] <;> rfl) (by simp only [a3, ↓sxp, sxq, seval, evP, evX, evR, blkOf, evA, storeA, resL, resV, oneOrTup, noUnk, AV.cells, Cells.get, ↓bnd_assoc]) (by rw [List.replicate_zero, List.append_nil]; exact h3)) fun lv A1 H1 ⟨q1, b0, v2, b3, h4⟩ => ?_
  subst q1
  simp only [a0, ↓sxp, sxq, seval, evP, evX, evR, blkOf, evA, storeA, resL, resV, oneOrTup, noUnk, AV.cells, Cells.get, ↓bnd_assoc] at b0
  simp only [b0, b3, e1, e2, ↓sxp, sxq, seval, evP, evX, evR, blkOf, evA, storeA, resL, resV, oneOrTup, noUnk, AV.cells, Cells.get, ↓bnd_assoc]
  refine Fin.loop (pad_loop2 (Γ := Γ) (x := 8 * n) (by omega) 8 0 72057594037927936 _ _ _ v2 (by omega) (fun _ => rfl) (by simp; omega) (by simp only [↓sxp, sxq, seval, evP, evX, evR, blkOf, evA, storeA, resL, resV, oneOrTup, noUnk, AV.cells, Cells.get, ↓bnd_assoc] <;> rfl) (by simp only [↓sxp, sxq, seval, evP, evX, evR, blkOf, evA, storeA, resL, resV, oneOrTup, noUnk, AV.cells, Cells.get, ↓bnd_assoc]) (by simp only [↓sxp, sxq, seval, evP, evX, evR, blkOf, evA, storeA, resL, resV, oneOrTup, noUnk, AV.cells, Cells.get, ↓bnd_assoc] <;> rfl) (by simp only [b3, ↓sxp, sxq, seval, evP, evX, evR, blkOf, evA, storeA, resL, resV, oneOrTup, noUnk, AV.cells, Cells.get, ↓bnd_assoc]) h4) fun lv A2 H2 ⟨q1, v3, c3, h5⟩ => ?_
  subst q1
  simp only [c3, ↓sxp, sxq, seval, evP, evX, evR, blkOf, evA, storeA, resL, resV, oneOrTup, noUnk, AV.cells, Cells.get, ↓bnd_assoc]
  refine Fin.ret ?_
  have e : 128 :: List.replicate ((239 - n % 128) % 128) 0 ++ List.replicate 8 0 ++ bytesN 8 (8 * n) = padF n := by
    unfold padF
    rw [← List.replicate_append_replicate]; simp
  rw [e] at h5
  exact h5
end
end Go.Proofs.YtjfnhdiimibmiaaDoor.Sx

/- The document's sum. -/
namespace Go.Proofs.YtjfnhdiimibmiaaDoor.Sx
open HP
section
variable {W : World} {E : Env} {H : Heap} {Γ : List HP}
theorem set_mid {α : Type} (a : List α) (x y : α) (b : List α) : (a ++ x :: b).set a.length y = a ++ y :: b := by
  rw [List.set_append_right _ _ (Nat.le_refl _), Nat.sub_self, List.set_cons_zero]
theorem do_loop1 {x : BitVec 64} {js j22 i : Nat} {ws : List (BitVec 64)} (hws : ws.length = 8) (hi : i < 8) (hx : ws.getD i 0 = x) {df : List Nat} : ∀ (m k sc r : Nat) (A : Tm) (H : Heap) (acc : List UInt8), k + m = 8 → acc.length = 8 * i + k → r = 56 - 8 * i → (0 < m → sc = 256 ^ (m - 1)) → getX A 5 = .sl (some ⟨.own js, 0⟩) 8 (.exact 8) → getX A 22 = .ptr (some ⟨.own j22, 0⟩) → getX A 23 = .int .i64 i → getX A 24 = .int .u64 sc → getX A 25 = .int .i64 k → Holds H (blk j22 (cb (acc ++ List.replicate (m + r) 0)) 71 :: blk js (wl ws) 91 :: Γ) →
    ∃ lv A' H', run W E (.loop lp53_4) ⟨A, df, none⟩ H = some (lv, ⟨A', df, none⟩, H') ∧ (lv = .exit 8 ∧ getX A' 2 = getX A 2 ∧ getX A' 5 = getX A 5 ∧ getX A' 22 = getX A 22 ∧ getX A' 23 = getX A 23 ∧ Holds H' (blk j22 (cb (acc ++ bytesN m x.toNat ++ List.replicate r 0)) 71 :: blk js (wl ws) 91 :: Γ)) := by
  have hlp : ∀ f H, run W E lp53_4 f H = run W E lp53_4 f H := fun _ _ => rfl
  conv at hlp => enter [f, H, 2]; unfold lp53_4
  intro m
  induction m with
  | zero =>
    intro k sc r A H acc hkm ha hr hsc a5 a22 a23 a24 a25 h
    have : k = 8 := by omega
    subst this
    have a25' : getX A 25 = .int .i64 8 := a25
    rw [run_loop]
    simp only [hlp, a25', ↓sxp, sxq, seval, evP, evX, evR, blkOf, evA, storeA, resL, resV, oneOrTup, noUnk, AV.cells, Cells.get, ↓bnd_assoc]
    exact ⟨_, _, _, rfl, rfl, by simp only [↓sxp, sxq, seval, evP, evX, evR, blkOf, evA, storeA, resL, resV, oneOrTup, noUnk, AV.cells, Cells.get, ↓bnd_assoc], by simp only [↓sxp, sxq, seval, evP, evX, evR, blkOf, evA, storeA, resL, resV, oneOrTup, noUnk, AV.cells, Cells.get, ↓bnd_assoc], by simp only [↓sxp, sxq, seval, evP, evX, evR, blkOf, evA, storeA, resL, resV, oneOrTup, noUnk, AV.cells, Cells.get, ↓bnd_assoc], by simp only [↓sxp, sxq, seval, evP, evX, evR, blkOf, evA, storeA, resL, resV, oneOrTup, noUnk, AV.cells, Cells.get, ↓bnd_assoc], by rw [bytesN, List.append_nil]; rw [Nat.zero_add] at h; exact h⟩
  | succ m ih =>
    intro k sc r A H acc hkm ha hr hsc a5 a22 a23 a24 a25 h
    have hlt : (k : Int) < 8 := by omega
    have hwr : IntKind.i64.wrap ((k : Int) + 1) = ((k + 1 : Nat) : Int) := by rw [w64 (by omega)]; simp
    have hsc' : sc = 256 ^ m := hsc (by omega)
    have hsc0 : sc ≠ 0 := by rw [hsc']; exact Nat.pos_iff_ne_zero.1 (Nat.pow_pos (by omega))
    have hscl : sc < 18446744073709551616 := by rw [hsc']; exact Nat.pow_lt_pow_right (a := 256) (by omega) (show m < 8 by omega)
    have e1 := n_quo x.toNat sc hsc0 x.isLt
    have e2 : bin .rem (.int .u64 ((x.toNat / sc : Nat) : Int)) (.int .u64 256) = some (.int .u64 ((x.toNat / sc % 256 : Nat) : Int)) := n_rem (x.toNat / sc) 256 (by omega)
    have e3 : IntKind.u8.wrap ((x.toNat / sc % 256 : Nat) : Int) = ((byteAt x.toNat m).toNat : Int) := by rw [wrap_u8', u8_mod, hsc']; rfl
    have e4 : bin .quo (.int .u64 (sc : Int)) (.int .u64 256) = some (.int .u64 ((sc / 256 : Nat) : Int)) := n_quo sc 256 (by omega) hscl
    have m1 : IntKind.i64.wrap (8 * (i : Int)) = ((8 * i : Nat) : Int) := by rw [w64 (by omega)]; omega
    have m2 : IntKind.i64.wrap (((8 * i : Nat) : Int) + (k : Int)) = ((8 * i + k : Nat) : Int) := by rw [w64 (by omega)]; omega
    have i1 : (i : Int) < 8 := by omega
    have i2 : ((8 * i + k : Nat) : Int) < 64 := by omega
    have gs := (h.ord [1]).get
    have gx := wl_get (show i < ws.length by omega)
    rw [hx] at gx
    have hset : (cb (acc ++ List.replicate (m + 1 + r) 0)).set (8 * i + k) (.int .u8 (byteAt x.toNat m).toNat) = cb (acc ++ [byteAt x.toNat m] ++ List.replicate (m + r) 0) := by
      rw [← ha, show m + 1 + r = (m + r) + 1 from by omega, List.replicate_succ]
      have := set_mid (cb acc) (.int .u8 ((0 : UInt8).toNat)) (.int .u8 (byteAt x.toNat m).toNat) (cb (List.replicate (m + r) 0))
      rw [cb_len] at this
      simp only [cb, List.map_append, List.map_cons, List.map_nil, List.append_assoc, List.cons_append, List.nil_append] at this ⊢
      exact this
    apply Fin.ex3
    rw [run_loop]
    simp only [hlp, a5, a22, a23, a24, a25, hlt, nc8, nc64, m1, m2, i1, i2, Int.natCast_nonneg, and_self, ↓gs, gx, e1, e2, e3, e4, Int.toNat_natCast, ↓sxp, sxq, seval, evP, evX, evR, blkOf, evA, storeA, resL, resV, oneOrTup, noUnk, AV.cells, Cells.get, ↓bnd_assoc]
    refine Fin.write (cb (acc ++ [byteAt x.toNat m] ++ List.replicate (m + r) 0)) h (by simp only [Cells.setN, Cells.set, hset]) (by rw [cb_len]; simp; omega) rfl fun H4 h4 => ?_
    simp only [a24, a25, e4, hwr, ↓sxp, sxq, seval, evP, evX, evR, blkOf, evA, storeA, resL, resV, oneOrTup, noUnk, AV.cells, Cells.get, ↓bnd_assoc]
    refine Fin.of3 (ih (k + 1) (sc / 256) r _ _ (acc ++ [byteAt x.toNat m]) (by omega) (by simp; omega) hr (fun hm => ?_) (by simp only [a5, ↓sxp, sxq, seval, evP, evX, evR, blkOf, evA, storeA, resL, resV, oneOrTup, noUnk, AV.cells, Cells.get, ↓bnd_assoc]) (by simp only [a22, ↓sxp, sxq, seval, evP, evX, evR, blkOf, evA, storeA, resL, resV, oneOrTup, noUnk, AV.cells, Cells.get, ↓bnd_assoc]) (by simp only [a23, ↓sxp, sxq, seval, evP, evX, evR, blkOf, evA, storeA, resL, resV, oneOrTup, noUnk, AV.cells, Cells.get, ↓bnd_assoc]) (by simp only [↓sxp, sxq, seval, evP, evX, evR, blkOf, evA, storeA, resL, resV, oneOrTup, noUnk, AV.cells, Cells.get, ↓bnd_assoc]) (by simp only [↓sxp, sxq, seval, evP, evX, evR, blkOf, evA, storeA, resL, resV, oneOrTup, noUnk, AV.cells, Cells.get, ↓bnd_assoc]) h4) fun lv A' H' ⟨q1, q2, q3, q4, q5, q6⟩ => ⟨q1, q2.trans (by simp only [↓sxp, sxq, seval, evP, evX, evR, blkOf, evA, storeA, resL, resV, oneOrTup, noUnk, AV.cells, Cells.get, ↓bnd_assoc]), q3.trans (by simp only [a5, ↓sxp, sxq, seval, evP, evX, evR, blkOf, evA, storeA, resL, resV, oneOrTup, noUnk, AV.cells, Cells.get, ↓bnd_assoc]), q4.trans (by simp only [a22, ↓sxp, sxq, seval, evP, evX, evR, blkOf, evA, storeA, resL, resV, oneOrTup, noUnk, AV.cells, Cells.get, ↓bnd_assoc]), q5.trans (by simp only [a23, ↓sxp, sxq, seval, evP, evX, evR, blkOf, evA, storeA, resL, resV, oneOrTup, noUnk, AV.cells, Cells.get, ↓bnd_assoc]), ?_⟩
    · rw [hsc']
      cases m with
      | zero => omega
      | succ m => rw [Nat.pow_succ, Nat.mul_div_cancel _ (by omega)]; rfl
    · rw [bytesN]
      simp only [List.append_assoc, List.cons_append, List.nil_append] at q6 ⊢; exact q6
theorem bytesL_take (ws : List (BitVec 64)) (i : Nat) (hi : i < ws.length) : bytesL (ws.take (i + 1)) = bytesL (ws.take i) ++ bytesN 8 (ws.getD i 0).toNat := by
  rw [take_succ_getD _ _ hi]
  simp [bytesL]
theorem do_loop0 {js j22 : Nat} {ws : List (BitVec 64)} (hws : ws.length = 8) {df : List Nat} : ∀ (m i : Nat) (A : Tm) (H : Heap), i + m = 8 → getX A 5 = .sl (some ⟨.own js, 0⟩) 8 (.exact 8) → getX A 22 = .ptr (some ⟨.own j22, 0⟩) → getX A 23 = .int .i64 i → Holds H (blk j22 (cb (bytesL (ws.take i) ++ List.replicate (64 - 8 * i) 0)) 71 :: blk js (wl ws) 91 :: Γ) →
    ∃ lv A' H', run W E (.loop lp53_3) ⟨A, df, none⟩ H = some (lv, ⟨A', df, none⟩, H') ∧ (lv = .exit 6 ∧ getX A' 2 = getX A 2 ∧ getX A' 22 = getX A 22 ∧ Holds H' (blk j22 (cb (bytesL ws)) 71 :: blk js (wl ws) 91 :: Γ)) := by
  have hlp : ∀ f H, run W E lp53_3 f H = run W E lp53_3 f H := fun _ _ => rfl
  conv at hlp => enter [f, H, 2]; unfold lp53_3
  intro m
  induction m with
  | zero =>
    intro i A H him a5 a22 a23 h
    have : i = 8 := by omega
    subst this
    have a23' : getX A 23 = .int .i64 8 := a23
    rw [run_loop]
    simp only [hlp, a23', ↓sxp, sxq, seval, evP, evX, evR, blkOf, evA, storeA, resL, resV, oneOrTup, noUnk, AV.cells, Cells.get, ↓bnd_assoc]
    rw [List.take_of_length_le (by omega)] at h
    have e : bytesL ws ++ List.replicate (64 - 8 * 8) 0 = bytesL ws := by simp
    rw [e] at h
    exact ⟨_, _, _, rfl, rfl, by simp only [↓sxp, sxq, seval, evP, evX, evR, blkOf, evA, storeA, resL, resV, oneOrTup, noUnk, AV.cells, Cells.get, ↓bnd_assoc], by simp only [↓sxp, sxq, seval, evP, evX, evR, blkOf, evA, storeA, resL, resV, oneOrTup, noUnk, AV.cells, Cells.get, ↓bnd_assoc], h⟩
  | succ m ih =>
    intro i A H him a5 a22 a23 h
    have hlt : (i : Int) < 8 := by omega
    have hwr : IntKind.i64.wrap ((i : Int) + 1) = ((i + 1 : Nat) : Int) := by rw [w64 (by omega)]; simp
    apply Fin.ex3
    rw [run_loop]
    simp only [hlp, a5, a22, a23, hlt, ↓sxp, sxq, seval, evP, evX, evR, blkOf, evA, storeA, resL, resV, oneOrTup, noUnk, AV.cells, Cells.get, ↓bnd_assoc]
    refine Fin.loop (do_loop1 (Γ := Γ) (js := js) (j22 := j22) (x := ws.getD i 0) (i := i) hws (by omega) rfl 8 0 72057594037927936 (56 - 8 * i) _ _ (bytesL (ws.take i)) (by omega) (by rw [bytesL_len, List.length_take]; omega) rfl (fun _ => rfl) (by simp only [a5, ↓sxp, sxq, seval, evP, evX, evR, blkOf, evA, storeA, resL, resV, oneOrTup, noUnk, AV.cells, Cells.get, ↓bnd_assoc]) (by simp only [a22, ↓sxp, sxq, seval, evP, evX, evR, blkOf, evA, storeA, resL, resV, oneOrTup, noUnk, AV.cells, Cells.get, ↓bnd_assoc]) (by simp only [a23, ↓sxp, sxq, seval, evP, evX, evR, blkOf, evA, storeA, resL, resV, oneOrTup, noUnk, AV.cells, Cells.get, ↓bnd_assoc]) (by simp only [↓sxp, sxq, seval, evP, evX, evR, blkOf, evA, storeA, resL, resV, oneOrTup, noUnk, AV.cells, Cells.get, ↓bnd_assoc] <;> rfl) (by simp only [↓sxp, sxq, seval, evP, evX, evR, blkOf, evA, storeA, resL, resV, oneOrTup, noUnk, AV.cells, Cells.get, ↓bnd_assoc] <;> rfl) (by rw [show 8 + (56 - 8 * i) = 64 - 8 * i from by omega]; exact h)) fun lv A1 H1 ⟨q1, q2, q3, q4, q5, h1⟩ => ?_
    subst q1
    simp only [a5, a22, a23, ↓sxp, sxq, seval, evP, evX, evR, blkOf, evA, storeA, resL, resV, oneOrTup, noUnk, AV.cells, Cells.get, ↓bnd_assoc] at q2 q3 q4 q5
    rw [← bytesL_take ws i (by omega), show 56 - 8 * i = 64 - 8 * (i + 1) from by omega] at h1
    simp only [q5, hwr, ↓sxp, sxq, seval, evP, evX, evR, blkOf, evA, storeA, resL, resV, oneOrTup, noUnk, AV.cells, Cells.get, ↓bnd_assoc]
    refine Fin.of3 (ih (i + 1) _ _ (by omega) (by simp only [q3, ↓sxp, sxq, seval, evP, evX, evR, blkOf, evA, storeA, resL, resV, oneOrTup, noUnk, AV.cells, Cells.get, ↓bnd_assoc]) (by simp only [q4, ↓sxp, sxq, seval, evP, evX, evR, blkOf, evA, storeA, resL, resV, oneOrTup, noUnk, AV.cells, Cells.get, ↓bnd_assoc]) (by simp only [↓sxp, sxq, seval, evP, evX, evR, blkOf, evA, storeA, resL, resV, oneOrTup, noUnk, AV.cells, Cells.get, ↓bnd_assoc]) h1) fun lv A' H' ⟨r1, r2, r3, r4⟩ => ⟨r1, r2.trans (by simp only [q2, ↓sxp, sxq, seval, evP, evX, evR, blkOf, evA, storeA, resL, resV, oneOrTup, noUnk, AV.cells, Cells.get, ↓bnd_assoc]), r3.trans (by simp only [q4, a22, ↓sxp, sxq, seval, evP, evX, evR, blkOf, evA, storeA, resL, resV, oneOrTup, noUnk, AV.cells, Cells.get, ↓bnd_assoc]), r4⟩
end
end Go.Proofs.YtjfnhdiimibmiaaDoor.Sx

/- The document's sum, whole. -/
namespace Go.Proofs.YtjfnhdiimibmiaaDoor.Sx
open HP
section
variable {W : World} {E : Env} {H : Heap} {Γ : List HP}
theorem db_loop (hE : EnvS E) {jk : Nat} {ks : List (BitVec 64)} (hks : ks.length = 80) {M : List UInt8} {vm : AV} (hM : M.length < 65536) {df : List Nat} : ∀ (m q js : Nat) (A : Tm) (H : Heap) (s : S8), M.length = 128 * (q + m) → getX A 3 = .sl (some ⟨.own jk, 0⟩) 80 (.exact 80) → getX A 4 = vm → getX A 5 = .sl (some ⟨.own js, 0⟩) 8 (.exact 8) → getX A 6 = .int .i64 ((128 * q : Nat) : Int) → Holds H (blk js (wl s.l) 91 :: blk jk (wl ks) 91 :: row 5 1 (cb M) vm :: Γ) →
    ∃ lv A' H', run W E (.loop lp53_0) ⟨A, df, none⟩ H = some (lv, ⟨A', df, none⟩, H') ∧ (lv = .exit 0 ∧ getX A' 2 = getX A 2 ∧ ∃ js', getX A' 5 = .sl (some ⟨.own js', 0⟩) 8 (.exact 8) ∧ Holds H' (blk js' (wl (foldB ks m s (M.drop (128 * q))).l) 91 :: Γ)) := by
  have hlp : ∀ f H, run W E lp53_0 f H = run W E lp53_0 f H := fun _ _ => rfl
  conv at hlp => enter [f, H, 2]; unfold lp53_0
  intro m
  induction m with
  | zero =>
    intro q js A H s hq a3 a4 a5 a6 h
    have hlen := (RdLike.row (W := W) M vm (h.ord [2])).len
    have hlt : ¬ ((128 * q : Nat) : Int) < M.length := by omega
    generalize (128 * q : Nat) = z at *
    rw [run_loop]
    simp only [hlp, a4, a6, hlen, hlt, ↓sxp, sxq, seval, evP, evX, evR, blkOf, evA, storeA, resL, resV, oneOrTup, noUnk, AV.cells, Cells.get, ↓bnd_assoc]
    exact ⟨_, _, _, rfl, rfl, by simp only [↓sxp, sxq, seval, evP, evX, evR, blkOf, evA, storeA, resL, resV, oneOrTup, noUnk, AV.cells, Cells.get, ↓bnd_assoc], js, by simp only [a5, ↓sxp, sxq, seval, evP, evX, evR, blkOf, evA, storeA, resL, resV, oneOrTup, noUnk, AV.cells, Cells.get, ↓bnd_assoc], (h.rm 1).rm 1⟩
  | succ m ih =>
    intro q js A H s hq a3 a4 a5 a6 h
    have hlen := (RdLike.row (W := W) M vm (h.ord [2])).len
    have hlt : ((128 * q : Nat) : Int) < M.length := by omega
    have hwr : IntKind.i64.wrap (((128 * q : Nat) : Int) + 128) = ((128 * (q + 1) : Nat) : Int) := by rw [w64 (by omega)]; omega
    apply Fin.ex3
    rw [run_loop]
    simp only [hlp, a4, a6, hlen, hlt, ↓sxp, sxq, seval, evP, evX, evR, blkOf, evA, storeA, resL, resV, oneOrTup, noUnk, AV.cells, Cells.get, ↓bnd_assoc]
    refine Fin.loop (dw_loop hE (R := row 5 1 (cb M) vm) (RdLike.row M vm) (at_ := 128 * q) (by omega) hM (S := schedF ((M.drop (128 * q)).take 128)) (schedF_len _) (fun t ht => by rw [schedF_lo _ _ ht, List.drop_take, List.drop_drop, List.take_take]; congr 2; omega) (fun t a b => schedF_hi _ t a b) 80 0 _ _ (.sl none 0 (.exact 0)) (by omega) (by simp only [a4, ↓sxp, sxq, seval, evP, evX, evR, blkOf, evA, storeA, resL, resV, oneOrTup, noUnk, AV.cells, Cells.get, ↓bnd_assoc]) (by simp only [a6, ↓sxp, sxq, seval, evP, evX, evR, blkOf, evA, storeA, resL, resV, oneOrTup, noUnk, AV.cells, Cells.get, ↓bnd_assoc]) (by simp only [↓sxp, sxq, seval, evP, evX, evR, blkOf, evA, storeA, resL, resV, oneOrTup, noUnk, AV.cells, Cells.get, ↓bnd_assoc]) (by simp only [↓sxp, sxq, seval, evP, evX, evR, blkOf, evA, storeA, resL, resV, oneOrTup, noUnk, AV.cells, Cells.get, ↓bnd_assoc] <;> rfl) (h.ord [2]).row_nil) fun lv A1 H1 ⟨e1, b2, b3, b4, b5, b6, vw, b7, h1⟩ => ?_
    subst e1
    simp only [a3, a4, a5, a6, ↓sxp, sxq, seval, evP, evX, evR, blkOf, evA, storeA, resL, resV, oneOrTup, noUnk, AV.cells, Cells.get, ↓bnd_assoc] at b2 b3 b4 b5 b6
    have gs := (h1.ord [2]).get
    have x0 : (wl s.l)[0]? = some (u64 s.a) := rfl
    have x1 : (wl s.l)[1]? = some (u64 s.b) := rfl
    have x2 : (wl s.l)[2]? = some (u64 s.c) := rfl
    have x3 : (wl s.l)[3]? = some (u64 s.d) := rfl
    have x4 : (wl s.l)[4]? = some (u64 s.e) := rfl
    have x5 : (wl s.l)[5]? = some (u64 s.f) := rfl
    have x6 : (wl s.l)[6]? = some (u64 s.g) := rfl
    have x7 : (wl s.l)[7]? = some (u64 s.h) := rfl
    simp only [b5, ↓gs, nc8, x0, x1, x2, x3, x4, x5, x6, x7, ↓sxp, sxq, seval, evP, evX, evR, blkOf, evA, storeA, resL, resV, oneOrTup, noUnk, AV.cells, Cells.get, ↓bnd_assoc]
    have hpf : pieceF ks s ((M.drop (128 * q)).take 128) = s.add (rnds ks (schedF ((M.drop (128 * q)).take 128)) 80 0 s) := rfl
    refine Fin.loop (dr_loop hE (jk := jk) (ks := ks) (ws := schedF ((M.drop (128 * q)).take 128)) (vw := vw) hks (schedF_len _) 80 0 _ _ s (by omega) (by simp only [b3, ↓sxp, sxq, seval, evP, evX, evR, blkOf, evA, storeA, resL, resV, oneOrTup, noUnk, AV.cells, Cells.get, ↓bnd_assoc]) (by simp only [b7, ↓sxp, sxq, seval, evP, evX, evR, blkOf, evA, storeA, resL, resV, oneOrTup, noUnk, AV.cells, Cells.get, ↓bnd_assoc]) (by simp only [↓sxp, sxq, seval, evP, evX, evR, blkOf, evA, storeA, resL, resV, oneOrTup, noUnk, AV.cells, Cells.get, ↓bnd_assoc]) (by simp only [↓sxp, sxq, seval, evP, evX, evR, blkOf, evA, storeA, resL, resV, oneOrTup, noUnk, AV.cells, Cells.get, ↓bnd_assoc]) (by simp only [↓sxp, sxq, seval, evP, evX, evR, blkOf, evA, storeA, resL, resV, oneOrTup, noUnk, AV.cells, Cells.get, ↓bnd_assoc]) (by simp only [↓sxp, sxq, seval, evP, evX, evR, blkOf, evA, storeA, resL, resV, oneOrTup, noUnk, AV.cells, Cells.get, ↓bnd_assoc]) (by simp only [↓sxp, sxq, seval, evP, evX, evR, blkOf, evA, storeA, resL, resV, oneOrTup, noUnk, AV.cells, Cells.get, ↓bnd_assoc]) (by simp only [↓sxp, sxq, seval, evP, evX, evR, blkOf, evA, storeA, resL, resV, oneOrTup, noUnk, AV.cells, Cells.get, ↓bnd_assoc]) (by simp only [↓sxp, sxq, seval, evP, evX, evR, blkOf, evA, storeA, resL, resV, oneOrTup, noUnk, AV.cells, Cells.get, ↓bnd_assoc]) (by simp only [↓sxp, sxq, seval, evP, evX, evR, blkOf, evA, storeA, resL, resV, oneOrTup, noUnk, AV.cells, Cells.get, ↓bnd_assoc]) (by simp only [↓sxp, sxq, seval, evP, evX, evR, blkOf, evA, storeA, resL, resV, oneOrTup, noUnk, AV.cells, Cells.get, ↓bnd_assoc] <;> rfl) (h1.ord [0, 2])) fun lv A2 H2 ⟨e1, c2, c3, c4, c5, c6, s', hs', c11, c12, c13, c14, c15, c16, c17, c18, h2⟩ => ?_
    subst e1
    rw [← hs'] at hpf
    simp only [b2, b3, b4, b5, b6, ↓sxp, sxq, seval, evP, evX, evR, blkOf, evA, storeA, resL, resV, oneOrTup, noUnk, AV.cells, Cells.get, ↓bnd_assoc] at c2 c3 c4 c5 c6
    have h3 := (h2.bump1 42 40).lay (c := wl (s.add s').l) (t := 91)
    have gs2 := ((h2.ord [3]).bump 42).get
    have hz8 : zerosL [AV.int IntKind.u64 0] 8 = [AV.int .u64 0, .int .u64 0, .int .u64 0, .int .u64 0, .int .u64 0, .int .u64 0, .int .u64 0, .int .u64 0] := rfl
    simp only [c5, c6, hwr, hz8, c11, c12, c13, c14, c15, c16, c17, c18, ↓gs2, nc8, x0, x1, x2, x3, x4, x5, x6, x7, u64_addw, ↓sxp, sxq, seval, evP, evX, evR, blkOf, evA, storeA, resL, resV, oneOrTup, noUnk, AV.cells, Cells.get, ↓bnd_assoc]
    have h4 := (h3.rm 1).rm 3
    refine Fin.of3 (ih (q + 1) (H2.next + 40) _ _ (s.add s') (by omega) (by simp only [c3, ↓sxp, sxq, seval, evP, evX, evR, blkOf, evA, storeA, resL, resV, oneOrTup, noUnk, AV.cells, Cells.get, ↓bnd_assoc]) (by simp only [c4, ↓sxp, sxq, seval, evP, evX, evR, blkOf, evA, storeA, resL, resV, oneOrTup, noUnk, AV.cells, Cells.get, ↓bnd_assoc]) (by simp only [↓sxp, sxq, seval, evP, evX, evR, blkOf, evA, storeA, resL, resV, oneOrTup, noUnk, AV.cells, Cells.get, ↓bnd_assoc]) (by simp only [↓sxp, sxq, seval, evP, evX, evR, blkOf, evA, storeA, resL, resV, oneOrTup, noUnk, AV.cells, Cells.get, ↓bnd_assoc]) h4) fun lv A' H' ⟨q1, q2, js', q3, q4⟩ => ⟨q1, q2.trans (by simp only [c2, ↓sxp, sxq, seval, evP, evX, evR, blkOf, evA, storeA, resL, resV, oneOrTup, noUnk, AV.cells, Cells.get, ↓bnd_assoc]), js', q3, ?_⟩
    have e : foldB ks (m + 1) s (M.drop (128 * q)) = foldB ks m (s.add s') (M.drop (128 * (q + 1))) := by
      rw [foldB, hpf, List.drop_drop, show 128 * q + 128 = 128 * (q + 1) from by omega]
    rw [e]; exact q4
theorem Fin.callX {α : Type} {P : α → Prop} {m : Option (AV × Heap)} {k : AV × Heap → Option α} (Q : AV → Heap → Prop) (h : ∃ v H', m = some (v, H') ∧ Q v H') (hk : ∀ v H', Q v H' → Fin P (k (v, H'))) : Fin P (bnd m k) := by
  obtain ⟨v, r, rfl, hr⟩ := h
  exact hk v r hr
theorem XH.any {bs : List UInt8} {v : AV} (h : XH H bs v Γ) : ∃ A, Holds H (A :: Γ) := by
  rcases h with h | ⟨j, _, _, h⟩
  · exact ⟨_, h⟩
  · exact ⟨_, h⟩
theorem c_told (hE : EnvS E) (h : Holds H Γ) : ∃ j H', go W E 66 [] H = some (.sl (some ⟨.own j, 0⟩) 80 (.exact 80), H') ∧ Holds H' (blk j (wl K80) 91 :: Γ) := by
  have h1 := h.push (c := wl K80) (t := 91)
  suffices hh : Fin (fun r : AV × Heap => r.1 = .sl (some ⟨.own H.next, 0⟩) 80 (.exact 80) ∧ Holds r.2 (blk H.next (wl K80) 91 :: Γ)) (go W E 66 [] H) by
    obtain ⟨⟨r, H'⟩, e, hr, q⟩ := hh
    simp only at hr
    subst hr
    exact ⟨_, H', e, q⟩
  rw [go_code hE.f66 (by simp [sf66])]
  simp only [sf66, ↓sxp, sxq, seval, evP, evX, evR, blkOf, storeA, resL, resV, oneOrTup, noUnk, AV.cells, Cells.get, ↓bnd_assoc]
  refine Fin.ev (v := (.cells (.lst (wl K80)) 91 none, .sl (some ⟨.own H.next, 0⟩) 80 (.exact 80))) (by kernel_rfl) ?_
  simp only [↓sxp, sxq, seval, evP, evX, evR, blkOf, storeA, resL, resV, oneOrTup, noUnk, AV.cells, Cells.get, ↓bnd_assoc]
  exact Fin.ret ⟨rfl, h1⟩
theorem c_dbegin (hE : EnvS E) (h : Holds H Γ) : ∃ j H', go W E 68 [] H = some (.sl (some ⟨.own j, 0⟩) 8 (.exact 8), H') ∧ Holds H' (blk j (wl S0.l) 91 :: Γ) := by
  have h1 := h.push (c := wl S0.l) (t := 91)
  suffices hh : Fin (fun r : AV × Heap => r.1 = .sl (some ⟨.own H.next, 0⟩) 8 (.exact 8) ∧ Holds r.2 (blk H.next (wl S0.l) 91 :: Γ)) (go W E 68 [] H) by
    obtain ⟨⟨r, H'⟩, e, hr, q⟩ := hh
    simp only at hr
    subst hr
    exact ⟨_, H', e, q⟩
  rw [go_code hE.f68 (by simp [sf68])]
  simp only [sf68, ↓sxp, sxq, seval, evP, evX, evR, blkOf, storeA, resL, resV, oneOrTup, noUnk, AV.cells, Cells.get, ↓bnd_assoc]
  refine Fin.ev (v := (.cells (.lst (wl S0.l)) 91 none, .sl (some ⟨.own H.next, 0⟩) 8 (.exact 8))) (by kernel_rfl) ?_
  simp only [↓sxp, sxq, seval, evP, evX, evR, blkOf, storeA, resL, resV, oneOrTup, noUnk, AV.cells, Cells.get, ↓bnd_assoc]
  exact Fin.ret ⟨rfl, h1⟩
theorem c_dsum (hE : EnvS E) {R : HP} {bs : List UInt8} {v : AV} (hR : RdLike W bs v R) (h0 : 0 < bs.length) (hl : bs.length < 60000) (h : Holds H (R :: Γ)) :
    ∃ H', go W E 53 [v] H = some (.agg (cb (sumF bs)), H') ∧ Holds H' (R :: Γ) := by
  apply Ends.out
  refine (show Fin (fun r : AV × Heap => r.1 = .agg (cb (sumF bs)) ∧ Holds r.2 (R :: Γ)) _ from ?_)
  have hlen := (hR h).len
  have h1 := h.push (c := z64) (t := 71)
  have hzz : [AV.int .u8 0, AV.int .u8 0, AV.int .u8 0, AV.int .u8 0, AV.int .u8 0, AV.int .u8 0, AV.int .u8 0, AV.int .u8 0, AV.int .u8 0, AV.int .u8 0, AV.int .u8 0, AV.int .u8 0, AV.int .u8 0, AV.int .u8 0, AV.int .u8 0, AV.int .u8 0, AV.int .u8 0, AV.int .u8 0, AV.int .u8 0, AV.int .u8 0, AV.int .u8 0, AV.int .u8 0, AV.int .u8 0, AV.int .u8 0, AV.int .u8 0, AV.int .u8 0, AV.int .u8 0, AV.int .u8 0, AV.int .u8 0, AV.int .u8 0, AV.int .u8 0, AV.int .u8 0, AV.int .u8 0, AV.int .u8 0, AV.int .u8 0, AV.int .u8 0, AV.int .u8 0, AV.int .u8 0, AV.int .u8 0, AV.int .u8 0, AV.int .u8 0, AV.int .u8 0, AV.int .u8 0, AV.int .u8 0, AV.int .u8 0, AV.int .u8 0, AV.int .u8 0, AV.int .u8 0, AV.int .u8 0, AV.int .u8 0, AV.int .u8 0, AV.int .u8 0, AV.int .u8 0, AV.int .u8 0, AV.int .u8 0, AV.int .u8 0, AV.int .u8 0, AV.int .u8 0, AV.int .u8 0, AV.int .u8 0, AV.int .u8 0, AV.int .u8 0, AV.int .u8 0, AV.int .u8 0] = z64 := rfl
  rw [go_code hE.f53 (by simp [sf53])]
  simp only [sf53, hzz, ↓sxp, sxq, seval, evP, evX, evR, blkOf, evA, storeA, resL, resV, oneOrTup, noUnk, AV.cells, Cells.get, ↓bnd_assoc]
  generalize H.next = b2 at *
  refine Fin.callE (fun j : Nat => .sl (some ⟨.own j, 0⟩) 80 (.exact 80)) (fun j => blk j (wl K80) 91 :: blk b2 z64 71 :: R :: Γ) (c_told hE h1) fun jk H2 h2 => ?_
  have hks : K80.length = 80 := rfl
  have hsum : sumF bs = bytesL (foldB K80 ((bs ++ padF bs.length).length / 128) S0 (bs ++ padF bs.length)).l := rfl
  rw [hsum]
  generalize K80 = ks at *
  simp only [↓sxp, sxq, seval, evP, evX, evR, blkOf, evA, storeA, resL, resV, oneOrTup, noUnk, AV.cells, Cells.get, ↓bnd_assoc]
  refine Fin.app (h2.row_nil) (by omega) ((hR (h2.ord [2])).src) h0 (by rw [cb_len, Nat.mul_one]) (cb_one bs) (n := 0) rfl (by omega) fun v1 H3 h3 => ?_
  rw [List.nil_append] at h3
  simp only [hlen, ↓sxp, sxq, seval, evP, evX, evR, blkOf, evA, storeA, resL, resV, oneOrTup, noUnk, AV.cells, Cells.get, ↓bnd_assoc]
  refine Fin.callX (fun o H4 => XH H4 (padF bs.length) o (row 5 1 (cb bs) v1 :: blk jk (wl ks) 91 :: blk b2 z64 71 :: R :: Γ)) (c_dpad hE (by omega) h3) fun o H4 h4 => ?_
  have hpl : (padF bs.length).length ≤ 400 ∧ 0 < (padF bs.length).length := by
    unfold padF
    rw [List.length_cons, List.length_append, List.length_replicate, bytesN_len]; omega
  have hpm := padF_len bs.length
  obtain ⟨C, h5⟩ := h4.any
  refine Fin.app (h5.ord [1]) (by omega) h4.src hpl.2 (by rw [cb_len, Nat.mul_one]) (cb_one _) (n := bs.length) (by rw [cb_len, Nat.mul_one]) (by omega) fun v2 H6 h6 => ?_
  rw [← cb_app] at h6
  have hMl : (bs ++ padF bs.length).length = 128 * (0 + (bs ++ padF bs.length).length / 128) := by
    rw [List.length_append] at *; omega
  have hMl2 : (bs ++ padF bs.length).length < 65536 := by rw [List.length_append]; omega
  generalize bs ++ padF bs.length = M at *
  simp only [↓sxp, sxq, seval, evP, evX, evR, blkOf, evA, storeA, resL, resV, oneOrTup, noUnk, AV.cells, Cells.get, ↓bnd_assoc]
  refine Fin.callE (fun j : Nat => .sl (some ⟨.own j, 0⟩) 8 (.exact 8)) (fun j => blk j (wl S0.l) 91 :: blk jk (wl ks) 91 :: row 5 1 (cb M) v2 :: blk b2 z64 71 :: R :: Γ) (c_dbegin hE ((h6.rm 1).ord [1])) fun js H7 h7 => ?_
  simp only [↓sxp, sxq, seval, evP, evX, evR, blkOf, evA, storeA, resL, resV, oneOrTup, noUnk, AV.cells, Cells.get, ↓bnd_assoc]
  refine Fin.loop (db_loop hE hks (jk := jk) (M := M) (vm := v2) hMl2 (M.length / 128) 0 js _ _ S0 hMl (by simp only [↓sxp, sxq, seval, evP, evX, evR, blkOf, evA, storeA, resL, resV, oneOrTup, noUnk, AV.cells, Cells.get, ↓bnd_assoc]) (by simp only [↓sxp, sxq, seval, evP, evX, evR, blkOf, evA, storeA, resL, resV, oneOrTup, noUnk, AV.cells, Cells.get, ↓bnd_assoc]) (by simp only [↓sxp, sxq, seval, evP, evX, evR, blkOf, evA, storeA, resL, resV, oneOrTup, noUnk, AV.cells, Cells.get, ↓bnd_assoc]) (by simp only [↓sxp, sxq, seval, evP, evX, evR, blkOf, evA, storeA, resL, resV, oneOrTup, noUnk, AV.cells, Cells.get, ↓bnd_assoc] <;> rfl) h7) fun lv A H8 ⟨e1, a2, js', a5, h8⟩ => ?_
  subst e1
  have a2' : getX A 2 = .ptr (some ⟨.own b2, 0⟩) := a2.trans (by simp only [↓sxp, sxq, seval, evP, evX, evR, blkOf, evA, storeA, resL, resV, oneOrTup, noUnk, AV.cells, Cells.get, ↓bnd_assoc])
  rw [Nat.mul_zero, List.drop_zero] at h8
  generalize foldB ks (M.length / 128) S0 M = sf at *
  have h9 := h8.push (c := z64) (t := 71)
  simp only [↓sxp, sxq, seval, evP, evX, evR, blkOf, evA, storeA, resL, resV, oneOrTup, noUnk, AV.cells, Cells.get, ↓bnd_assoc]
  generalize H8.next = b22 at *
  refine Fin.loop (do_loop0 (js := js') (j22 := b22) (ws := sf.l) rfl 8 0 _ _ (by omega) (by simp only [a5, ↓sxp, sxq, seval, evP, evX, evR, blkOf, evA, storeA, resL, resV, oneOrTup, noUnk, AV.cells, Cells.get, ↓bnd_assoc]) (by simp only [↓sxp, sxq, seval, evP, evX, evR, blkOf, evA, storeA, resL, resV, oneOrTup, noUnk, AV.cells, Cells.get, ↓bnd_assoc]) (by simp only [↓sxp, sxq, seval, evP, evX, evR, blkOf, evA, storeA, resL, resV, oneOrTup, noUnk, AV.cells, Cells.get, ↓bnd_assoc] <;> rfl) h9) fun lv A2 H10 ⟨e1, c2, c22, h10⟩ => ?_
  subst e1
  have c2' : getX A2 2 = .ptr (some ⟨.own b2, 0⟩) := c2.trans (by simp only [a2', ↓sxp, sxq, seval, evP, evX, evR, blkOf, evA, storeA, resL, resV, oneOrTup, noUnk, AV.cells, Cells.get, ↓bnd_assoc])
  have c22' : getX A2 22 = .ptr (some ⟨.own b22, 0⟩) := c22.trans (by simp only [↓sxp, sxq, seval, evP, evX, evR, blkOf, evA, storeA, resL, resV, oneOrTup, noUnk, AV.cells, Cells.get, ↓bnd_assoc])
  have hbl : (bytesL sf.l).length = 64 := bytesL_len sf.l
  generalize bytesL sf.l = ob at *
  have g10 := h10.get
  have hg64 : Cells.getN (.lst (cb ob)) 0 64 = some (cb ob) := by
    have := getN_all (cb ob)
    rw [cb_len, hbl] at this; exact this
  have hl64 : (cb ob).length = 64 := by rw [cb_len, hbl]
  simp only [c2', c22', ↓g10, ↓hg64, hl64, ↓sxp, sxq, seval, evP, evX, evR, blkOf, evA, storeA, resL, resV, oneOrTup, noUnk, AV.cells, Cells.get, ↓bnd_assoc]
  refine Fin.write (cb ob) (h10.ord [2]) (setN_all (by rw [hl64]; rfl)) (by rw [hl64]; exact Nat.le_refl _) (cb_one ob) fun H15 h15 => ?_
  have g15 := h15.get
  simp only [c2', ↓g15, ↓hg64, ↓sxp, sxq, seval, evP, evX, evR, blkOf, evA, storeA, resL, resV, oneOrTup, noUnk, AV.cells, Cells.get, ↓bnd_assoc]
  exact Fin.ret ⟨rfl, h15.tail.tail.tail⟩
end
end Go.Proofs.YtjfnhdiimibmiaaDoor.Sx

/- Numbers as bytes. -/
namespace Go.Proofs.YtjfnhdiimibmiaaDoor.Sx
open HP
/-- The lowest m bytes, the lowest first. -/
def lowN (m n : Nat) : List UInt8 := (List.range m).map fun i => byteAt n i
theorem lowN_len (m n : Nat) : (lowN m n).length = m := by simp [lowN]
theorem lowN_succ (m n : Nat) : lowN (m + 1) n = lowN m n ++ [byteAt n m] := by simp [lowN, List.range_succ]
theorem lowN_rev : ∀ m n : Nat, (lowN m n).reverse = bytesN m n := by
  intro m n
  induction m with
  | zero => rfl
  | succ m ih => rw [lowN_succ, List.reverse_append, bytesN, ← ih]; rfl
section
variable {W : World} {E : Env} {H : Heap} {Γ : List HP}
theorem mksl_bytes {A : Tm} {id n : Nat} {x y : SX} (hx : evX A x = .int .i64 (n : Int)) (hy : evX A y = .int .i64 (n : Int)) (hn : n < 256) :
    evA A id (.mksl 5 1 1 [.int .u8 0] x y) = some (.cells (.lst (cb (List.replicate n 0))) 5 none, .sl (some ⟨.own id, 0⟩) n (.exact n)) := by
  have hz : zerosL [AV.int .u8 0] n = cb (List.replicate n 0) := by
    have : ∀ k, (List.replicate k [AV.int .u8 0]).flatten = cb (List.replicate k 0) := by
      intro k
      induction k with
      | zero => rfl
      | succ k ih => rw [List.replicate_succ, List.flatten_cons, ih, List.replicate_succ]; rfl
    exact this n
  simp only [evA, hx, hy]
  rw [if_pos (by refine ⟨by omega, by omega, by omega, by omega, rfl, by omega⟩)]
  simp only [mkCells, Int.toNat_natCast]
  rw [if_pos (by simp; omega), hz]
theorem i_shr (n k : Nat) (hk : k < 64) : bin .shr (.int .i64 (n : Int)) (.int .u64 (k : Int)) = some (.int .i64 ((n / 2 ^ k : Nat) : Int)) := by
  simp only [bin, shiftI, Int.toNat_natCast]
  rw [if_neg (by omega)]
  have hb : IntKind.i64.bits = 64 := rfl
  rw [hb, Nat.min_eq_left (by omega), pow2_cast, Int.fdiv_eq_ediv_of_nonneg _ (Int.natCast_nonneg _), ← Int.natCast_ediv]
theorem low_loop {n jb sz : Nat} (hsz : sz ≤ 8) {df : List Nat} : ∀ (m i : Nat) (A : Tm) (H : Heap), i + m = sz → getX A 0 = .int .i64 n → getX A 6 = .sl (some ⟨.own jb, 0⟩) sz (.exact sz) → getX A 37 = .int .i64 sz → getX A 38 = .int .i64 i → Holds H (blk jb (cb (lowN i n ++ List.replicate m 0)) 5 :: Γ) →
    ∃ lv A' H', run W E (.loop lp29_0) ⟨A, df, none⟩ H = some (lv, ⟨A', df, none⟩, H') ∧ (lv = .exit 0 ∧ getX A' 6 = getX A 6 ∧ Holds H' (blk jb (cb (lowN sz n)) 5 :: Γ)) := by
  have hlp : ∀ f H, run W E lp29_0 f H = run W E lp29_0 f H := fun _ _ => rfl
  conv at hlp => enter [f, H, 2]; unfold lp29_0
  intro m
  induction m with
  | zero =>
    intro i A H him a0 a6 a37 a38 h
    have : i = sz := by omega
    subst this
    have hlt : ¬ (i : Int) < i := by omega
    rw [run_loop]
    simp only [hlp, a37, a38, hlt, ↓sxp, sxq, seval, evP, evX, evR, blkOf, evA, storeA, resL, resV, oneOrTup, noUnk, AV.cells, Cells.get, ↓bnd_assoc]
    exact ⟨_, _, _, rfl, rfl, by simp only [↓sxp, sxq, seval, evP, evX, evR, blkOf, evA, storeA, resL, resV, oneOrTup, noUnk, AV.cells, Cells.get, ↓bnd_assoc], by rw [List.replicate_zero, List.append_nil] at h; exact h⟩
  | succ m ih =>
    intro i A H him a0 a6 a37 a38 h
    have hlt : (i : Int) < sz := by omega
    have hwr : IntKind.i64.wrap ((i : Int) + 1) = ((i + 1 : Nat) : Int) := by rw [w64 (by omega)]; simp
    have m1 : IntKind.i64.wrap (8 * (i : Int)) = ((8 * i : Nat) : Int) := by rw [w64 (by omega)]; omega
    have m2 : IntKind.u64.wrap ((8 * i : Nat) : Int) = ((8 * i : Nat) : Int) := by rw [wrap_u64']; omega
    have m3 := i_shr n (8 * i) (by omega)
    have m4 : IntKind.u8.wrap ((n / 2 ^ (8 * i) : Nat) : Int) = ((byteAt n i).toNat : Int) := by rw [wrap_u8', Nat.pow_mul]; rfl
    have hset : (cb (lowN i n ++ List.replicate (m + 1) 0)).set i (.int .u8 (byteAt n i).toNat) = cb (lowN (i + 1) n ++ List.replicate m 0) := by
      rw [lowN_succ, List.replicate_succ]
      have := set_mid (cb (lowN i n)) (.int .u8 ((0 : UInt8).toNat)) (.int .u8 (byteAt n i).toNat) (cb (List.replicate m 0))
      rw [cb_len, lowN_len] at this
      simp only [cb, List.map_append, List.map_cons, List.map_nil, List.append_assoc, List.cons_append, List.nil_append] at this ⊢
      exact this
    apply Fin.ex3
    rw [run_loop]
    generalize hg8 : (8 * i : Nat) = i8 at *
    simp only [hlp, a0, a6, a37, a38, hlt, m1, m2, m3, m4, Int.natCast_nonneg, and_self, Int.toNat_natCast, ↓sxp, sxq, seval, evP, evX, evR, blkOf, evA, storeA, resL, resV, oneOrTup, noUnk, AV.cells, Cells.get, ↓bnd_assoc]
    refine Fin.write (cb (lowN (i + 1) n ++ List.replicate m 0)) h (by simp only [Cells.setN, Cells.set, hset]) (by rw [cb_len, List.length_append, lowN_len, List.length_replicate]; simp) rfl fun H4 h4 => ?_
    simp only [a38, hwr, ↓sxp, sxq, seval, evP, evX, evR, blkOf, evA, storeA, resL, resV, oneOrTup, noUnk, AV.cells, Cells.get, ↓bnd_assoc]
    exact Fin.of3 (ih (i + 1) _ _ (by omega) (by simp only [a0, ↓sxp, sxq, seval, evP, evX, evR, blkOf, evA, storeA, resL, resV, oneOrTup, noUnk, AV.cells, Cells.get, ↓bnd_assoc]) (by simp only [a6, ↓sxp, sxq, seval, evP, evX, evR, blkOf, evA, storeA, resL, resV, oneOrTup, noUnk, AV.cells, Cells.get, ↓bnd_assoc]) (by simp only [a37, ↓sxp, sxq, seval, evP, evX, evR, blkOf, evA, storeA, resL, resV, oneOrTup, noUnk, AV.cells, Cells.get, ↓bnd_assoc]) (by simp only [↓sxp, sxq, seval, evP, evX, evR, blkOf, evA, storeA, resL, resV, oneOrTup, noUnk, AV.cells, Cells.get, ↓bnd_assoc]) h4) fun lv A' H' ⟨q1, q2, q3⟩ => ⟨q1, q2.trans (by simp only [a6, ↓sxp, sxq, seval, evP, evX, evR, blkOf, evA, storeA, resL, resV, oneOrTup, noUnk, AV.cells, Cells.get, ↓bnd_assoc]), q3⟩
structure EnvW (E : Env) : Prop extends EnvS E where
  f6 : E 6 = some (.code sf6)
  f7 : E 7 = some (.code sf7)
  f8 : E 8 = some (.code sf8)
  f9 : E 9 = some (.code sf9)
  f10 : E 10 = some (.code sf10)
  f11 : E 11 = some (.code sf11)
  f12 : E 12 = some (.code sf12)
  f17 : E 17 = some (.code sf17)
  f18 : E 18 = some (.code sf18)
  f19 : E 19 = some (.code sf19)
  f20 : E 20 = some (.code sf20)
  f21 : E 21 = some (.code sf21)
  f22 : E 22 = some (.code sf22)
  f23 : E 23 = some (.code sf23)
  f24 : E 24 = some (.code sf24)
  f29 : E 29 = some (.code sf29)
  f30 : E 30 = some (.code sf30)
  f31 : E 31 = some (.code sf31)
  f32 : E 32 = some (.code sf32)
  f33 : E 33 = some (.code sf33)
  f34 : E 34 = some (.code sf34)
  f35 : E 35 = some (.code sf35)
  f36 : E 36 = some (.code sf36)
  f37 : E 37 = some (.code sf37)
  f38 : E 38 = some (.code sf38)
  f46 : E 46 = some (.code sf46)
  f47 : E 47 = some (.code sf47)
  f48 : E 48 = some (.code sf48)
  f50 : E 50 = some (.code sf50)
  f51 : E 51 = some (.code sf51)
theorem c_low (hE : EnvW E) {n sz : Nat} (h1 : 1 ≤ sz) (h8 : sz ≤ 8) (hn : n < 256 ^ sz) (hn2 : n < 4611686018427387904) (h : Holds H Γ) :
    ∃ j H', go W E 29 [.int .i64 (n : Int), .int .i64 (sz : Int)] H = some (.tup [.sl (some ⟨.own j, 0⟩) sz (.exact sz), .int .i64 0], H') ∧ Holds H' (blk j (cb (lowN sz n)) 5 :: Γ) := by
  suffices hh : Fin (fun r : AV × Heap => ∃ j, r.1 = .tup [.sl (some ⟨.own j, 0⟩) sz (.exact sz), .int .i64 0] ∧ Holds r.2 (blk j (cb (lowN sz n)) 5 :: Γ)) (go W E 29 [.int .i64 (n : Int), .int .i64 (sz : Int)] H) by
    obtain ⟨⟨r, H'⟩, e, j, hr, q⟩ := hh
    simp only at hr
    subst hr
    exact ⟨j, H', e, q⟩
  have b1 : ¬ (sz : Int) < 1 := by omega
  have b2 : ¬ (8 : Int) < sz := by omega
  have b3 : ¬ (n : Int) < 0 := by omega
  have b4 : ¬ (4611686018427387904 : Int) < n := by omega
  have m1 : IntKind.i64.wrap (8 * (sz : Int)) = ((8 * sz : Nat) : Int) := by rw [w64 (by omega)]; omega
  have m2 : IntKind.u64.wrap ((8 * sz : Nat) : Int) = ((8 * sz : Nat) : Int) := by rw [wrap_u64']; omega
  have h2 := h.push (c := cb (List.replicate sz 0)) (t := 5)
  rw [go_code hE.f29 (by simp [sf29])]
  have h256 : sz < 256 := by omega
  have fin : ∀ (A : Tm) (j : Nat) (H : Heap) (k : Lv × Fr × Heap → Option (AV × Heap)), getX A 0 = .int .i64 n → getX A 6 = .sl (some ⟨.own j, 0⟩) sz (.exact sz) → getX A 37 = .int .i64 sz → getX A 38 = .int .i64 0 → Holds H (blk j (cb (List.replicate sz 0)) 5 :: Γ) →
      (∀ A' H', getX A' 6 = .sl (some ⟨.own j, 0⟩) sz (.exact sz) → Holds H' (blk j (cb (lowN sz n)) 5 :: Γ) → Fin (fun r : AV × Heap => ∃ j, r.1 = .tup [.sl (some ⟨.own j, 0⟩) sz (.exact sz), .int .i64 0] ∧ Holds r.2 (blk j (cb (lowN sz n)) 5 :: Γ)) (k (.exit 0, ⟨A', [], none⟩, H'))) →
      Fin (fun r : AV × Heap => ∃ j, r.1 = .tup [.sl (some ⟨.own j, 0⟩) sz (.exact sz), .int .i64 0] ∧ Holds r.2 (blk j (cb (lowN sz n)) 5 :: Γ)) (bnd (run W E (.loop lp29_0) ⟨A, [], none⟩ H) k) := fun A j H k a0 a6 a37 a38 hh hk => by
    refine Fin.loop (low_loop (n := n) (jb := j) (sz := sz) h8 sz 0 A H (by omega) a0 a6 a37 a38 hh) fun lv A' H' ⟨e1, b6, h3⟩ => ?_
    subst e1
    exact hk A' H' (b6.trans a6) h3
  by_cases hs : (sz : Int) < 8
  · have m3 : bin .shr (.int .i64 (n : Int)) (.int .u64 ((8 * sz : Nat) : Int)) = some (.int .i64 0) := by
      have := i_shr n (8 * sz) (by omega)
      rw [this, Nat.pow_mul, Nat.div_eq_of_lt hn]; rfl
    generalize hg8 : (8 * sz : Nat) = i8 at *
    simp only [sf29, b1, b2, b3, b4, hs, m1, m2, m3, h256, ↓mksl_bytes (n := sz), ↓sxp, sxq, seval, evP, evX, evR, blkOf, evA, storeA, resL, resV, oneOrTup, noUnk, AV.cells, Cells.get, ↓bnd_assoc]
    refine fin _ _ _ _ (by simp only [↓sxp, sxq, seval, evP, evX, evR, blkOf, evA, storeA, resL, resV, oneOrTup, noUnk, AV.cells, Cells.get, ↓bnd_assoc]) (by simp only [↓sxp, sxq, seval, evP, evX, evR, blkOf, evA, storeA, resL, resV, oneOrTup, noUnk, AV.cells, Cells.get, ↓bnd_assoc]) (by simp only [↓sxp, sxq, seval, evP, evX, evR, blkOf, evA, storeA, resL, resV, oneOrTup, noUnk, AV.cells, Cells.get, ↓bnd_assoc]) (by simp only [↓sxp, sxq, seval, evP, evX, evR, blkOf, evA, storeA, resL, resV, oneOrTup, noUnk, AV.cells, Cells.get, ↓bnd_assoc]) h2 fun A' H' a6 h3 => ?_
    simp only [a6, ↓sxp, sxq, seval, evP, evX, evR, blkOf, evA, storeA, resL, resV, oneOrTup, noUnk, AV.cells, Cells.get, ↓bnd_assoc]
    exact Fin.ret ⟨_, rfl, h3⟩
  · simp only [sf29, b1, b2, b3, b4, hs, h256, ↓mksl_bytes (n := sz), ↓sxp, sxq, seval, evP, evX, evR, blkOf, evA, storeA, resL, resV, oneOrTup, noUnk, AV.cells, Cells.get, ↓bnd_assoc]
    refine fin _ _ _ _ (by simp only [↓sxp, sxq, seval, evP, evX, evR, blkOf, evA, storeA, resL, resV, oneOrTup, noUnk, AV.cells, Cells.get, ↓bnd_assoc]) (by simp only [↓sxp, sxq, seval, evP, evX, evR, blkOf, evA, storeA, resL, resV, oneOrTup, noUnk, AV.cells, Cells.get, ↓bnd_assoc]) (by simp only [↓sxp, sxq, seval, evP, evX, evR, blkOf, evA, storeA, resL, resV, oneOrTup, noUnk, AV.cells, Cells.get, ↓bnd_assoc]) (by simp only [↓sxp, sxq, seval, evP, evX, evR, blkOf, evA, storeA, resL, resV, oneOrTup, noUnk, AV.cells, Cells.get, ↓bnd_assoc]) h2 fun A' H' a6 h3 => ?_
    simp only [a6, ↓sxp, sxq, seval, evP, evX, evR, blkOf, evA, storeA, resL, resV, oneOrTup, noUnk, AV.cells, Cells.get, ↓bnd_assoc]
    exact Fin.ret ⟨_, rfl, h3⟩
end
end Go.Proofs.YtjfnhdiimibmiaaDoor.Sx

/- Numbers as bytes, turned round. -/
namespace Go.Proofs.YtjfnhdiimibmiaaDoor.Sx
open HP
section
variable {W : World} {E : Env} {H : Heap} {Γ : List HP}
/-- Writing into a row. -/
theorem Row.wr (hw : HWf H) {ty es j off n : Nat} {flat : List AV} {x : AV} {c : Cap} {ids : List Nat} (r : Row H ty es flat (.sl (some ⟨.own j, 0⟩) n c) ids) (ho : off < flat.length) (hx : oneC x = true) :
    ∃ H', H.write j off [x] = some H' ∧ Row H' ty es (flat.set off x) (.sl (some ⟨.own j, 0⟩) n c) ids ∧ Keep ids H H' := by
  cases r with
  | mk h0 hl hg hln =>
    rename_i l fl
    have hj := hw.lt hg
    have hl2 := hw.line_lt hg
    refine ⟨{ H with objs := H.objs.set j (.cells (.lst (flat.set off x)) ty (some l)), lines := H.lines.set l (j, j) }, ?_, ?_, ?_⟩
    · simp only [Heap.write, hg, hln, if_true, Cells.size, List.all_cons, List.all_nil, hx, Bool.and_self, List.length_cons, List.length_nil]
      rw [if_pos ⟨by omega, trivial⟩]
      rfl
    · refine .mk (fl := j) h0 (by rw [List.length_set]; exact hl) ?_ (by simp [Tr.get_set])
      simp [Heap.get, Tr.get_set]
    · refine ⟨Nat.le_refl _, fun i hi hn => ?_, fun i hi hn => ?_, hw.set (Nat.le_refl _) hj (fun l' e => by cases e; exact .inr (hw.root j _ _ l (Heap.get_of_objs hg)))⟩
      · simp only [Tr.get_set]; rw [if_neg (fun e => hn (by simp [e]))]
      · simp only [Tr.get_set]; rw [if_neg (fun e => hn (by simp [e]))]
theorem Holds.rwr {ty es j off n : Nat} {flat : List AV} {x : AV} {c : Cap} (h : Holds H (row ty es flat (.sl (some ⟨.own j, 0⟩) n c) :: Γ)) (ho : off < flat.length) (hx : oneC x = true) :
    ∃ H', H.write j off [x] = some H' ∧ Holds H' (row ty es (flat.set off x) (.sl (some ⟨.own j, 0⟩) n c) :: Γ) := by
  obtain ⟨fp, f, g, a, b, e, d⟩ := h.a
  obtain ⟨H', e1, r, k⟩ := Row.wr h.wf a ho hx
  refine ⟨H', e1, h.step fun fp2 hp => ?_⟩
  obtain ⟨H2, e2, r2, k2⟩ := Row.wr h.wf hp ho hx
  rw [e1] at e2
  cases e2
  exact ⟨fp2, r2, k2, fun i hi => .inl hi⟩
theorem Fin.rwr {α : Type} {R : α → Prop} {k : Heap → Option α} {ty es j off n : Nat} {flat : List AV} {x : AV} {c : Cap} (h : Holds H (row ty es flat (.sl (some ⟨.own j, 0⟩) n c) :: Γ)) (ho : off < flat.length) (hx : oneC x = true)
    (hk : ∀ H', Holds H' (row ty es (flat.set off x) (.sl (some ⟨.own j, 0⟩) n c) :: Γ) → Fin R (k H')) : Fin R (bnd (H.write j off [x]) k) := by
  obtain ⟨H', e, h'⟩ := h.rwr ho hx
  rw [e, bnd_some]
  exact hk _ h'
/-- Appending to an empty list that is not nil. -/
theorem Holds.eadd {j ty bytes k : Nat} {t : TypeId} {new : List AV} (h : Holds H (blk j [] t :: Γ)) (hk : 0 < k) (hl : new.length = k) (h1 : new.all oneC = true) (hb : k * bytes ≤ 140737488355328) :
    ∃ v' H', appN W H ty 1 bytes (.sl (some ⟨.own j, 0⟩) 0 (.exact 0)) k new = some (v', H') ∧ Holds H' (row ty 1 new v' :: blk j [] t :: Γ) := by
  have e0 : appN W H ty 1 bytes (.sl (some ⟨.own j, 0⟩) 0 (.exact 0)) k new = appN W H ty 1 bytes (.sl none 0 (.exact 0)) k new := by
    simp only [appN, blkOf, h.get, Nat.zero_mul, Cells.getN]
    rw [if_neg (by omega), if_neg (by omega), if_pos ⟨trivial, trivial⟩, if_neg (by omega), Nat.zero_add]
  rw [e0]
  have := (h.row_nil (ty := ty) (es := 1)).addN (W := W) (bytes := bytes) (k := k) (new := new) (n := 0) (by omega) hk (by rw [hl, Nat.mul_one]) h1 rfl (by rw [Nat.zero_add]; exact hb)
  rw [List.nil_append] at this
  exact this
theorem cb_get {L : List UInt8} {i : Nat} (h : i < L.length) : (cb L)[i]? = some (.int .u8 (L.getD i 0).toNat) := by
  simp [List.getElem?_eq_getElem h, List.getD_eq_getElem?_getD]
theorem cb_set (L : List UInt8) (i : Nat) (b : UInt8) : (cb L).set i (.int .u8 b.toNat) = cb (L.set i b) := List.map_set.symm
/-- So many swaps are done. -/
def Swp (L : List UInt8) (i : Nat) (L' : List UInt8) : Prop := L'.length = L.length ∧ ∀ k, k < L.length → L'.getD k 0 = if k < i ∨ L.length - 1 - i < k then L.getD (L.length - 1 - k) 0 else L.getD k 0
theorem bD_set (L : List UInt8) (i k : Nat) (b : UInt8) (hi : i < L.length) : (L.set i b).getD k 0 = if k = i then b else L.getD k 0 := by
  simp only [List.getD_eq_getElem?_getD, List.getElem?_set]
  by_cases e : i = k
  · subst e; rw [if_pos rfl, if_pos hi, if_pos rfl]; rfl
  · rw [if_neg e, if_neg (fun h => e h.symm)]
theorem Swp.step {L L' : List UInt8} {i : Nat} (h : Swp L i L') (hi : i < L.length - 1 - i) : Swp L (i + 1) ((L'.set i (L'.getD (L.length - 1 - i) 0)).set (L.length - 1 - i) (L'.getD i 0)) := by
  obtain ⟨h1, h2⟩ := h
  refine ⟨by simp [h1], fun k hk => ?_⟩
  rw [bD_set _ _ _ _ (by simp; omega), bD_set _ _ _ _ (by omega)]
  by_cases e1 : k = L.length - 1 - i
  · subst e1
    rw [if_pos rfl, h2 i (by omega), if_neg (by omega), if_pos (by omega), show L.length - 1 - (L.length - 1 - i) = i from by omega]
  · rw [if_neg e1]
    by_cases e2 : k = i
    · subst e2
      rw [if_pos rfl, h2 _ (by omega), if_neg (by omega), if_pos (by omega)]
    · rw [if_neg e2, h2 k hk]
      by_cases e3 : k < i ∨ L.length - 1 - i < k
      · rw [if_pos e3, if_pos (by omega)]
      · rw [if_neg e3, if_neg (by omega)]
theorem Swp.done {L L' : List UInt8} {i : Nat} (h : Swp L i L') (hi : L.length - 1 - i ≤ i) : L' = L.reverse := by
  obtain ⟨h1, h2⟩ := h
  apply List.ext_getElem (by rw [h1, List.length_reverse])
  intro k hk hk2
  rw [h1] at hk
  have := h2 k hk
  rw [List.getElem_reverse]
  have e1 : L'.getD k 0 = L'[k] := by rw [List.getD_eq_getElem?_getD, List.getElem?_eq_getElem (by omega)]; rfl
  have e2 : L.getD (L.length - 1 - k) 0 = L[L.length - 1 - k]'(by omega) := by rw [List.getD_eq_getElem?_getD, List.getElem?_eq_getElem (by omega)]; rfl
  rw [← e1, this, ← e2]
  split
  · rfl
  · rw [show L.length - 1 - k = k from by omega]
theorem rev_loop {L : List UInt8} {j n : Nat} (hn : L.length = n) (hn0 : 0 < n) (hn1 : n < 65536) {c : Cap} {df : List Nat} : ∀ (m i : Nat) (A : Tm) (H : Heap) (L' : List UInt8), i + m = n → 2 * i ≤ n → Swp L i L' → getX A 0 = .sl (some ⟨.own j, 0⟩) n c → getX A 2 = .int .i64 i → getX A 3 = .int .i64 ((n : Int) - 1 - i) → Holds H (row 5 1 (cb L') (.sl (some ⟨.own j, 0⟩) n c) :: Γ) →
    ∃ lv A' H', run W E (.loop lp47_0) ⟨A, df, none⟩ H = some (lv, ⟨A', df, none⟩, H') ∧ (lv = .exit 0 ∧ Holds H' (row 5 1 (cb L.reverse) (.sl (some ⟨.own j, 0⟩) n c) :: Γ)) := by
  have hlp : ∀ f H, run W E lp47_0 f H = run W E lp47_0 f H := fun _ _ => rfl
  conv at hlp => enter [f, H, 2]; unfold lp47_0
  intro m
  induction m with
  | zero => intro i A H L' him hle; omega
  | succ m ih =>
    intro i A H L' him hle hs a0 a2 a3 h
    have a3' : getX A 3 = .int .i64 ((n - 1 - i : Nat) : Int) := by rw [a3]; congr 1; omega
    by_cases hd : i < n - 1 - i
    · have hlt : (i : Int) < ((n - 1 - i : Nat) : Int) := by omega
      have w1 : IntKind.i64.wrap ((i : Int) + 1) = ((i + 1 : Nat) : Int) := by rw [w64 (by omega)]; simp
      have w2 : IntKind.i64.wrap (((n - 1 - i : Nat) : Int) - 1) = (n : Int) - 1 - ((i + 1 : Nat) : Int) := by rw [w64 (by omega)]; omega
      have i1 : (i : Int) < (n : Int) := by omega
      have i2 : ((n - 1 - i : Nat) : Int) < (n : Int) := by omega
      have hl' := hs.1
      have x1 := cb_get (show i < L'.length by omega)
      have x2 := cb_get (show n - 1 - i < L'.length by omega)
      obtain ⟨j2, l2, c2, ev, g⟩ := h.row_get (by omega) (n := n) (by rw [cb_len]; omega) hn0
      cases ev
      have gb : ({ H with next := H.next + 16 } : Heap).get j = H.get j := get_nextH
      rw [g] at gb
      apply Fin.ex3
      rw [run_loop]
      simp only [hlp, a0, a2, a3', hlt, i1, i2, Int.natCast_nonneg, and_self, ↓gb, x1, x2, Int.toNat_natCast, ↓sxp, sxq, seval, evP, evX, evR, blkOf, evA, storeA, resL, resV, oneOrTup, noUnk, AV.cells, Cells.get, ↓bnd_assoc]
      refine Fin.rwr (h.bump 16) (by rw [cb_len]; omega) rfl fun H2 h2 => ?_
      rw [cb_set] at h2
      refine Fin.rwr h2 (by rw [cb_len]; simp; omega) rfl fun H3 h3 => ?_
      rw [cb_set] at h3
      simp only [a2, a3', w1, w2, ↓sxp, sxq, seval, evP, evX, evR, blkOf, evA, storeA, resL, resV, oneOrTup, noUnk, AV.cells, Cells.get, ↓bnd_assoc]
      have hstep := hs.step (by omega)
      rw [hn] at hstep
      exact Fin.of3 (ih (i + 1) _ _ _ (by omega) (by omega) hstep (by simp only [a0, ↓sxp, sxq, seval, evP, evX, evR, blkOf, evA, storeA, resL, resV, oneOrTup, noUnk, AV.cells, Cells.get, ↓bnd_assoc]) (by simp only [↓sxp, sxq, seval, evP, evX, evR, blkOf, evA, storeA, resL, resV, oneOrTup, noUnk, AV.cells, Cells.get, ↓bnd_assoc]) (by simp only [↓sxp, sxq, seval, evP, evX, evR, blkOf, evA, storeA, resL, resV, oneOrTup, noUnk, AV.cells, Cells.get, ↓bnd_assoc]) h3) fun _ _ _ q => q
    · have hlt : ¬ (i : Int) < ((n - 1 - i : Nat) : Int) := by omega
      rw [run_loop]
      simp only [hlp, a0, a2, a3', hlt, ↓sxp, sxq, seval, evP, evX, evR, blkOf, evA, storeA, resL, resV, oneOrTup, noUnk, AV.cells, Cells.get, ↓bnd_assoc]
      have e := hs.done (by omega)
      subst e
      exact ⟨_, _, _, rfl, rfl, h⟩
end
end Go.Proofs.YtjfnhdiimibmiaaDoor.Sx

/- Put: the program's, and the document's. -/
namespace Go.Proofs.YtjfnhdiimibmiaaDoor.Sx
open HP
section
variable {W : World} {E : Env} {H : Heap} {Γ : List HP}
theorem c_clone (hE : EnvW E) {L : List UInt8} {j n : Nat} (hn : L.length = n) (hn0 : 0 < n) (hn1 : n < 65536) (h : Holds H (blk j (cb L) 5 :: Γ)) :
    ∃ v H', go W E 46 [.sl (some ⟨.own j, 0⟩) n (.exact n)] H = some (v, H') ∧ Holds H' (row 5 1 (cb L) v :: blk j (cb L) 5 :: Γ) := by
  suffices hh : Fin (fun r : AV × Heap => Holds r.2 (row 5 1 (cb L) r.1 :: blk j (cb L) 5 :: Γ)) (go W E 46 [.sl (some ⟨.own j, 0⟩) n (.exact n)] H) by
    obtain ⟨⟨r, H'⟩, e, q⟩ := hh
    exact ⟨r, H', e, q⟩
  have h2 := h.push (c := []) (t := 5)
  have g2 := (h2.ord [1]).get
  have hgn := getN_all (cb L)
  rw [cb_len, hn] at hgn
  rw [go_code hE.f46 (by simp [sf46])]
  simp only [sf46, ↓sxp, sxq, seval, evP, evX, evR, blkOf, evA, storeA, resL, resV, oneOrTup, noUnk, AV.cells, Cells.get, ↓bnd_assoc]
  obtain ⟨v', H', e, h3⟩ := h2.eadd (W := W) (ty := 5) (bytes := 1) (k := n) (new := cb L) hn0 (by rw [cb_len, hn]) (cb_one L) (by omega)
  have hs : srcA W (H.push (.cells (.lst []) 5 none)) 1 false (.sl (some ⟨.own j, 0⟩) n (.exact n)) = some (n, cb L) := by
    simp only [srcA, blkOf, g2, Nat.mul_one, hgn]
  have e' : appA W (H.push (.cells (.lst []) 5 none)) 5 1 1 false (.sl (some ⟨.own H.next, 0⟩) 0 (.exact 0)) (.sl (some ⟨.own j, 0⟩) n (.exact n)) = some (v', H') := by
    simp only [appA, hs]; exact e
  simp only [↓e', ↓sxp, sxq, seval, evP, evX, evR, blkOf, evA, storeA, resL, resV, oneOrTup, noUnk, AV.cells, Cells.get, ↓bnd_assoc]
  exact Fin.ret (h3.rm 1)
theorem c_rev (hE : EnvW E) {L : List UInt8} {j n : Nat} {c : Cap} (hn : L.length = n) (hn0 : 0 < n) (hn1 : n < 65536) (h : Holds H (row 5 1 (cb L) (.sl (some ⟨.own j, 0⟩) n c) :: Γ)) :
    ∃ H', go W E 47 [.sl (some ⟨.own j, 0⟩) n c] H = some (.tup [], H') ∧ Holds H' (row 5 1 (cb L.reverse) (.sl (some ⟨.own j, 0⟩) n c) :: Γ) := by
  apply Ends.out
  refine (show Fin (fun r : AV × Heap => r.1 = .tup [] ∧ Holds r.2 (row 5 1 (cb L.reverse) (.sl (some ⟨.own j, 0⟩) n c) :: Γ)) _ from ?_)
  have w1 : IntKind.i64.wrap ((n : Int) - 1) = (n : Int) - 1 - ((0 : Nat) : Int) := by rw [w64 (by omega)]; omega
  rw [go_code hE.f47 (by simp [sf47])]
  simp only [sf47, w1, ↓sxp, sxq, seval, evP, evX, evR, blkOf, evA, storeA, resL, resV, oneOrTup, noUnk, AV.cells, Cells.get, ↓bnd_assoc]
  refine Fin.loop (rev_loop hn hn0 hn1 n 0 _ _ L (by omega) (by omega) ⟨rfl, fun k hk => by rw [if_neg (by omega)]⟩ (by simp only [↓sxp, sxq, seval, evP, evX, evR, blkOf, evA, storeA, resL, resV, oneOrTup, noUnk, AV.cells, Cells.get, ↓bnd_assoc]) (by simp only [↓sxp, sxq, seval, evP, evX, evR, blkOf, evA, storeA, resL, resV, oneOrTup, noUnk, AV.cells, Cells.get, ↓bnd_assoc] <;> rfl) (by simp only [↓sxp, sxq, seval, evP, evX, evR, blkOf, evA, storeA, resL, resV, oneOrTup, noUnk, AV.cells, Cells.get, ↓bnd_assoc]) h) fun lv A H1 ⟨q1, h1⟩ => ?_
  subst q1
  simp only [↓sxp, sxq, seval, evP, evX, evR, blkOf, evA, storeA, resL, resV, oneOrTup, noUnk, AV.cells, Cells.get, ↓bnd_assoc]
  exact Fin.ret ⟨rfl, h1⟩
theorem c_turned (hE : EnvW E) {L : List UInt8} {j n : Nat} (hn : L.length = n) (hn0 : 0 < n) (hn1 : n < 65536) (h : Holds H (blk j (cb L) 5 :: Γ)) :
    ∃ v H', go W E 30 [.sl (some ⟨.own j, 0⟩) n (.exact n)] H = some (v, H') ∧ Holds H' (row 5 1 (cb L.reverse) v :: Γ) := by
  suffices hh : Fin (fun r : AV × Heap => Holds r.2 (row 5 1 (cb L.reverse) r.1 :: Γ)) (go W E 30 [.sl (some ⟨.own j, 0⟩) n (.exact n)] H) by
    obtain ⟨⟨r, H'⟩, e, q⟩ := hh
    exact ⟨r, H', e, q⟩
  rw [go_code hE.f30 (by simp [sf30])]
  simp only [sf30, ↓sxp, sxq, seval, evP, evX, evR, blkOf, evA, storeA, resL, resV, oneOrTup, noUnk, AV.cells, Cells.get, ↓bnd_assoc]
  refine Fin.call2 (B := fun v => row 5 1 (cb L) v :: blk j (cb L) 5 :: Γ) (c_clone hE hn hn0 hn1 h) fun v H1 h1 => ?_
  simp only [↓sxp, sxq, seval, evP, evX, evR, blkOf, evA, storeA, resL, resV, oneOrTup, noUnk, AV.cells, Cells.get, ↓bnd_assoc]
  obtain ⟨j2, l2, c2, rfl, g⟩ := h1.row_get (by omega) (n := n) (by rw [cb_len]; omega) hn0
  refine Fin.call (c_rev hE hn hn0 hn1 h1) fun H2 h2 => ?_
  simp only [↓sxp, sxq, seval, evP, evX, evR, blkOf, evA, storeA, resL, resV, oneOrTup, noUnk, AV.cells, Cells.get, ↓bnd_assoc]
  exact Fin.ret (h2.rm 1)
theorem c_put (hE : EnvW E) {n sz : Nat} (h1 : 1 ≤ sz) (h8 : sz ≤ 8) (hn : n < 256 ^ sz) (hn2 : n < 4611686018427387904) (h : Holds H Γ) :
    ∃ v H', go W E 17 [.int .i64 (n : Int), .int .i64 (sz : Int)] H = some (.tup [v, .int .i64 0], H') ∧ Holds H' (row 5 1 (cb (bytesN sz n)) v :: Γ) := by
  suffices hh : Fin (fun r : AV × Heap => ∃ v, r.1 = .tup [v, .int .i64 0] ∧ Holds r.2 (row 5 1 (cb (bytesN sz n)) v :: Γ)) (go W E 17 [.int .i64 (n : Int), .int .i64 (sz : Int)] H) by
    obtain ⟨⟨r, H'⟩, e, v, hr, q⟩ := hh
    simp only at hr
    subst hr
    exact ⟨v, H', e, q⟩
  rw [go_code hE.f17 (by simp [sf17])]
  simp only [sf17, ↓sxp, sxq, seval, evP, evX, evR, blkOf, evA, storeA, resL, resV, oneOrTup, noUnk, AV.cells, Cells.get, ↓bnd_assoc]
  refine Fin.callE (fun j : Nat => .tup [.sl (some ⟨.own j, 0⟩) sz (.exact sz), .int .i64 0]) (fun j => blk j (cb (lowN sz n)) 5 :: Γ) (c_low hE h1 h8 hn hn2 h) fun j H1 h1' => ?_
  simp only [↓sxp, sxq, seval, evP, evX, evR, blkOf, evA, storeA, resL, resV, oneOrTup, noUnk, AV.cells, Cells.get, ↓bnd_assoc]
  refine Fin.call2 (B := fun v => row 5 1 (cb (lowN sz n).reverse) v :: Γ) (c_turned hE (lowN_len sz n) h1 (by omega) h1') fun v H2 h2 => ?_
  rw [lowN_rev] at h2
  simp only [↓sxp, sxq, seval, evP, evX, evR, blkOf, evA, storeA, resL, resV, oneOrTup, noUnk, AV.cells, Cells.get, ↓bnd_assoc]
  exact Fin.ret ⟨v, rfl, h2⟩
theorem dlow_loop {sz : Nat} {n0 : Nat} (hsz : sz ≤ 8) (hn : n0 < 4611686018427387904) {df : List Nat} : ∀ (m i x : Nat) (A : Tm) (H : Heap) (v : AV), i + m = sz → x = n0 / 256 ^ i → getX A 0 = .int .i64 x → getX A 1 = .int .i64 sz → getX A 6 = v → getX A 7 = .int .i64 i → XH H (lowN i n0) v Γ →
    ∃ lv A' H', run W E (.loop lp36_0) ⟨A, df, none⟩ H = some (lv, ⟨A', df, none⟩, H') ∧ (lv = .exit 0 ∧ getX A' 0 = .int .i64 ((n0 / 256 ^ sz : Nat) : Int) ∧ ∃ v', getX A' 6 = v' ∧ XH H' (lowN sz n0) v' Γ) := by
  have hlp : ∀ f H, run W E lp36_0 f H = run W E lp36_0 f H := fun _ _ => rfl
  conv at hlp => enter [f, H, 2]; unfold lp36_0
  intro m
  induction m with
  | zero =>
    intro i x A H v him hx a0 a1 a6 a7 h
    have : i = sz := by omega
    subst this
    have hlt : ¬ (i : Int) < i := by omega
    rw [run_loop]
    simp only [hlp, a1, a7, hlt, ↓sxp, sxq, seval, evP, evX, evR, blkOf, evA, storeA, resL, resV, oneOrTup, noUnk, AV.cells, Cells.get, ↓bnd_assoc]
    exact ⟨_, _, _, rfl, rfl, by simp only [a0, hx, ↓sxp, sxq, seval, evP, evX, evR, blkOf, evA, storeA, resL, resV, oneOrTup, noUnk, AV.cells, Cells.get, ↓bnd_assoc], v, by simp only [a6, ↓sxp, sxq, seval, evP, evX, evR, blkOf, evA, storeA, resL, resV, oneOrTup, noUnk, AV.cells, Cells.get, ↓bnd_assoc], h⟩
  | succ m ih =>
    intro i x A H v him hx a0 a1 a6 a7 h
    have hlt : (i : Int) < sz := by omega
    have hwr : IntKind.i64.wrap ((i : Int) + 1) = ((i + 1 : Nat) : Int) := by rw [w64 (by omega)]; simp
    have hxl : x < 4611686018427387904 := by rw [hx]; exact Nat.lt_of_le_of_lt (Nat.div_le_self _ _) hn
    have e1 : bin .rem (.int .i64 (x : Int)) (.int .i64 256) = some (.int .i64 ((x % 256 : Nat) : Int)) := i_rem x 256 (by omega)
    have e2 : IntKind.u8.wrap ((x % 256 : Nat) : Int) = ((byteAt n0 i).toNat : Int) := by rw [wrap_u8', u8_mod, hx]; rfl
    have e3 : bin .quo (.int .i64 (x : Int)) (.int .i64 256) = some (.int .i64 ((x / 256 : Nat) : Int)) := by
      simp only [bin, binI, if_true]
      rw [if_neg (by omega)]
      have : Int.tdiv (x : Int) 256 = ((x / 256 : Nat) : Int) := (Int.ofNat_tdiv x 256).symm
      rw [this, w64 (by omega)]
    have hl8 : (lowN i n0).length < 1099511627776 := by rw [lowN_len]; omega
    apply Fin.ex3
    rw [run_loop]
    simp only [hlp, a0, a1, a6, a7, hlt, e1, e2, ↓sxp, sxq, seval, evP, evX, evR, blkOf, evA, storeA, resL, resV, oneOrTup, noUnk, AV.cells, Cells.get, ↓bnd_assoc]
    refine Fin.byte h (byteAt n0 i) hl8 fun v' H' h' => ?_
    rw [← lowN_succ] at h'
    simp only [a0, a7, e3, hwr, ↓sxp, sxq, seval, evP, evX, evR, blkOf, evA, storeA, resL, resV, oneOrTup, noUnk, AV.cells, Cells.get, ↓bnd_assoc]
    exact Fin.of3 (ih (i + 1) (x / 256) _ _ v' (by omega) (by rw [hx, Nat.div_div_eq_div_mul, Nat.pow_succ]) (by simp only [↓sxp, sxq, seval, evP, evX, evR, blkOf, evA, storeA, resL, resV, oneOrTup, noUnk, AV.cells, Cells.get, ↓bnd_assoc]) (by simp only [a1, ↓sxp, sxq, seval, evP, evX, evR, blkOf, evA, storeA, resL, resV, oneOrTup, noUnk, AV.cells, Cells.get, ↓bnd_assoc]) (by simp only [↓sxp, sxq, seval, evP, evX, evR, blkOf, evA, storeA, resL, resV, oneOrTup, noUnk, AV.cells, Cells.get, ↓bnd_assoc]) (by simp only [↓sxp, sxq, seval, evP, evX, evR, blkOf, evA, storeA, resL, resV, oneOrTup, noUnk, AV.cells, Cells.get, ↓bnd_assoc]) (.inl h')) fun lv A' H' q => q
theorem dtrn_loop {L : List UInt8} {R : HP} {b : AV} (hR : RdLike W L b R) (hl : L.length < 65536) {df : List Nat} : ∀ (m : Nat) (A : Tm) (H : Heap) (v : AV), m ≤ L.length → getX A 0 = b → getX A 3 = v → getX A 4 = .int .i64 ((m : Int) - 1) → XH H ((L.drop m).reverse) v (R :: Γ) →
    ∃ lv A' H', run W E (.loop lp37_0) ⟨A, df, none⟩ H = some (lv, ⟨A', df, none⟩, H') ∧ (lv = .exit 0 ∧ ∃ v', getX A' 3 = v' ∧ XH H' L.reverse v' (R :: Γ)) := by
  have hlp : ∀ f H, run W E lp37_0 f H = run W E lp37_0 f H := fun _ _ => rfl
  conv at hlp => enter [f, H, 2]; unfold lp37_0
  intro m
  induction m with
  | zero =>
    intro A H v hm a0 a3 a4 h
    have a4' : getX A 4 = .int .i64 (-1) := a4
    rw [run_loop]
    simp only [hlp, a4', ↓sxp, sxq, seval, evP, evX, evR, blkOf, evA, storeA, resL, resV, oneOrTup, noUnk, AV.cells, Cells.get, ↓bnd_assoc]
    exact ⟨_, _, _, rfl, rfl, v, by simp only [a3, ↓sxp, sxq, seval, evP, evX, evR, blkOf, evA, storeA, resL, resV, oneOrTup, noUnk, AV.cells, Cells.get, ↓bnd_assoc], by rw [List.drop_zero] at h; exact h⟩
  | succ m ih =>
    intro A H v hm a0 a3 a4 h
    have a4' : getX A 4 = .int .i64 (m : Int) := by rw [a4]; congr 1; omega
    have h0 : (0 : Int) ≤ (m : Int) := by omega
    have w1 : IntKind.i64.wrap ((m : Int) - 1) = (m : Int) - 1 := w64 (by omega)
    have hh : ∃ Δ, Holds H (R :: Δ) := by
      rcases h with h | ⟨j, q0, q1, h⟩
      · exact ⟨_, h.ord [1]⟩
      · exact ⟨_, h.ord [1]⟩
    obtain ⟨Δ, hh⟩ := hh
    obtain ⟨p, e1, e2⟩ := (hR hh).at (i := m) (by omega)
    have hb : (L.drop m).reverse = (L.drop (m + 1)).reverse ++ [L[m]] := by
      rw [List.drop_eq_getElem_cons (show m < L.length by omega), List.reverse_cons]
    have hl2 : ((L.drop (m + 1)).reverse).length < 1099511627776 := by rw [List.length_reverse, List.length_drop]; omega
    apply Fin.ex3
    rw [run_loop]
    simp only [hlp, a0, a3, a4', h0, e1, e2, ↓sxp, sxq, seval, evP, evX, evR, blkOf, evA, storeA, resL, resV, oneOrTup, noUnk, AV.cells, Cells.get, ↓bnd_assoc]
    refine Fin.byte h L[m] hl2 fun v' H' h' => ?_
    rw [← hb] at h'
    simp only [a4', w1, ↓sxp, sxq, seval, evP, evX, evR, blkOf, evA, storeA, resL, resV, oneOrTup, noUnk, AV.cells, Cells.get, ↓bnd_assoc]
    exact Fin.of3 (ih _ _ v' (by omega) (by simp only [a0, ↓sxp, sxq, seval, evP, evX, evR, blkOf, evA, storeA, resL, resV, oneOrTup, noUnk, AV.cells, Cells.get, ↓bnd_assoc]) (by simp only [↓sxp, sxq, seval, evP, evX, evR, blkOf, evA, storeA, resL, resV, oneOrTup, noUnk, AV.cells, Cells.get, ↓bnd_assoc]) (by simp only [↓sxp, sxq, seval, evP, evX, evR, blkOf, evA, storeA, resL, resV, oneOrTup, noUnk, AV.cells, Cells.get, ↓bnd_assoc]) (.inl h')) fun lv A' H' q => q
end
end Go.Proofs.YtjfnhdiimibmiaaDoor.Sx

/- Put, the document's; pads of keys. -/
namespace Go.Proofs.YtjfnhdiimibmiaaDoor.Sx
open HP
def padK (key : List UInt8) (b : UInt8) : List UInt8 := (key ++ List.replicate (128 - key.length) 0).map (· ^^^ b)
theorem padK_len (key : List UInt8) (b : UInt8) (h : key.length ≤ 128) : (padK key b).length = 128 := by
  unfold padK
  rw [List.length_map, List.length_append, List.length_replicate]; omega
section
variable {W : World} {E : Env} {H : Heap} {Γ : List HP}
theorem RdLike.exb (bs : List UInt8) (j n : Nat) (hn : bs.length = n) (t : TypeId) : RdLike W bs (.sl (some ⟨.own j, 0⟩) n (.exact n)) (blk j (cb bs) t) := fun {H Γ} h => by
  subst hn
  have := getN_all (cb bs)
  rw [cb_len] at this
  exact .ex bs _ 0 _ _ (by simp only [blkOf, h.get]) this (Nat.le_refl _)
theorem XH.out {bs : List UInt8} {v : AV} (h : XH H bs v Γ) : ∃ R, RdLike W bs v R ∧ Holds H (R :: Γ) := by
  rcases h with h | ⟨j, h0, e, h⟩
  · exact ⟨_, RdLike.row bs v, h⟩
  · subst e; exact ⟨_, RdLike.exb bs j _ rfl 5, h⟩
theorem c_dput (hE : EnvW E) {n sz : Nat} (h1 : 1 ≤ sz) (h8 : sz ≤ 8) (hn : n < 256 ^ sz) (hn2 : n < 4611686018427387904) (h : Holds H Γ) :
    ∃ v H', go W E 22 [.int .i64 (n : Int), .int .i64 (sz : Int)] H = some (.tup [v, .int .i64 0], H') ∧ ∃ R, RdLike W (bytesN sz n) v R ∧ Holds H' (R :: Γ) := by
  suffices hh : Fin (fun r : AV × Heap => ∃ v, r.1 = .tup [v, .int .i64 0] ∧ ∃ R, RdLike W (bytesN sz n) v R ∧ Holds r.2 (R :: Γ)) (go W E 22 [.int .i64 (n : Int), .int .i64 (sz : Int)] H) by
    obtain ⟨⟨r, H'⟩, e, v, hr, q⟩ := hh
    simp only at hr
    subst hr
    exact ⟨v, H', e, q⟩
  have low : ∃ v H', go W E 36 [.int .i64 (n : Int), .int .i64 (sz : Int)] H = some (.tup [v, .int .i64 0], H') ∧ XH H' (lowN sz n) v Γ := by
    suffices hh : Fin (fun r : AV × Heap => ∃ v, r.1 = .tup [v, .int .i64 0] ∧ XH r.2 (lowN sz n) v Γ) (go W E 36 [.int .i64 (n : Int), .int .i64 (sz : Int)] H) by
      obtain ⟨⟨r, H'⟩, e, v, hr, q⟩ := hh
      simp only at hr
      subst hr
      exact ⟨v, H', e, q⟩
    have b1 : ¬ (sz : Int) < 1 := by omega
    have b2 : ¬ (8 : Int) < sz := by omega
    have b3 : ¬ (n : Int) < 0 := by omega
    have b4 : ¬ (4611686018427387904 : Int) < n := by omega
    rw [go_code hE.f36 (by simp [sf36])]
    simp only [sf36, b1, b2, b3, b4, ↓sxp, sxq, seval, evP, evX, evR, blkOf, evA, storeA, resL, resV, oneOrTup, noUnk, AV.cells, Cells.get, ↓bnd_assoc]
    refine Fin.loop (dlow_loop (Γ := Γ) h8 hn2 sz 0 n _ _ (.sl none 0 (.exact 0)) (by omega) (by simp) (by simp only [↓sxp, sxq, seval, evP, evX, evR, blkOf, evA, storeA, resL, resV, oneOrTup, noUnk, AV.cells, Cells.get, ↓bnd_assoc]) (by simp only [↓sxp, sxq, seval, evP, evX, evR, blkOf, evA, storeA, resL, resV, oneOrTup, noUnk, AV.cells, Cells.get, ↓bnd_assoc]) (by simp only [↓sxp, sxq, seval, evP, evX, evR, blkOf, evA, storeA, resL, resV, oneOrTup, noUnk, AV.cells, Cells.get, ↓bnd_assoc]) (by simp only [↓sxp, sxq, seval, evP, evX, evR, blkOf, evA, storeA, resL, resV, oneOrTup, noUnk, AV.cells, Cells.get, ↓bnd_assoc] <;> rfl) (.inl h.row_nil)) fun lv A H1 ⟨e1, a0, v, a6, h2⟩ => ?_
    subst e1
    rw [Nat.div_eq_of_lt hn] at a0
    have a0' : getX A 0 = .int .i64 0 := a0
    simp only [a0', a6, ↓sxp, sxq, seval, evP, evX, evR, blkOf, evA, storeA, resL, resV, oneOrTup, noUnk, AV.cells, Cells.get, ↓bnd_assoc]
    exact Fin.ret ⟨v, rfl, h2⟩
  have trn : ∀ {L : List UInt8} {R : HP} {b : AV} {H : Heap}, L.length < 65536 → RdLike W L b R → Holds H (R :: Γ) → ∃ v H', go W E 37 [b] H = some (v, H') ∧ XH H' L.reverse v (R :: Γ) := fun {L R b H} hl hR h => by
    suffices hh : Fin (fun r : AV × Heap => XH r.2 L.reverse r.1 (R :: Γ)) (go W E 37 [b] H) by
      obtain ⟨⟨r, H'⟩, e, q⟩ := hh
      exact ⟨r, H', e, q⟩
    have hlen := (hR h).len
    have w1 : IntKind.i64.wrap ((L.length : Int) - 1) = (L.length : Int) - 1 := w64 (by omega)
    rw [go_code hE.f37 (by simp [sf37])]
    simp only [sf37, hlen, w1, ↓sxp, sxq, seval, evP, evX, evR, blkOf, evA, storeA, resL, resV, oneOrTup, noUnk, AV.cells, Cells.get, ↓bnd_assoc]
    refine Fin.loop (dtrn_loop (Γ := Γ) hR hl L.length _ _ (.sl none 0 (.exact 0)) (Nat.le_refl _) (by simp only [↓sxp, sxq, seval, evP, evX, evR, blkOf, evA, storeA, resL, resV, oneOrTup, noUnk, AV.cells, Cells.get, ↓bnd_assoc]) (by simp only [↓sxp, sxq, seval, evP, evX, evR, blkOf, evA, storeA, resL, resV, oneOrTup, noUnk, AV.cells, Cells.get, ↓bnd_assoc]) (by simp only [↓sxp, sxq, seval, evP, evX, evR, blkOf, evA, storeA, resL, resV, oneOrTup, noUnk, AV.cells, Cells.get, ↓bnd_assoc]) (by rw [List.drop_length]; exact .inl h.row_nil)) fun lv A H1 ⟨e1, v, a3, h2⟩ => ?_
    subst e1
    simp only [a3, ↓sxp, sxq, seval, evP, evX, evR, blkOf, evA, storeA, resL, resV, oneOrTup, noUnk, AV.cells, Cells.get, ↓bnd_assoc]
    exact Fin.ret h2
  rw [go_code hE.f22 (by simp [sf22])]
  simp only [sf22, ↓sxp, sxq, seval, evP, evX, evR, blkOf, evA, storeA, resL, resV, oneOrTup, noUnk, AV.cells, Cells.get, ↓bnd_assoc]
  refine Fin.callX (fun r H' => ∃ v, r = .tup [v, .int .i64 0] ∧ XH H' (lowN sz n) v Γ) (by obtain ⟨v, H', e, q⟩ := low; exact ⟨_, H', e, v, rfl, q⟩) fun r H1 ⟨v, hr, h1⟩ => ?_
  subst hr
  obtain ⟨R, hR, h2⟩ := h1.out (W := W)
  simp only [↓sxp, sxq, seval, evP, evX, evR, blkOf, evA, storeA, resL, resV, oneOrTup, noUnk, AV.cells, Cells.get, ↓bnd_assoc]
  refine Fin.callX (fun o H' => XH H' (lowN sz n).reverse o (R :: Γ)) (trn (by rw [lowN_len]; omega) hR h2) fun o H3 h3 => ?_
  rw [lowN_rev] at h3
  obtain ⟨R2, hR2, h4⟩ := h3.out (W := W)
  simp only [↓sxp, sxq, seval, evP, evX, evR, blkOf, evA, storeA, resL, resV, oneOrTup, noUnk, AV.cells, Cells.get, ↓bnd_assoc]
  exact Fin.ret ⟨o, rfl, R2, hR2, h4.rm 1⟩
theorem b8_xor (x y : UInt8) : bin .xor (.int .u8 (x.toNat : Int)) (.int .u8 (y.toNat : Int)) = some (.int .u8 ((x ^^^ y).toNat : Int)) := by
  have e : ∀ z : UInt8, BitVec.ofInt IntKind.u8.bits (z.toNat : Int) = z.toBitVec := fun z => by
    show BitVec.ofInt 8 (z.toNat : Int) = z.toBitVec
    simp
  simp only [bin, binI, if_true, bits, e, Option.map_some]
  show some (AV.int .u8 (IntKind.u8.wrap ((x.toBitVec ^^^ y.toBitVec : BitVec 8).toNat : Int))) = _
  rw [wrap_u8']
  congr 2
  rw [UInt8.toNat_ofNat', UInt8.toNat_xor]
  have : (x.toBitVec ^^^ y.toBitVec).toNat = x.toNat ^^^ y.toNat := BitVec.toNat_xor _ _
  rw [this]
  have hlt : x.toNat ^^^ y.toNat < 2 ^ 8 := Nat.xor_lt_two_pow x.toNat_lt y.toNat_lt
  rw [Nat.mod_eq_of_lt hlt]
theorem xpad_loop {L : List UInt8} {jb : Nat} {b : UInt8} (hL : L.length = 128) {df : List Nat} : ∀ (m i : Nat) (A : Tm) (H : Heap), i + m = 128 → getX A 1 = .int .u8 b.toNat → getX A 6 = .sl (some ⟨.own jb, 0⟩) 128 (.exact 128) → getX A 20 = .int .i64 128 → getX A 21 = .int .i64 i → Holds H (blk jb (cb ((L.take i).map (· ^^^ b) ++ L.drop i)) 5 :: Γ) →
    ∃ lv A' H', run W E (.loop lp50_0) ⟨A, df, none⟩ H = some (lv, ⟨A', df, none⟩, H') ∧ (lv = .exit 0 ∧ getX A' 6 = .sl (some ⟨.own jb, 0⟩) 128 (.exact 128) ∧ Holds H' (blk jb (cb (L.map (· ^^^ b))) 5 :: Γ)) := by
  have hlp : ∀ f H, run W E lp50_0 f H = run W E lp50_0 f H := fun _ _ => rfl
  conv at hlp => enter [f, H, 2]; unfold lp50_0
  intro m
  induction m with
  | zero =>
    intro i A H him a1 a6 a20 a21 h
    have : i = 128 := by omega
    subst this
    have a21' : getX A 21 = .int .i64 128 := a21
    rw [run_loop]
    simp only [hlp, a20, a21', ↓sxp, sxq, seval, evP, evX, evR, blkOf, evA, storeA, resL, resV, oneOrTup, noUnk, AV.cells, Cells.get, ↓bnd_assoc]
    rw [List.take_of_length_le (by omega), List.drop_of_length_le (by omega), List.append_nil] at h
    exact ⟨_, _, _, rfl, rfl, by simp only [a6, ↓sxp, sxq, seval, evP, evX, evR, blkOf, evA, storeA, resL, resV, oneOrTup, noUnk, AV.cells, Cells.get, ↓bnd_assoc], h⟩
  | succ m ih =>
    intro i A H him a1 a6 a20 a21 h
    have hlt : (i : Int) < 128 := by omega
    have hwr : IntKind.i64.wrap ((i : Int) + 1) = ((i + 1 : Nat) : Int) := by rw [w64 (by omega)]; simp
    have nc128 : ((128 : Nat) : Int) = 128 := rfl
    have hta : ((L.take i).map (· ^^^ b)).length = i := by rw [List.length_map, List.length_take]; omega
    have hget : (cb ((L.take i).map (· ^^^ b) ++ L.drop i))[i]? = some (.int .u8 (L.getD i 0).toNat) := by
      rw [cb_get (by rw [List.length_append, hta, List.length_drop]; omega)]
      congr 3
      simp only [List.getD_eq_getElem?_getD]
      rw [List.getElem?_append_right (by omega), hta, Nat.sub_self, List.getElem?_drop, Nat.add_zero]
    have hset : (cb ((L.take i).map (· ^^^ b) ++ L.drop i)).set i (.int .u8 ((L.getD i 0) ^^^ b).toNat) = cb ((L.take (i + 1)).map (· ^^^ b) ++ L.drop (i + 1)) := by
      rw [cb_set]
      congr 1
      rw [List.drop_eq_getElem_cons (show i < L.length by omega)]
      have := set_mid ((L.take i).map (· ^^^ b)) L[i] ((L.getD i 0) ^^^ b) (L.drop (i + 1))
      rw [hta] at this
      rw [this, List.take_succ_eq_append_getElem (by omega), List.map_append, List.append_assoc, List.getD_eq_getElem?_getD, List.getElem?_eq_getElem (show i < L.length by omega)]
      rfl
    have hx := b8_xor (L.getD i 0) b
    have g := h.get
    apply Fin.ex3
    rw [run_loop]
    simp only [hlp, a1, a6, a20, a21, hlt, nc128, Int.natCast_nonneg, and_self, ↓g, hget, hx, Int.toNat_natCast, ↓sxp, sxq, seval, evP, evX, evR, blkOf, evA, storeA, resL, resV, oneOrTup, noUnk, AV.cells, Cells.get, ↓bnd_assoc]
    refine Fin.write (cb ((L.take (i + 1)).map (· ^^^ b) ++ L.drop (i + 1))) h (by simp only [Cells.setN, Cells.set, hset]) (by rw [cb_len, List.length_append, hta, List.length_drop]; simp; omega) rfl fun H4 h4 => ?_
    simp only [a21, hwr, ↓sxp, sxq, seval, evP, evX, evR, blkOf, evA, storeA, resL, resV, oneOrTup, noUnk, AV.cells, Cells.get, ↓bnd_assoc]
    exact Fin.of3 (ih (i + 1) _ _ (by omega) (by simp only [a1, ↓sxp, sxq, seval, evP, evX, evR, blkOf, evA, storeA, resL, resV, oneOrTup, noUnk, AV.cells, Cells.get, ↓bnd_assoc]) (by simp only [a6, ↓sxp, sxq, seval, evP, evX, evR, blkOf, evA, storeA, resL, resV, oneOrTup, noUnk, AV.cells, Cells.get, ↓bnd_assoc]) (by simp only [a20, ↓sxp, sxq, seval, evP, evX, evR, blkOf, evA, storeA, resL, resV, oneOrTup, noUnk, AV.cells, Cells.get, ↓bnd_assoc]) (by simp only [↓sxp, sxq, seval, evP, evX, evR, blkOf, evA, storeA, resL, resV, oneOrTup, noUnk, AV.cells, Cells.get, ↓bnd_assoc]) h4) fun lv A' H' q => q
theorem c_xpad (hE : EnvW E) {key : List UInt8} {kv : AV} {R : HP} {b : UInt8} (hR : RdLike W key kv R) (h0 : 0 < key.length) (h1 : key.length ≤ 128) (h : Holds H (R :: Γ)) :
    ∃ j H', go W E 50 [kv, .int .u8 b.toNat] H = some (.sl (some ⟨.own j, 0⟩) 128 (.exact 128), H') ∧ Holds H' (blk j (cb (padK key b)) 5 :: R :: Γ) := by
  suffices hh : Fin (fun r : AV × Heap => r.1 = .sl (some ⟨.own H.next, 0⟩) 128 (.exact 128) ∧ Holds r.2 (blk H.next (cb (padK key b)) 5 :: R :: Γ)) (go W E 50 [kv, .int .u8 b.toNat] H) by
    obtain ⟨⟨r, H'⟩, e, hr, q⟩ := hh
    simp only at hr
    subst hr
    exact ⟨_, H', e, q⟩
  have hlen := (hR h).len
  have b1 : ¬ (128 : Int) < key.length := by omega
  have h2 := h.push (c := cb (List.replicate 128 0)) (t := 5)
  have mk : ∀ A id, evA A id (.mksl 5 1 1 [.int .u8 0] (.c (.int .i64 128)) (.c (.int .i64 128))) = some (.cells (.lst (cb (List.replicate 128 0))) 5 none, .sl (some ⟨.own id, 0⟩) 128 (.exact 128)) := fun A id => mksl_bytes (n := 128) rfl rfl (by omega)
  generalize hz : cb (List.replicate 128 0) = z at *
  have hzl : z.length = 128 := by rw [← hz, cb_len, List.length_replicate]
  rw [go_code hE.f50 (by simp [sf50])]
  simp only [sf50, hlen, b1, ↓mk, ↓stepK_copy, ↓sxp, sxq, seval, evP, evX, evR, blkOf, evA, storeA, resL, resV, oneOrTup, noUnk, AV.cells, Cells.get, ↓bnd_assoc]
  generalize H.next = jb at *
  refine Fin.copy h2 (hR (h2.ord [1])) hzl h0 h1 fun r H3 h3 => ?_
  have he : cb key ++ z.drop key.length = cb (key ++ List.replicate (128 - key.length) 0) := by
    rw [← hz, cb_app, cb, cb, ← List.map_drop, List.drop_replicate]
  rw [he] at h3
  have hkl : (key ++ List.replicate (128 - key.length) 0).length = 128 := by rw [List.length_append, List.length_replicate]; omega
  have hpk : padK key b = (key ++ List.replicate (128 - key.length) 0).map (· ^^^ b) := rfl
  rw [hpk]
  generalize key ++ List.replicate (128 - key.length) 0 = L at *
  simp only [↓sxp, sxq, seval, evP, evX, evR, blkOf, evA, storeA, resL, resV, oneOrTup, noUnk, AV.cells, Cells.get, ↓bnd_assoc]
  refine Fin.loop (xpad_loop (jb := jb) (b := b) hkl 128 0 _ _ (by omega) (by simp only [↓sxp, sxq, seval, evP, evX, evR, blkOf, evA, storeA, resL, resV, oneOrTup, noUnk, AV.cells, Cells.get, ↓bnd_assoc]) (by simp only [↓sxp, sxq, seval, evP, evX, evR, blkOf, evA, storeA, resL, resV, oneOrTup, noUnk, AV.cells, Cells.get, ↓bnd_assoc]) (by simp only [↓sxp, sxq, seval, evP, evX, evR, blkOf, evA, storeA, resL, resV, oneOrTup, noUnk, AV.cells, Cells.get, ↓bnd_assoc] <;> rfl) (by simp only [↓sxp, sxq, seval, evP, evX, evR, blkOf, evA, storeA, resL, resV, oneOrTup, noUnk, AV.cells, Cells.get, ↓bnd_assoc] <;> rfl) h3) fun lv A H4 ⟨e1, a6, h4⟩ => ?_
  subst e1
  simp only [a6, ↓sxp, sxq, seval, evP, evX, evR, blkOf, evA, storeA, resL, resV, oneOrTup, noUnk, AV.cells, Cells.get, ↓bnd_assoc]
  exact Fin.ret ⟨rfl, h4⟩
end
end Go.Proofs.YtjfnhdiimibmiaaDoor.Sx

