/- A second, deterministic reading of the program, part 5: proved sound for every order and every capacity; then what the functions do. -/
import Derived.Test.YtnfehkjkmlbceaaTyD
import Derived.Test.YtnfehkjkmlbceaaTyB
import Derived.ProofKit
import Derived.Below
import Derived.ChangeSame
import Derived.ReadAgain
import Derived.ChangeSlices
import Derived.Deep.Slices
import Derived.Test.YtnfehkjkmlbceaaTyC
import Derived.Test.YtnfehkjkmlbceaaChecked
import Derived.KernelRfl
import Derived.Test.YtnfehkjkmlbceaaRows
/- The plain law of the store: what the program's store tells is what the document's tells. -/
namespace Go.Proofs.Ytnfehkjkmlbceaa.Sx
def topN : Int := 4611686018427387904
theorem drB_spec (k : Int) : ∀ (L : List T3) (b : Int), 0 ≤ b → b ≤ 4611686018427387904 → match drB k L b with
    | none => ∃ w, (1, k, w) ∈ L ∧ 4611686018427387904 ≤ w
    | some b' => b ≤ b' ∧ b' ≤ 4611686018427387904 ∧ (∀ w, (1, k, w) ∈ L → w < b') ∧ (b' = b ∨ ∃ w, (1, k, w) ∈ L ∧ b' = w + 1) := by
  intro L
  induction L with
  | nil => intro b h0 h1; simp [drB]; exact h1
  | cons x L ih =>
    intro b h0 h1
    obtain ⟨x1, x2, x3⟩ := x
    simp only [drB]
    by_cases c : x1 = 1 ∧ x2 = k ∧ b ≤ x3
    · obtain ⟨rfl, rfl, c3⟩ := c
      rw [if_pos ⟨rfl, rfl, c3⟩]
      by_cases d : 4611686018427387904 ≤ x3
      · rw [if_pos d]
        exact ⟨x3, by simp, d⟩
      · rw [if_neg d]
        have := ih (x3 + 1) (by omega) (by omega)
        split at this
        · rename_i e
          obtain ⟨w, hw, h⟩ := this
          exact ⟨w, by simp [hw], h⟩
        · rename_i b' e
          obtain ⟨q1, q2, q3, q4⟩ := this
          refine ⟨by omega, q2, fun w hw => ?_, ?_⟩
          · rcases List.mem_cons.1 hw with h | h
            · simp only [Prod.mk.injEq, true_and] at h; omega
            · exact q3 w h
          · rcases q4 with h | ⟨w, hw, h⟩
            · exact .inr ⟨x3, by simp, h⟩
            · exact .inr ⟨w, by simp [hw], h⟩
    · rw [if_neg c]
      have := ih b h0 h1
      split at this
      · rename_i e
        obtain ⟨w, hw, h⟩ := this
        exact ⟨w, by simp [hw], h⟩
      · rename_i b' e
        obtain ⟨q1, q2, q3, q4⟩ := this
        refine ⟨q1, q2, fun w hw => ?_, ?_⟩
        · rcases List.mem_cons.1 hw with h | h
          · simp only [Prod.mk.injEq] at h
            obtain ⟨h1, h2, h3⟩ := h
            have : ¬ b ≤ x3 := fun e => c ⟨h1.symm, h2.symm, e⟩
            omega
          · exact q3 w h
        · rcases q4 with h | ⟨w, hw, h⟩
          · exact .inl h
          · exact .inr ⟨w, by simp [hw], h⟩
def mn (w : Int) : Int := if 4611686018427387904 < w then 4611686018427387904 else w
/-- What holds of both stores. -/
structure Inv (S : MS) (B : List (List UInt8)) : Prop where
  t : S.T.map (·.1) = B
  n5 : S.N.length = 5
  wf : WFL S.L
  n0 : ∀ k : Nat, k < 5 → 0 ≤ S.N.getD k 0 ∧ S.N.getD k 0 ≤ 4611686018427387905
  n1 : ∀ (k : Nat) (w : Int), 1 ≤ k → k < 5 → (1, (k : Int), w) ∈ S.L → 0 ≤ w ∧ mn w + 1 ≤ S.N.getD k 0
  n2 : ∀ k : Nat, 1 ≤ k → k < 5 → S.N.getD k 0 = 0 ∨ ∃ w, (1, (k : Int), w) ∈ S.L ∧ S.N.getD k 0 = mn w + 1
  tx : ∀ i, (hi : i < S.T.length) → numOf (9, (i : Int), 0) S.L = some S.T[i].2
  nt : ∀ x ∈ S.L, x.1 = 9 → 0 ≤ x.2.1 ∧ x.2.1 < S.T.length ∧ x.2.2 = 0
  bl : ∀ b ∈ S.T, b.1.length ≤ 100
theorem numOf_mem {x : T3} : ∀ {L : List T3}, x ∉ L → numOf x L = none := by
  intro L
  induction L with
  | nil => intro _; rfl
  | cons y L ih =>
    intro h
    simp only [List.mem_cons, not_or] at h
    simp only [numOf, h.1, if_false, ih h.2, Option.map_none]
theorem numOf_app {x y : T3} {n : Nat} : ∀ {L : List T3}, numOf x L = some n → numOf x (L ++ [y]) = some n := by
  intro L
  induction L generalizing n with
  | nil => intro h; cases h
  | cons z L ih =>
    intro h
    simp only [numOf, List.cons_append] at h ⊢
    by_cases e : x = z
    · rw [if_pos e] at h ⊢; exact h
    · rw [if_neg e] at h ⊢
      cases hn : numOf x L with
      | none => rw [hn] at h; cases h
      | some m => rw [hn] at h; rw [ih hn]; exact h
theorem numOf_new {x : T3} : ∀ {L : List T3}, numOf x L = none → numOf x (L ++ [x]) = some L.length := by
  intro L
  induction L with
  | nil => intro _; simp [numOf]
  | cons z L ih =>
    intro h
    simp only [numOf, List.cons_append] at h ⊢
    by_cases e : x = z
    · rw [if_pos e] at h; cases h
    · rw [if_neg e] at h ⊢
      cases hn : numOf x L with
      | none => rw [ih hn]; rfl
      | some m => rw [hn] at h; cases h
theorem numOf_lt {x : T3} {L : List T3} {n : Nat} (h : numOf x L = some n) : n < L.length := (List.getElem?_eq_some_iff.1 (numOf_some h)).1
theorem wfl_snoc {L : List T3} {x : T3} (h : WFL L) (h1 : x.1 ≠ 1 → x.1 ≠ 9 → 0 ≤ x.2.1 ∧ x.2.1 < L.length) (h2 : (x.1 = 4 ∨ x.1 = 5 ∨ x.1 = 8) → 0 ≤ x.2.2 ∧ x.2.2 < L.length) : WFL (L ++ [x]) := by
  intro i y hy
  rw [List.getElem?_append] at hy
  by_cases hi : i < L.length
  · rw [if_pos hi] at hy; exact h i y hy
  · rw [if_neg hi] at hy
    have : i - L.length = 0 := by
      rcases Nat.eq_zero_or_pos (i - L.length) with e | e
      · exact e
      · rw [List.getElem?_eq_none (by simp; omega)] at hy; cases hy
    rw [this] at hy
    simp at hy
    subst hy
    have : i = L.length := by omega
    subst this
    exact ⟨h1, h2⟩
theorem hasM_bd {L : List T3} {n k : Int} (h : hasM L n k = true) : 0 ≤ n ∧ n < L.length := by
  simp only [hasM, Bool.and_eq_true, decide_eq_true_eq] at h; exact h.1
theorem may_wf {L : List T3} {nb : Nat} {x : T3} (h : mayM L nb x = true) : (x.1 ≠ 1 → x.1 ≠ 9 → 0 ≤ x.2.1 ∧ x.2.1 < L.length) ∧ ((x.1 = 4 ∨ x.1 = 5 ∨ x.1 = 8) → 0 ≤ x.2.2 ∧ x.2.2 < L.length) := by
  unfold mayM at h
  refine ⟨fun n1 n9 => ?_, fun hk => ?_⟩
  · rw [if_neg n1] at h
    split at h
    · simp only [Bool.and_eq_true] at h; exact hasM_bd h.1
    · split at h
      · simp only [Bool.and_eq_true] at h; exact hasM_bd h.1
      · split at h
        · simp only [Bool.and_eq_true] at h; exact hasM_bd h.1
        · split at h
          · simp only [Bool.and_eq_true] at h; exact hasM_bd h.1
          · split at h
            · simp only [Bool.and_eq_true] at h; exact hasM_bd h.1
            · cases h
  · rcases hk with e | e | e
    all_goals
      simp [e] at h
      exact hasM_bd h.2
theorem may_text {L : List T3} {nb : Nat} {x : T3} (h : mayM L nb x = true) (e : x.1 = 9) : 0 ≤ x.2.1 ∧ x.2.1 < nb ∧ x.2.2 = 0 := by
  unfold mayM at h
  simp [e] at h
  exact ⟨h.1.1, h.1.2, h.2⟩
theorem may_atom' {L : List T3} {nb : Nat} {x : T3} (h : mayM L nb x = true) (e : x.1 = 1) : ∃ u : Nat, 1 ≤ u ∧ u < 5 ∧ x.2.1 = u ∧ 0 ≤ x.2.2 := by
  obtain ⟨⟨h1, h2⟩, h3⟩ := may_atom h e
  exact ⟨x.2.1.toNat, by omega, by omega, by omega, h3⟩
theorem addN_eq {N : List Int} {u : Nat} {w : Int} (hw : 0 ≤ w) : addN N (1, (u : Int), w) = N.set u (if N.getD u 0 < mn w + 1 then mn w + 1 else N.getD u 0) := by
  have hm : 0 ≤ mn w ∧ mn w ≤ 4611686018427387904 := by unfold mn; split <;> omega
  have : IntKind.i64.wrap (mn w + 1) = mn w + 1 := w64 (by omega)
  simp only [addN, if_true, nextM, Int.toNat_natCast]
  rw [show (if (4611686018427387904 : Int) < w then (4611686018427387904 : Int) else w) = mn w from rfl, this]
/-- A new atom. -/
theorem Inv.atom {S : MS} {B : List (List UInt8)} (h : Inv S B) {u : Nat} {w : Int} (hu : 1 ≤ u ∧ u < 5) (hw : 0 ≤ w) (hn : numOf (1, (u : Int), w) S.L = none) : Inv { S with L := S.L ++ [(1, (u : Int), w)], N := addN S.N (1, (u : Int), w) } B := by
  have hm : 0 ≤ mn w ∧ mn w ≤ 4611686018427387904 := by unfold mn; split <;> omega
  have hu5 : u < S.N.length := by rw [h.n5]; omega
  have hg : ∀ k : Nat, (addN S.N (1, (u : Int), w)).getD k 0 = if k = u then (if S.N.getD u 0 < mn w + 1 then mn w + 1 else S.N.getD u 0) else S.N.getD k 0 := fun k => by
    rw [addN_eq hw, List.getD_eq_getElem?_getD, List.getElem?_set]
    by_cases e : u = k
    · subst e; rw [if_pos rfl, if_pos hu5, if_pos rfl]; rfl
    · rw [if_neg e, if_neg (fun x => e x.symm), List.getD_eq_getElem?_getD]
  have h0 := h.n0 u hu.2
  refine ⟨h.t, by rw [addN_eq hw]; simp [h.n5], wfl_snoc h.wf (by simp) (by simp), fun k hk => ?_, fun k w' h1 h2 hx => ?_, fun k h1 h2 => ?_, fun i hi => numOf_app (h.tx i hi), fun x hx e => ?_, h.bl⟩
  · rw [hg]
    split
    · split <;> omega
    · exact h.n0 k hk
  · rw [hg]
    rcases List.mem_append.1 hx with hx | hx
    · have := h.n1 k w' h1 h2 hx
      split
      · rename_i e; subst e; split <;> omega
      · exact this
    · simp at hx
      obtain ⟨hku, rfl⟩ := hx
      have hku : k = u := by omega
      subst hku
      rw [if_pos rfl]
      split <;> omega
  · rw [hg]
    by_cases e : k = u
    · subst e
      rw [if_pos rfl]
      split
      · exact .inr ⟨w, by simp, rfl⟩
      · rcases h.n2 k h1 h2 with q | ⟨w', q1, q2⟩
        · exact .inl q
        · exact .inr ⟨w', by simp [q1], q2⟩
    · rw [if_neg e]
      rcases h.n2 k h1 h2 with q | ⟨w', q1, q2⟩
      · exact .inl q
      · exact .inr ⟨w', by simp [q1], q2⟩
  · rcases List.mem_append.1 hx with hx | hx
    · exact h.nt x hx e
    · simp at hx; subst hx; simp at e
/-- A new term that is no atom and no text. -/
theorem Inv.term {S : MS} {B : List (List UInt8)} (h : Inv S B) {x : T3} (hm : mayM S.L S.T.length x = true) (h1 : x.1 ≠ 1) (hn : numOf x S.L = none) : Inv { S with L := S.L ++ [x], N := addN S.N x } B := by
  have ha : addN S.N x = S.N := by simp [addN, h1]
  rw [ha]
  obtain ⟨w1, w2⟩ := may_wf hm
  refine ⟨h.t, h.n5, wfl_snoc h.wf w1 w2, h.n0, fun k w' q1 q2 hx => ?_, fun k q1 q2 => ?_, fun i hi => numOf_app (h.tx i hi), fun y hy e => ?_, h.bl⟩
  · rcases List.mem_append.1 hx with hx | hx
    · exact h.n1 k w' q1 q2 hx
    · simp at hx; subst hx; simp at h1
  · rcases h.n2 k q1 q2 with q | ⟨w', q1, q2⟩
    · exact .inl q
    · exact .inr ⟨w', by simp [q1], q2⟩
  · rcases List.mem_append.1 hy with hy | hy
    · exact h.nt y hy e
    · simp at hy; subst hy; exact may_text hm e
theorem Inv.put {S : MS} {B : List (List UInt8)} (h : Inv S B) (x : T3) : putR S.L B.length x = ((putM S x).1, (putM S x).2.1, (putM S x).2.2.L) ∧ Inv (putM S x).2.2 B ∧ (putM S x).2.2.T = S.T := by
  have hl : B.length = S.T.length := by rw [← h.t]; simp
  unfold putR putM
  rw [hl]
  cases hm : mayM S.L S.T.length x with
  | false => exact ⟨rfl, h, rfl⟩
  | true =>
    cases hn : numOf x S.L with
    | some n => exact ⟨rfl, h, rfl⟩
    | none =>
      refine ⟨rfl, ?_, rfl⟩
      by_cases e : x.1 = 1
      · obtain ⟨u, h1, h2, h3, h4⟩ := may_atom' hm e
        obtain ⟨x1, x2, x3⟩ := x
        simp only at e h3 h4
        subst e; subst h3
        exact h.atom ⟨h1, h2⟩ h4 hn
      · exact h.term hm e hn
theorem Inv.nx {S : MS} {B : List (List UInt8)} (h : Inv S B) {u : Nat} (hu : 1 ≤ u ∧ u < 5) : 0 ≤ nxt_ S u ∧ (match drB u S.L 0 with
    | none => 4611686018427387904 < nxt_ S u
    | some b => nxt_ S u = b ∧ b ≤ 4611686018427387904 ∧ 0 ≤ b ∧ numOf (1, (u : Int), b) S.L = none) := by
  have hsp := drB_spec u S.L 0 (by omega) (by omega)
  have h0 := h.n0 u hu.2
  have hn : nxt_ S u = S.N.getD u 0 := rfl
  rw [hn]
  refine ⟨h0.1, ?_⟩
  cases hd : drB u S.L 0 with
  | none =>
    rw [hd] at hsp
    obtain ⟨w, hw, hw2⟩ := hsp
    have := (h.n1 u w hu.1 hu.2 hw).2
    have hm : mn w = 4611686018427387904 := by unfold mn; split <;> omega
    show 4611686018427387904 < _
    omega
  | some b =>
    rw [hd] at hsp
    obtain ⟨q1, q2, q3, q4⟩ := hsp
    refine ⟨?_, q2, q1, numOf_mem fun hm => by have := q3 _ hm; omega⟩
    have a1 : S.N.getD u 0 ≤ b := by
      rcases h.n2 u hu.1 hu.2 with q | ⟨w, r1, r2⟩
      · omega
      · have := q3 w r1
        have : mn w ≤ w := by unfold mn; split <;> omega
        omega
    have a2 : b ≤ S.N.getD u 0 := by
      rcases q4 with q | ⟨w, r1, r2⟩
      · omega
      · have r3 := (h.n1 u w hu.1 hu.2 r1).2
        have : mn w = w := by unfold mn; split <;> omega
        omega
    omega
theorem Inv.draw {S : MS} {B : List (List UInt8)} (h : Inv S B) (k : Int) : drawR S.L k = ((drawM S k).1, (drawM S k).2.1, (drawM S k).2.2.L) ∧ Inv (drawM S k).2.2 B ∧ (drawM S k).2.2.T = S.T ∧ (sortM k = true → 0 ≤ nxt_ S k) ∧ (sortM k = true → nxt_ S k ≤ 4611686018427387904 → numOf (1, k, nxt_ S k) S.L = none) := by
  unfold drawR drawM
  cases hs : sortM k with
  | false => exact ⟨rfl, h, rfl, by simp, by simp⟩
  | true =>
    have hk : 1 ≤ k ∧ k ≤ 4 := by simpa [sortM] using hs
    obtain ⟨u, rfl⟩ := Int.eq_ofNat_of_zero_le (show 0 ≤ k by omega)
    have hu : 1 ≤ u ∧ u < 5 := by omega
    obtain ⟨h0, hn⟩ := h.nx hu
    cases hd : drB u S.L 0 with
    | none =>
      rw [hd] at hn
      have hn' : 4611686018427387904 < nxt_ S u := hn
      simp only [if_true, if_pos hn']
      exact ⟨trivial, h, trivial, fun _ => h0, fun _ _ => by omega⟩
    | some b =>
      rw [hd] at hn
      obtain ⟨e1, e2, e3, e4⟩ := hn
      rw [e1]
      simp only [if_true, if_neg (show ¬ 4611686018427387904 < b by omega)]
      exact ⟨trivial, h.atom hu e3 e4, trivial, fun _ => e3, fun _ _ => e4⟩
theorem idx_find (b : List UInt8) : ∀ T : List (List UInt8 × Nat), match idxB b (T.map (·.1)) with
    | none => T.find? (fun x => x.1 = b) = none
    | some n => ∃ hn : n < T.length, T.find? (fun x => x.1 = b) = some T[n] := by
  intro T
  induction T with
  | nil => simp [idxB]
  | cons x T ih =>
    simp only [List.map_cons, idxB, List.find?_cons]
    by_cases e : x.1 = b
    · simp [e]
    · simp only [if_neg e]
      have hdec : decide (x.1 = b) = false := by simp [e]
      rw [hdec]
      cases hi : idxB b (T.map (·.1)) with
      | none => rw [hi] at ih; simpa using ih
      | some n =>
        rw [hi] at ih
        obtain ⟨hn, ih⟩ := ih
        exact ⟨by simp; omega, by simpa using ih⟩
theorem Inv.fresh {S : MS} {B : List (List UInt8)} (h : Inv S B) : numOf (9, (S.T.length : Int), 0) S.L = none :=
  numOf_mem fun hm => by have := h.nt _ hm rfl; simp only at this; omega
theorem Inv.text {S : MS} {B : List (List UInt8)} (h : Inv S B) {b : List UInt8} (hb : b.length ≤ 100) : textR S.L B b = ((textN S b : Int), (textM S b).L, B ++ (if (S.T.find? fun x => x.1 = b).isNone then [b] else [])) ∧ Inv (textM S b) (textR S.L B b).2.2 := by
  have hi := idx_find b S.T
  rw [h.t] at hi
  have hl : B.length = S.T.length := by rw [← h.t]; simp
  unfold textR textN textM
  cases hx : idxB b B with
  | none =>
    rw [hx] at hi
    have hi : S.T.find? (fun x => x.1 = b) = none := hi
    rw [hi, hl]
    refine ⟨by simp, ?_⟩
    have hf := h.fresh
    refine ⟨by simp [h.t], h.n5, wfl_snoc h.wf (by simp) (by simp), h.n0, fun k w' q1 q2 hx => ?_, fun k q1 q2 => ?_, fun i hi => ?_, fun y hy e => ?_, fun c hc => ?_⟩
    · rcases List.mem_append.1 hx with hx | hx
      · exact h.n1 k w' q1 q2 hx
      · simp at hx
    · rcases h.n2 k q1 q2 with q | ⟨w', q1, q2⟩
      · exact .inl q
      · exact .inr ⟨w', by simp [q1], q2⟩
    · simp only [List.length_append, List.length_cons, List.length_nil] at hi
      by_cases e : i < S.T.length
      · rw [List.getElem_append_left e]; exact numOf_app (h.tx i e)
      · have : i = S.T.length := by omega
        subst this
        rw [List.getElem_append_right (by omega)]
        simp only [Nat.sub_self, List.getElem_cons_zero]
        exact numOf_new hf
    · simp only [List.length_append, List.length_cons, List.length_nil]
      rcases List.mem_append.1 hy with hy | hy
      · have := h.nt y hy e; exact ⟨this.1, by omega, this.2.2⟩
      · simp at hy; subst hy; exact ⟨by simp, by simp; omega, rfl⟩
    · rcases List.mem_append.1 hc with hc | hc
      · exact h.bl c hc
      · simp at hc; subst hc; exact hb
  | some n =>
    rw [hx] at hi
    obtain ⟨hn, hi⟩ := hi
    rw [hi]
    have := h.tx n hn
    refine ⟨by simp [findR, this], h⟩
end Go.Proofs.Ytnfehkjkmlbceaa.Sx

/- What is done to a store: Few, one, the example. -/
namespace Go.Proofs.Ytnfehkjkmlbceaa.Sx
open HP
structure Do1 where
  k : Int
  n : Int
  t : T3
  b : List UInt8
def doC (d : Do1) (w : AV) : List AV := [.int .i64 d.k, .int .i64 d.n, .int .i64 d.t.1, .int .i64 d.t.2.1, .int .i64 d.t.2.2, w]
/-- A list of what is done, that lay there when the call began. -/
def Dos (W : World) (ds : List Do1) (v : AV) : Prop := ds.length ≤ 9223372036854775807 ∧ lenV v = some (.int .i64 ds.length) ∧ ∀ (i : Nat) (hi : i < ds.length), ∃ p w, iaddrV 6 v (.int .i64 i) = some p ∧ (∀ H, loadV W H (some 6) p = some (.agg (doC ds[i] w))) ∧ OldBy W ds[i].b w
section
variable {W : World} {E : Env} {H : Heap} {Γ : List HP}
def fewL (ds : List Do1) : Bool := ds.all fun d => decide (d.b.length ≤ 100)
theorem few_loop {ds : List Do1} {v : AV} (hv : Dos W ds v) : ∀ (m i : Nat) (A : Tm) (H : Heap), i + m = ds.length → getX A 0 = v → getX A 5 = v → getX A 6 = .int .i64 ds.length → getX A 7 = .int .i64 i → Holds H Γ →
    ∃ lv A' H', run W E (.loop lp9_0) ⟨A, [], none⟩ H = some (lv, ⟨A', [], none⟩, H') ∧ (Holds H' Γ ∧ ((lv = .exit 0 ∧ fewL (ds.drop i) = true ∧ getX A' 0 = v) ∨ (lv = .ret ∧ fewL (ds.drop i) = false ∧ getX A' 2 = .bool false))) := by
  have hlp : ∀ f H, run W E lp9_0 f H = run W E lp9_0 f H := fun _ _ => rfl
  conv at hlp => enter [f, H, 2]; unfold lp9_0
  obtain ⟨hlen, hva, hget⟩ := hv
  intro m
  induction m with
  | zero =>
    intro i A H him h0 h5 h6 h7 h
    have : i = ds.length := by omega
    subst this
    have hlt : ¬ (ds.length : Int) < ds.length := by omega
    rw [run_loop]
    simp only [hlp, h0, h6, h7, hlt, ↓sxp, sxq, ↓reduceIte, Nat.reduceBEq, Nat.reduceLT, evP, evX, evR, blkOf, evA, storeA, Nat.reduceEqDiff, resL, resV, oneOrTup, Int.reduceEq, Int.reduceLT, Int.reduceLE, Int.reduceNeg, Int.reduceAdd, Int.reduceSub, Int.reduceMul, Int.reduceToNat, Nat.reduceAdd, noUnk, AV.cells, reduceCtorEq, Nat.reduceLeDiff, Cells.get, Cells.getN, Nat.reduceMul, ↓bnd_assoc]
    exact ⟨_, _, _, rfl, h, .inl ⟨rfl, by simp [fewL], by simp only [h0, ↓sxp, sxq, ↓reduceIte, Nat.reduceBEq, Nat.reduceLT, evP, evX, evR, blkOf, evA, storeA, Nat.reduceEqDiff, resL, resV, oneOrTup, Int.reduceEq, Int.reduceLT, Int.reduceLE, Int.reduceNeg, Int.reduceAdd, Int.reduceSub, Int.reduceMul, Int.reduceToNat, Nat.reduceAdd, noUnk, AV.cells, reduceCtorEq, Nat.reduceLeDiff, Cells.get, Cells.getN, Nat.reduceMul, ↓bnd_assoc]⟩⟩
  | succ m ih =>
    intro i A H him h0 h5 h6 h7 h
    have hlt : (i : Int) < ds.length := by omega
    obtain ⟨p, w, e1, e2, hw⟩ := hget i (by omega)
    have hwr : IntKind.i64.wrap ((i : Int) + 1) = ((i + 1 : Nat) : Int) := by rw [w64 (by omega)]; simp
    rw [run_loop, List.drop_eq_getElem_cons (show i < ds.length by omega)]
    generalize ds[i] = d at *
    obtain ⟨k, n, ⟨t1, t2, t3⟩, b⟩ := d
    simp only [doC] at e2 hw
    have h1 := h.push (c := [.int .i64 0, .int .i64 0, .int .i64 0, .int .i64 0, .int .i64 0, .sl none 0 (.exact 0)]) (t := 36)
    obtain ⟨w1, h2⟩ := h1.writeN (off := 0) (c' := [.int .i64 k, .int .i64 n, .int .i64 t1, .int .i64 t2, .int .i64 t3, w]) (vs := [.int .i64 k, .int .i64 n, .int .i64 t1, .int .i64 t2, .int .i64 t3, w]) rfl (by simp) (by simp only [List.all_cons, List.all_nil, noUnk_by (hw H), oneC_int, Bool.and_self])
    have g2 := h2.get
    have hbl := (hw H).len'
    by_cases e : b.length ≤ 100
    · have e' : ¬ (100 : Int) < b.length := by omega
      simp only [hlp, h0, h5, h6, h7, hlt, e1, e2, w1, ↓g2, hbl, e', hwr, ↓sxp, sxq, ↓reduceIte, Nat.reduceBEq, Nat.reduceLT, evP, evX, evR, blkOf, evA, storeA, Nat.reduceEqDiff, resL, resV, oneOrTup, Int.reduceEq, Int.reduceLT, Int.reduceLE, Int.reduceNeg, Int.reduceAdd, Int.reduceSub, Int.reduceMul, Int.reduceToNat, Nat.reduceAdd, noUnk, AV.cells, reduceCtorEq, Nat.reduceLeDiff, Cells.get, Cells.getN, Nat.reduceMul, ↓bnd_assoc]
      refine loop_mono (ih (i + 1) _ _ (by omega) (by simp only [h0, ↓sxp, sxq, ↓reduceIte, Nat.reduceBEq, Nat.reduceLT, evP, evX, evR, blkOf, evA, storeA, Nat.reduceEqDiff, resL, resV, oneOrTup, Int.reduceEq, Int.reduceLT, Int.reduceLE, Int.reduceNeg, Int.reduceAdd, Int.reduceSub, Int.reduceMul, Int.reduceToNat, Nat.reduceAdd, noUnk, AV.cells, reduceCtorEq, Nat.reduceLeDiff, Cells.get, Cells.getN, Nat.reduceMul, ↓bnd_assoc]) (by simp only [h5, ↓sxp, sxq, ↓reduceIte, Nat.reduceBEq, Nat.reduceLT, evP, evX, evR, blkOf, evA, storeA, Nat.reduceEqDiff, resL, resV, oneOrTup, Int.reduceEq, Int.reduceLT, Int.reduceLE, Int.reduceNeg, Int.reduceAdd, Int.reduceSub, Int.reduceMul, Int.reduceToNat, Nat.reduceAdd, noUnk, AV.cells, reduceCtorEq, Nat.reduceLeDiff, Cells.get, Cells.getN, Nat.reduceMul, ↓bnd_assoc]) (by simp only [h6, ↓sxp, sxq, ↓reduceIte, Nat.reduceBEq, Nat.reduceLT, evP, evX, evR, blkOf, evA, storeA, Nat.reduceEqDiff, resL, resV, oneOrTup, Int.reduceEq, Int.reduceLT, Int.reduceLE, Int.reduceNeg, Int.reduceAdd, Int.reduceSub, Int.reduceMul, Int.reduceToNat, Nat.reduceAdd, noUnk, AV.cells, reduceCtorEq, Nat.reduceLeDiff, Cells.get, Cells.getN, Nat.reduceMul, ↓bnd_assoc]) (by simp only [↓sxp, sxq, ↓reduceIte, Nat.reduceBEq, Nat.reduceLT, evP, evX, evR, blkOf, evA, storeA, Nat.reduceEqDiff, resL, resV, oneOrTup, Int.reduceEq, Int.reduceLT, Int.reduceLE, Int.reduceNeg, Int.reduceAdd, Int.reduceSub, Int.reduceMul, Int.reduceToNat, Nat.reduceAdd, noUnk, AV.cells, reduceCtorEq, Nat.reduceLeDiff, Cells.get, Cells.getN, Nat.reduceMul, ↓bnd_assoc]) h2.tail) fun lv A' H' ⟨hh, hr⟩ => ⟨hh, ?_⟩
      simpa [fewL, e] using hr
    · have e' : (100 : Int) < b.length := by omega
      simp only [hlp, h0, h5, h6, h7, hlt, e1, e2, w1, ↓g2, hbl, e', hwr, ↓sxp, sxq, ↓reduceIte, Nat.reduceBEq, Nat.reduceLT, evP, evX, evR, blkOf, evA, storeA, Nat.reduceEqDiff, resL, resV, oneOrTup, Int.reduceEq, Int.reduceLT, Int.reduceLE, Int.reduceNeg, Int.reduceAdd, Int.reduceSub, Int.reduceMul, Int.reduceToNat, Nat.reduceAdd, noUnk, AV.cells, reduceCtorEq, Nat.reduceLeDiff, Cells.get, Cells.getN, Nat.reduceMul, ↓bnd_assoc]
      exact ⟨_, _, _, rfl, h2.tail, .inr ⟨rfl, by simp [fewL, e], by simp only [↓sxp, sxq, ↓reduceIte, Nat.reduceBEq, Nat.reduceLT, evP, evX, evR, blkOf, evA, storeA, Nat.reduceEqDiff, resL, resV, oneOrTup, Int.reduceEq, Int.reduceLT, Int.reduceLE, Int.reduceNeg, Int.reduceAdd, Int.reduceSub, Int.reduceMul, Int.reduceToNat, Nat.reduceAdd, noUnk, AV.cells, reduceCtorEq, Nat.reduceLeDiff, Cells.get, Cells.getN, Nat.reduceMul, ↓bnd_assoc]⟩⟩
theorem l_few (hE : EnvT E) {ds : List Do1} {v : AV} (hv : Dos W ds v) (h : Holds H Γ) : ∃ H', go W E 9 [v] H = some (.bool (fewL ds && decide (ds.length ≤ 30)), H') ∧ Holds H' Γ := by
  apply Ends.out
  have hv' := hv
  obtain ⟨hlen, hl, hget⟩ := hv'
  rw [go_code hE.f9 (by simp [sf9])]
  simp only [sf9, hl, ↓sxp, sxq, ↓reduceIte, Nat.reduceBEq, Nat.reduceLT, evP, evX, evR, blkOf, evA, storeA, Nat.reduceEqDiff, resL, resV, oneOrTup, Int.reduceEq, Int.reduceLT, Int.reduceLE, Int.reduceNeg, Int.reduceAdd, Int.reduceSub, Int.reduceMul, Int.reduceToNat, Nat.reduceAdd, noUnk, AV.cells, reduceCtorEq, Nat.reduceLeDiff, Cells.get, Cells.getN, Nat.reduceMul, ↓bnd_assoc]
  refine Ends.loop (few_loop hv ds.length 0 _ _ (by omega) (by simp only [↓sxp, sxq, ↓reduceIte, Nat.reduceBEq, Nat.reduceLT, evP, evX, evR, blkOf, evA, storeA, Nat.reduceEqDiff, resL, resV, oneOrTup, Int.reduceEq, Int.reduceLT, Int.reduceLE, Int.reduceNeg, Int.reduceAdd, Int.reduceSub, Int.reduceMul, Int.reduceToNat, Nat.reduceAdd, noUnk, AV.cells, reduceCtorEq, Nat.reduceLeDiff, Cells.get, Cells.getN, Nat.reduceMul, ↓bnd_assoc]) (by simp only [↓sxp, sxq, ↓reduceIte, Nat.reduceBEq, Nat.reduceLT, evP, evX, evR, blkOf, evA, storeA, Nat.reduceEqDiff, resL, resV, oneOrTup, Int.reduceEq, Int.reduceLT, Int.reduceLE, Int.reduceNeg, Int.reduceAdd, Int.reduceSub, Int.reduceMul, Int.reduceToNat, Nat.reduceAdd, noUnk, AV.cells, reduceCtorEq, Nat.reduceLeDiff, Cells.get, Cells.getN, Nat.reduceMul, ↓bnd_assoc]) (by simp only [↓sxp, sxq, ↓reduceIte, Nat.reduceBEq, Nat.reduceLT, evP, evX, evR, blkOf, evA, storeA, Nat.reduceEqDiff, resL, resV, oneOrTup, Int.reduceEq, Int.reduceLT, Int.reduceLE, Int.reduceNeg, Int.reduceAdd, Int.reduceSub, Int.reduceMul, Int.reduceToNat, Nat.reduceAdd, noUnk, AV.cells, reduceCtorEq, Nat.reduceLeDiff, Cells.get, Cells.getN, Nat.reduceMul, ↓bnd_assoc]) (by simp only [↓sxp, sxq, ↓reduceIte, Nat.reduceBEq, Nat.reduceLT, evP, evX, evR, blkOf, evA, storeA, Nat.reduceEqDiff, resL, resV, oneOrTup, Int.reduceEq, Int.reduceLT, Int.reduceLE, Int.reduceNeg, Int.reduceAdd, Int.reduceSub, Int.reduceMul, Int.reduceToNat, Nat.reduceAdd, noUnk, AV.cells, reduceCtorEq, Nat.reduceLeDiff, Cells.get, Cells.getN, Nat.reduceMul, ↓bnd_assoc]; rfl) h) fun lv A' H' ⟨hh, hr⟩ => ?_
  rw [List.drop_zero] at hr
  rcases hr with ⟨rfl, hr, a0⟩ | ⟨rfl, hr, a2⟩
  · simp only [a0, hl, ↓sxp, sxq, ↓reduceIte, Nat.reduceBEq, Nat.reduceLT, evP, evX, evR, blkOf, evA, storeA, Nat.reduceEqDiff, resL, resV, oneOrTup, Int.reduceEq, Int.reduceLT, Int.reduceLE, Int.reduceNeg, Int.reduceAdd, Int.reduceSub, Int.reduceMul, Int.reduceToNat, Nat.reduceAdd, noUnk, AV.cells, reduceCtorEq, Nat.reduceLeDiff, Cells.get, Cells.getN, Nat.reduceMul, ↓bnd_assoc]
    exact Ends.ret ⟨by simp [hr]; omega, hh⟩
  · simp only [a2, ↓sxp, sxq, ↓reduceIte, Nat.reduceBEq, Nat.reduceLT, evP, evX, evR, blkOf, evA, storeA, Nat.reduceEqDiff, resL, resV, oneOrTup, Int.reduceEq, Int.reduceLT, Int.reduceLE, Int.reduceNeg, Int.reduceAdd, Int.reduceSub, Int.reduceMul, Int.reduceToNat, Nat.reduceAdd, noUnk, AV.cells, reduceCtorEq, Nat.reduceLeDiff, Cells.get, Cells.getN, Nat.reduceMul, ↓bnd_assoc]
    exact Ends.ret ⟨by simp [hr], hh⟩
theorem l_awake (hE : EnvT E) (h : Holds H Γ) : ∃ H', go W E 8 [] H = some (.bool true, H') ∧ Holds H' Γ := by
  apply Ends.out
  rw [go_code hE.f8 (by simp [sf8])]
  obtain ⟨p, H1, e1, h1⟩ := s_new (W := W) hE h
  obtain ⟨H2, e2, h2⟩ := s_put hE h1 (1, 3, 0) (by simp [S0])
  have hS : (putM S0 (1, 3, 0)).1 = 0 ∧ (putM S0 (1, 3, 0)).2.1 = 0 ∧ (putM S0 (1, 3, 0)).2.2.L.length = 1 := ⟨rfl, rfl, rfl⟩
  obtain ⟨H3, e3, h3⟩ := s_put hE h2 (1, 3, 0) (by rw [hS.2.2]; omega)
  have hS2 : (putM (putM S0 (1, 3, 0)).2.2 (1, 3, 0)).1 = 0 ∧ (putM (putM S0 (1, 3, 0)).2.2 (1, 3, 0)).2.1 = 0 ∧ (putM (putM S0 (1, 3, 0)).2.2 (1, 3, 0)).2.2.L.length = 1 := by
    refine ⟨?_, ?_, ?_⟩ <;> rfl
  have e4 := s_len hE h3
  rw [hS.1, hS.2.1] at e2
  rw [hS2.1, hS2.2.1] at e3
  rw [hS2.2.2, show ((1 : Nat) : Int) = 1 from rfl] at e4
  simp only [c3] at e2 e3
  simp only [sf8, e1, e2, e3, e4, ↓sxp, sxq, ↓reduceIte, Nat.reduceBEq, Nat.reduceLT, evP, evX, evR, blkOf, evA, storeA, Nat.reduceEqDiff, resL, resV, oneOrTup, Int.reduceEq, Int.reduceLT, Int.reduceLE, Int.reduceNeg, Int.reduceAdd, Int.reduceSub, Int.reduceMul, Int.reduceToNat, Nat.reduceAdd, noUnk, AV.cells, reduceCtorEq, Nat.reduceLeDiff, Cells.get, Cells.getN, Nat.reduceMul, ↓bnd_assoc]
  exact Ends.ret ⟨rfl, h3.tail⟩
theorem putM_len (S : MS) (x : T3) : (putM S x).2.2.L.length ≤ S.L.length + 1 := by
  unfold putM
  split
  · split <;> simp
  · simp
theorem drawM_len (S : MS) (k : Int) : (drawM S k).2.2.L.length ≤ S.L.length + 1 := by
  unfold drawM
  split
  · split <;> simp
  · simp
theorem textM_len (S : MS) (b : List UInt8) : (textM S b).L.length ≤ S.L.length + 1 ∧ (textM S b).T.length ≤ S.T.length + 1 := by
  unfold textM
  split <;> simp
theorem Inv.bl' {S : MS} {B : List (List UInt8)} (h : Inv S B) : ∀ c ∈ B, c.length ≤ 1048576 := fun c hc => by
  rw [← h.t] at hc
  obtain ⟨x, hx, rfl⟩ := List.mem_map.1 hc
  have := h.bl x hx; omega
/-- The next pair of stores. -/
def Next (W : World) (p q : Nat) (S : MS) (Γ : List HP) (H' : Heap) : Prop := ∃ S' B', Inv S' B' ∧ S'.L.length ≤ S.L.length + 1 ∧ S'.T.length ≤ S.T.length + 1 ∧ Holds H' (storeP W p S' :: refP W q S'.L B' :: Γ)
theorem s_draw' {p : Nat} {S : MS} {B : List (List UInt8)} (hE : EnvT E) (hi : Inv S B) (h : Holds H (storeP W p S :: Γ)) (n : Int) (hlen : S.L.length < 65536) :
    ∃ H', go W E 20 [.ptr (some ⟨.own p, 0⟩), .int .i64 n] H = some (.tup [.int .i64 (drawM S n).1, .int .i64 (drawM S n).2.1], H') ∧ Holds H' (storeP W p (drawM S n).2.2 :: Γ) := by
  obtain ⟨d1, d2, d3, d4, d5⟩ := hi.draw n
  cases hs : sortM n with
  | false =>
    obtain ⟨a, t, vl, vb, fb, hl, h⟩ := storeP_open h
    obtain ⟨idl, idb, s⟩ := stM_st h
    have : drawM S n = (0, 2, S) := by simp [drawM, hs]
    rw [this]
    exact ⟨H, c_draw_no hE s n hs, storeP_shut hl h⟩
  | true =>
    by_cases ht : nxt_ S n ≤ 4611686018427387904
    · exact s_draw hE h n hlen (d4 hs) (d5 · ht)
    · obtain ⟨a, t, vl, vb, fb, hl, h⟩ := storeP_open h
      obtain ⟨idl, idb, s⟩ := stM_st h
      have : drawM S n = (0, 3, S) := by simp [drawM, hs, show 4611686018427387904 < nxt_ S n by omega]
      rw [this]
      exact ⟨H, c_draw_top hE s n (by simpa [sortM] using hs) (by show _ < nxt_ S n; omega), storeP_shut hl h⟩
theorem l_one {p q : Nat} {S : MS} {B : List (List UInt8)} {d : Do1} {w : AV} (hE : EnvT E) (hi : Inv S B) (hL : S.L.length < 65535) (hT : S.T.length < 65535) (hw : OldBy W d.b w) (hb : d.b.length ≤ 100) (h : Holds H (storeP W p S :: refP W q S.L B :: Γ)) :
    ∃ H', go W E 11 [.ptr (some ⟨.own p, 0⟩), .ptr (some ⟨.own q, 0⟩), .agg (doC d w)] H = some (.bool true, H') ∧ Next W p q S Γ H' := by
  suffices Ends (fun r H' => r = .bool true ∧ Next W p q S Γ H') (go W E 11 [.ptr (some ⟨.own p, 0⟩), .ptr (some ⟨.own q, 0⟩), .agg (doC d w)] H) by
    obtain ⟨⟨r, H'⟩, e, hr, hn⟩ := this
    simp only at hr hn
    subst hr
    exact ⟨H', e, hn⟩
  have hBl : B.length = S.T.length := by rw [← hi.t]; simp
  have hwo := noUnk_by (hw H)
  have h1 := h.push (c := doC d w) (t := 36)
  have g1 := h1.get
  rw [go_code hE.f11 (by simp [sf11])]
  obtain ⟨k, n, ⟨t1, t2, t3⟩, b⟩ := d
  simp only [doC] at g1 h1 ⊢
  by_cases e1 : k = 1
  · subst e1
    obtain ⟨p1, p2, p3⟩ := hi.put (t1, t2, t3)
    simp only [sf11, ↓g1, ↓sxp, sxq, ↓reduceIte, Nat.reduceBEq, Nat.reduceLT, evP, evX, evR, blkOf, evA, storeA, Nat.reduceEqDiff, resL, resV, oneOrTup, Int.reduceEq, Int.reduceLT, Int.reduceLE, Int.reduceNeg, Int.reduceAdd, Int.reduceSub, Int.reduceMul, Int.reduceToNat, Nat.reduceAdd, noUnk, AV.cells, reduceCtorEq, Nat.reduceLeDiff, Cells.get, Cells.getN, Nat.reduceMul, ↓bnd_assoc]
    refine Ends.call (s_put hE (h1.ord [1]) (t1, t2, t3) (by omega)) fun H2 h2 => ?_
    have g2 := (h2.ord [1]).get
    simp only [↓g2, ↓sxp, sxq, ↓reduceIte, Nat.reduceBEq, Nat.reduceLT, evP, evX, evR, blkOf, evA, storeA, Nat.reduceEqDiff, resL, resV, oneOrTup, Int.reduceEq, Int.reduceLT, Int.reduceLE, Int.reduceNeg, Int.reduceAdd, Int.reduceSub, Int.reduceMul, Int.reduceToNat, Nat.reduceAdd, noUnk, AV.cells, reduceCtorEq, Nat.reduceLeDiff, Cells.get, Cells.getN, Nat.reduceMul, ↓bnd_assoc]
    refine Ends.call (r_put hE (h2.ord [2]) (t1, t2, t3) (by omega)) fun H3 h3 => ?_
    rw [p1] at h3 ⊢
    simp only [↓sxp, sxq, ↓reduceIte, Nat.reduceBEq, Nat.reduceLT, evP, evX, evR, blkOf, evA, storeA, Nat.reduceEqDiff, resL, resV, oneOrTup, Int.reduceEq, Int.reduceLT, Int.reduceLE, Int.reduceNeg, Int.reduceAdd, Int.reduceSub, Int.reduceMul, Int.reduceToNat, Nat.reduceAdd, noUnk, AV.cells, reduceCtorEq, Nat.reduceLeDiff, Cells.get, Cells.getN, Nat.reduceMul, ↓bnd_assoc]
    exact Ends.ret ⟨rfl, _, _, p2, putM_len _ _, by rw [p3]; omega, (h3.ord [1, 0]).rm 2⟩
  by_cases e2 : k = 2
  · subst e2
    obtain ⟨p1, p2, p3, _, _⟩ := hi.draw n
    simp only [sf11, ↓g1, ↓sxp, sxq, ↓reduceIte, Nat.reduceBEq, Nat.reduceLT, evP, evX, evR, blkOf, evA, storeA, Nat.reduceEqDiff, resL, resV, oneOrTup, Int.reduceEq, Int.reduceLT, Int.reduceLE, Int.reduceNeg, Int.reduceAdd, Int.reduceSub, Int.reduceMul, Int.reduceToNat, Nat.reduceAdd, noUnk, AV.cells, reduceCtorEq, Nat.reduceLeDiff, Cells.get, Cells.getN, Nat.reduceMul, ↓bnd_assoc]
    refine Ends.call (s_draw' hE hi (h1.ord [1]) n (by omega)) fun H2 h2 => ?_
    have g2 := (h2.ord [1]).get
    simp only [↓g2, ↓sxp, sxq, ↓reduceIte, Nat.reduceBEq, Nat.reduceLT, evP, evX, evR, blkOf, evA, storeA, Nat.reduceEqDiff, resL, resV, oneOrTup, Int.reduceEq, Int.reduceLT, Int.reduceLE, Int.reduceNeg, Int.reduceAdd, Int.reduceSub, Int.reduceMul, Int.reduceToNat, Nat.reduceAdd, noUnk, AV.cells, reduceCtorEq, Nat.reduceLeDiff, Cells.get, Cells.getN, Nat.reduceMul, ↓bnd_assoc]
    refine Ends.call (r_draw hE (h2.ord [2]) n (by omega)) fun H3 h3 => ?_
    rw [p1] at h3 ⊢
    simp only [↓sxp, sxq, ↓reduceIte, Nat.reduceBEq, Nat.reduceLT, evP, evX, evR, blkOf, evA, storeA, Nat.reduceEqDiff, resL, resV, oneOrTup, Int.reduceEq, Int.reduceLT, Int.reduceLE, Int.reduceNeg, Int.reduceAdd, Int.reduceSub, Int.reduceMul, Int.reduceToNat, Nat.reduceAdd, noUnk, AV.cells, reduceCtorEq, Nat.reduceLeDiff, Cells.get, Cells.getN, Nat.reduceMul, ↓bnd_assoc]
    exact Ends.ret ⟨rfl, _, _, p2, drawM_len _ _, by rw [p3]; omega, (h3.ord [1, 0]).rm 2⟩
  by_cases e3 : k = 3
  · subst e3
    obtain ⟨p1, p2⟩ := hi.text hb
    simp only [sf11, ↓g1, ↓sxp, sxq, ↓reduceIte, Nat.reduceBEq, Nat.reduceLT, evP, evX, evR, blkOf, evA, storeA, Nat.reduceEqDiff, resL, resV, oneOrTup, Int.reduceEq, Int.reduceLT, Int.reduceLE, Int.reduceNeg, Int.reduceAdd, Int.reduceSub, Int.reduceMul, Int.reduceToNat, Nat.reduceAdd, noUnk, AV.cells, reduceCtorEq, Nat.reduceLeDiff, Cells.get, Cells.getN, Nat.reduceMul, ↓bnd_assoc]
    refine Ends.call (s_text hE (h1.ord [1]) hw (by omega) (by omega) (by omega) hi.fresh) fun H2 h2 => ?_
    have g2 := (h2.ord [1]).get
    simp only [↓g2, ↓sxp, sxq, ↓reduceIte, Nat.reduceBEq, Nat.reduceLT, evP, evX, evR, blkOf, evA, storeA, Nat.reduceEqDiff, resL, resV, oneOrTup, Int.reduceEq, Int.reduceLT, Int.reduceLE, Int.reduceNeg, Int.reduceAdd, Int.reduceSub, Int.reduceMul, Int.reduceToNat, Nat.reduceAdd, noUnk, AV.cells, reduceCtorEq, Nat.reduceLeDiff, Cells.get, Cells.getN, Nat.reduceMul, ↓bnd_assoc]
    refine Ends.call (r_text hE (h2.ord [2]) hw (by omega) (by omega) hi.bl') fun H3 h3 => ?_
    have q1 : (textR S.L B b).1 = textN S b := by rw [p1]
    have q2 : (textR S.L B b).2.1 = (textM S b).L := by rw [p1]
    rw [q2] at h3
    rw [q1]
    simp only [↓sxp, sxq, ↓reduceIte, Nat.reduceBEq, Nat.reduceLT, evP, evX, evR, blkOf, evA, storeA, Nat.reduceEqDiff, resL, resV, oneOrTup, Int.reduceEq, Int.reduceLT, Int.reduceLE, Int.reduceNeg, Int.reduceAdd, Int.reduceSub, Int.reduceMul, Int.reduceToNat, Nat.reduceAdd, noUnk, AV.cells, reduceCtorEq, Nat.reduceLeDiff, Cells.get, Cells.getN, Nat.reduceMul, ↓bnd_assoc]
    exact Ends.ret ⟨rfl, _, _, p2, (textM_len _ _).1, (textM_len _ _).2, (h3.ord [1, 0]).rm 2⟩
  simp only [sf11, ↓g1, e1, e2, e3, ↓sxp, sxq, ↓reduceIte, Nat.reduceBEq, Nat.reduceLT, evP, evX, evR, blkOf, evA, storeA, Nat.reduceEqDiff, resL, resV, oneOrTup, Int.reduceEq, Int.reduceLT, Int.reduceLE, Int.reduceNeg, Int.reduceAdd, Int.reduceSub, Int.reduceMul, Int.reduceToNat, Nat.reduceAdd, noUnk, AV.cells, reduceCtorEq, Nat.reduceLeDiff, Cells.get, Cells.getN, Nat.reduceMul, ↓bnd_assoc]
  exact Ends.ret ⟨rfl, S, B, hi, by omega, by omega, h1.tail⟩
end
end Go.Proofs.Ytnfehkjkmlbceaa.Sx

/- TermPuts: the pieces of the law. -/
namespace Go.Proofs.Ytnfehkjkmlbceaa.Sx
open HP
section
variable {W : World} {E : Env} {H : Heap} {Γ : List HP}
theorem puts_loop {ds : List Do1} {v : AV} {p q bw br : Nat} (hE : EnvT E) (hv : Dos W ds v) (hf : fewL ds = true) (hd : ds.length ≤ 30) : ∀ (m i : Nat) (A : Tm) (H : Heap) (S : MS) (B : List (List UInt8)), i + m = ds.length → getX A 2 = .ptr (some ⟨.own br, 0⟩) → getX A 3 = .ptr (some ⟨.own p, 0⟩) → getX A 4 = .ptr (some ⟨.own bw, 0⟩) → getX A 27 = v → getX A 28 = .int .i64 ds.length → getX A 29 = .int .i64 i →
    Inv S B → S.L.length ≤ i → S.T.length ≤ i → Holds H (storeP W p S :: refP W q S.L B :: blk bw [.ptr (some ⟨.own q, 0⟩)] 27 :: blk br [.bool false] 4 :: Γ) →
    ∃ lv A' H', run W E (.loop lp3_0) ⟨A, [], none⟩ H = some (lv, ⟨A', [], none⟩, H') ∧ (lv = .exit 0 ∧ getX A' 2 = .ptr (some ⟨.own br, 0⟩) ∧ getX A' 3 = .ptr (some ⟨.own p, 0⟩) ∧ getX A' 4 = .ptr (some ⟨.own bw, 0⟩) ∧
      ∃ S B, Inv S B ∧ S.L.length ≤ 30 ∧ S.T.length ≤ 30 ∧ Holds H' (storeP W p S :: refP W q S.L B :: blk bw [.ptr (some ⟨.own q, 0⟩)] 27 :: blk br [.bool false] 4 :: Γ)) := by
  have hlp : ∀ f H, run W E lp3_0 f H = run W E lp3_0 f H := fun _ _ => rfl
  conv at hlp => enter [f, H, 2]; unfold lp3_0
  obtain ⟨hlen, hva, hget⟩ := hv
  intro m
  induction m with
  | zero =>
    intro i A H S B him h2 h3 h4 h27 h28 h29 hi hL hT h
    have : i = ds.length := by omega
    subst this
    have hlt : ¬ (ds.length : Int) < ds.length := by omega
    rw [run_loop]
    simp only [hlp, h28, h29, hlt, ↓sxp, sxq, ↓reduceIte, Nat.reduceBEq, Nat.reduceLT, evP, evX, evR, blkOf, evA, storeA, Nat.reduceEqDiff, resL, resV, oneOrTup, Int.reduceEq, Int.reduceLT, Int.reduceLE, Int.reduceNeg, Int.reduceAdd, Int.reduceSub, Int.reduceMul, Int.reduceToNat, Nat.reduceAdd, noUnk, AV.cells, reduceCtorEq, Nat.reduceLeDiff, Cells.get, Cells.getN, Nat.reduceMul, ↓bnd_assoc]
    exact ⟨_, _, _, rfl, rfl, by simp only [h2, ↓sxp, sxq, ↓reduceIte, Nat.reduceBEq, Nat.reduceLT, evP, evX, evR, blkOf, evA, storeA, Nat.reduceEqDiff, resL, resV, oneOrTup, Int.reduceEq, Int.reduceLT, Int.reduceLE, Int.reduceNeg, Int.reduceAdd, Int.reduceSub, Int.reduceMul, Int.reduceToNat, Nat.reduceAdd, noUnk, AV.cells, reduceCtorEq, Nat.reduceLeDiff, Cells.get, Cells.getN, Nat.reduceMul, ↓bnd_assoc], by simp only [h3, ↓sxp, sxq, ↓reduceIte, Nat.reduceBEq, Nat.reduceLT, evP, evX, evR, blkOf, evA, storeA, Nat.reduceEqDiff, resL, resV, oneOrTup, Int.reduceEq, Int.reduceLT, Int.reduceLE, Int.reduceNeg, Int.reduceAdd, Int.reduceSub, Int.reduceMul, Int.reduceToNat, Nat.reduceAdd, noUnk, AV.cells, reduceCtorEq, Nat.reduceLeDiff, Cells.get, Cells.getN, Nat.reduceMul, ↓bnd_assoc], by simp only [h4, ↓sxp, sxq, ↓reduceIte, Nat.reduceBEq, Nat.reduceLT, evP, evX, evR, blkOf, evA, storeA, Nat.reduceEqDiff, resL, resV, oneOrTup, Int.reduceEq, Int.reduceLT, Int.reduceLE, Int.reduceNeg, Int.reduceAdd, Int.reduceSub, Int.reduceMul, Int.reduceToNat, Nat.reduceAdd, noUnk, AV.cells, reduceCtorEq, Nat.reduceLeDiff, Cells.get, Cells.getN, Nat.reduceMul, ↓bnd_assoc], S, B, hi, by omega, by omega, h⟩
  | succ m ih =>
    intro i A H S B him h2 h3 h4 h27 h28 h29 hi hL hT h
    have hlt : (i : Int) < ds.length := by omega
    obtain ⟨ptr, w, e1, e2, hw⟩ := hget i (by omega)
    have hwr : IntKind.i64.wrap ((i : Int) + 1) = ((i + 1 : Nat) : Int) := by rw [w64 (by omega)]; simp
    have hb : ds[i].b.length ≤ 100 := by
      have := List.all_eq_true.1 hf ds[i] (List.getElem_mem _)
      simpa using this
    generalize ds[i] = d at *
    have h5 := h.push (c := [.int .i64 0, .int .i64 0, .int .i64 0, .int .i64 0, .int .i64 0, .sl none 0 (.exact 0)]) (t := 36)
    obtain ⟨w1, h6⟩ := h5.writeN (off := 0) (c' := doC d w) (vs := doC d w) rfl (by simp [doC]) (by simp only [doC, List.all_cons, List.all_nil, noUnk_by (hw H), oneC_int, Bool.and_self])
    obtain ⟨H7, e7, S', B', hi', hL', hT', h7⟩ := l_one (d := d) (w := w) hE hi (by omega) (by omega) hw hb ((h6.bump 15).ord [1, 1])
    have e8 := s_len (S := S') hE h7
    obtain ⟨vl, vb, fb, al, cl, ab, cb', rfl, rfl, ho, hq, hl, hbb⟩ := refP_facts (h7.ord [1])
    have gd6 := h6.get
    have gw6 := (h6.ord [3]).get
    have gw7 := (h7.ord [3]).get
    obtain ⟨k, n, ⟨t1, t2, t3⟩, b⟩ := d
    simp only [doC] at e2 w1 h6 e7 gd6 gw6 h7
    simp only [setAt_next, push_next] at e7
    rw [run_loop]
    simp only [hlp, h2, h3, h4, h27, h28, h29, hlt, e1, e2, w1, ↓gd6, ↓gw6, ↓gw7, ↓hq, e7, e8, hwr, ↓sxp, sxq, ↓reduceIte, Nat.reduceBEq, Nat.reduceLT, evP, evX, evR, blkOf, evA, storeA, Nat.reduceEqDiff, resL, resV, oneOrTup, Int.reduceEq, Int.reduceLT, Int.reduceLE, Int.reduceNeg, Int.reduceAdd, Int.reduceSub, Int.reduceMul, Int.reduceToNat, Nat.reduceAdd, noUnk, AV.cells, reduceCtorEq, Nat.reduceLeDiff, Cells.get, Cells.getN, Nat.reduceMul, ↓bnd_assoc]
    exact loop_mono (ih (i + 1) _ _ S' B' (by omega) (by simp only [h2, ↓sxp, sxq, ↓reduceIte, Nat.reduceBEq, Nat.reduceLT, evP, evX, evR, blkOf, evA, storeA, Nat.reduceEqDiff, resL, resV, oneOrTup, Int.reduceEq, Int.reduceLT, Int.reduceLE, Int.reduceNeg, Int.reduceAdd, Int.reduceSub, Int.reduceMul, Int.reduceToNat, Nat.reduceAdd, noUnk, AV.cells, reduceCtorEq, Nat.reduceLeDiff, Cells.get, Cells.getN, Nat.reduceMul, ↓bnd_assoc]) (by simp only [h3, ↓sxp, sxq, ↓reduceIte, Nat.reduceBEq, Nat.reduceLT, evP, evX, evR, blkOf, evA, storeA, Nat.reduceEqDiff, resL, resV, oneOrTup, Int.reduceEq, Int.reduceLT, Int.reduceLE, Int.reduceNeg, Int.reduceAdd, Int.reduceSub, Int.reduceMul, Int.reduceToNat, Nat.reduceAdd, noUnk, AV.cells, reduceCtorEq, Nat.reduceLeDiff, Cells.get, Cells.getN, Nat.reduceMul, ↓bnd_assoc]) (by simp only [h4, ↓sxp, sxq, ↓reduceIte, Nat.reduceBEq, Nat.reduceLT, evP, evX, evR, blkOf, evA, storeA, Nat.reduceEqDiff, resL, resV, oneOrTup, Int.reduceEq, Int.reduceLT, Int.reduceLE, Int.reduceNeg, Int.reduceAdd, Int.reduceSub, Int.reduceMul, Int.reduceToNat, Nat.reduceAdd, noUnk, AV.cells, reduceCtorEq, Nat.reduceLeDiff, Cells.get, Cells.getN, Nat.reduceMul, ↓bnd_assoc]) (by simp only [h27, ↓sxp, sxq, ↓reduceIte, Nat.reduceBEq, Nat.reduceLT, evP, evX, evR, blkOf, evA, storeA, Nat.reduceEqDiff, resL, resV, oneOrTup, Int.reduceEq, Int.reduceLT, Int.reduceLE, Int.reduceNeg, Int.reduceAdd, Int.reduceSub, Int.reduceMul, Int.reduceToNat, Nat.reduceAdd, noUnk, AV.cells, reduceCtorEq, Nat.reduceLeDiff, Cells.get, Cells.getN, Nat.reduceMul, ↓bnd_assoc]) (by simp only [h28, ↓sxp, sxq, ↓reduceIte, Nat.reduceBEq, Nat.reduceLT, evP, evX, evR, blkOf, evA, storeA, Nat.reduceEqDiff, resL, resV, oneOrTup, Int.reduceEq, Int.reduceLT, Int.reduceLE, Int.reduceNeg, Int.reduceAdd, Int.reduceSub, Int.reduceMul, Int.reduceToNat, Nat.reduceAdd, noUnk, AV.cells, reduceCtorEq, Nat.reduceLeDiff, Cells.get, Cells.getN, Nat.reduceMul, ↓bnd_assoc]) (by simp only [↓sxp, sxq, ↓reduceIte, Nat.reduceBEq, Nat.reduceLT, evP, evX, evR, blkOf, evA, storeA, Nat.reduceEqDiff, resL, resV, oneOrTup, Int.reduceEq, Int.reduceLT, Int.reduceLE, Int.reduceNeg, Int.reduceAdd, Int.reduceSub, Int.reduceMul, Int.reduceToNat, Nat.reduceAdd, noUnk, AV.cells, reduceCtorEq, Nat.reduceLeDiff, Cells.get, Cells.getN, Nat.reduceMul, ↓bnd_assoc]) hi' (by omega) (by omega) (h7.rm 2)) fun _ _ _ h => h
end
end Go.Proofs.Ytnfehkjkmlbceaa.Sx

/- TermPuts: the range, and the loop over what the document has. -/
namespace Go.Proofs.Ytnfehkjkmlbceaa.Sx
open HP
section
variable {W : World} {E : Env} {H : Heap} {Γ : List HP}
theorem puts_round {p bx q bw bn br : Nat} {S : MS} {B : List (List UInt8)} {l d : Nat} {tm : Tm} (h4 : getX tm 4 = .ptr (some ⟨.own bw, 0⟩)) (h7 : getX tm 7 = .ptr (some ⟨.own bn, 0⟩)) (hb : S.L.length < 65536) (i : Nat) (x : T3) (hx : S.L[i]? = some x) :
    RoundOk W E p bx S l d tm [51, 52] ra3_1 rb3_1 (fun i => refP W q S.L B :: blk bw [.ptr (some ⟨.own q, 0⟩)] 27 :: blk bn [.int .i64 i] 3 :: blk br [.bool false] 4 :: Γ) (fun y => [HP.pure False]) i x := by
  intro H h
  have hi : i < S.L.length := (List.getElem?_eq_some_iff.1 hx).1
  have hi0 : (0 : Int) ≤ i ∧ (i : Int) < S.L.length := by omega
  have hge : ¬ (S.L.length : Int) ≤ i := by omega
  have hg3 := getN3 hx
  obtain ⟨k, u, w⟩ := x
  have hra : ∀ f H, run W E ra3_1 f H = run W E ra3_1 f H := fun _ _ => rfl
  conv at hra => enter [f, H, 2]; unfold ra3_1
  have hrbd : ∀ f H, run W E rb3_1 f H = run W E rb3_1 f H := fun _ _ => rfl
  conv at hrbd => enter [f, H, 2]; unfold rb3_1
  have heq := eqL3 (k, u, w) (k, u, w)
  simp only [c3, decide_true] at heq hg3 ⊢
  rw [yld_eq h rfl]
  have q1 := h.push (c := [.int .i64 0, .int .i64 0, .int .i64 0]) (t := 33)
  obtain ⟨w1, q2⟩ := q1.writeN (off := 0) (c' := [.int .i64 k, .int .i64 u, .int .i64 w]) (vs := [.int .i64 k, .int .i64 u, .int .i64 w]) rfl (by simp) rfl
  obtain ⟨hrb, q3⟩ := rnd_b (ex := run W E) (q2.ord [1])
  simp only [hra, putsT_cons, putsT_nil, w1, hrb, ↓sxp, sxq, ↓reduceIte, Nat.reduceBEq, Nat.reduceLT, evP, evX, evR, blkOf, evA, storeA, Nat.reduceEqDiff, resL, resV, oneOrTup, Int.reduceEq, Int.reduceLT, Int.reduceLE, Int.reduceNeg, Int.reduceAdd, Int.reduceSub, Int.reduceMul, Int.reduceToNat, Nat.reduceAdd, noUnk, AV.cells, reduceCtorEq, Nat.reduceLeDiff, Cells.get, Cells.getN, Nat.reduceMul, ↓bnd_assoc]
  -- the round
  generalize H.next = bt at *
  generalize (H.push (.cells (.lst [.int .i64 0, .int .i64 0, .int .i64 0]) 33 none)).setAt bt (.cells (.lst [.int .i64 k, .int .i64 u, .int .i64 w]) 33 none) = H1 at *
  generalize H1.setAt l (.loop .busy none tm [51, 52] ra3_1 rb3_1 d) = H2 at *
  have r1 : Holds H2 (busy l tm [51, 52] ra3_1 rb3_1 d :: blk bt [.int .i64 k, .int .i64 u, .int .i64 w] 33 :: mark d :: storeP W p S :: blk bx [.ptr (some ⟨.own p, 0⟩)] 25 :: refP W q S.L B :: blk bw [.ptr (some ⟨.own q, 0⟩)] 27 :: blk bn [.int .i64 i] 3 :: blk br [.bool false] 4 :: Γ) := q3
  have gt := (r1.ord [1]).get
  have gw := (r1.ord [6]).get
  have gn := (r1.ord [7]).get
  obtain ⟨vl, vb, fb, al, cl, ab, cb', rfl, rfl, ho, hq, hl, hbb⟩ := refP_facts (r1.ord [5])
  obtain ⟨j, l', rfl, hg⟩ := hl (by omega)
  have hw1 : IntKind.i64.wrap ((i : Int) + 1) = ((i + 1 : Nat) : Int) := by rw [w64 (by omega)]; simp
  obtain ⟨w2, r2⟩ := ((r1.bump 23).ord [7]).writeN (off := 0) (c' := [.int .i64 ((i + 1 : Nat) : Int)]) (vs := [.int .i64 ((i + 1 : Nat) : Int)]) rfl (by simp) rfl
  obtain ⟨hre, r3⟩ := rnd_n (r2.ord [1])
  have fin := (r3.rm 2).ord [0, 1, 1, 1, 1, 1]
  refine ⟨_, .inl ⟨?_, fin⟩⟩
  simp only [hrbd, h4, h7, ↓gt, ↓gw, ↓gn, ↓hq, ↓hg, ↓hg3, hi0, hge, and_self, heq, hw1, w2, hre, Int.toNat_natCast, ↓sxp, sxq, ↓reduceIte, Nat.reduceBEq, Nat.reduceLT, evP, evX, evR, blkOf, evA, storeA, Nat.reduceEqDiff, resL, resV, oneOrTup, Int.reduceEq, Int.reduceLT, Int.reduceLE, Int.reduceNeg, Int.reduceAdd, Int.reduceSub, Int.reduceMul, Int.reduceToNat, Nat.reduceAdd, noUnk, AV.cells, reduceCtorEq, Nat.reduceLeDiff, Cells.get, Cells.getN, Nat.reduceMul, ↓bnd_assoc]
end
end Go.Proofs.Ytnfehkjkmlbceaa.Sx

/- TermPuts: the loop over what the document has. -/
namespace Go.Proofs.Ytnfehkjkmlbceaa.Sx
open HP
section
variable {W : World} {E : Env} {H : Heap} {Γ : List HP}
theorem hasM_in {L : List T3} {i : Nat} {x : T3} (h : L[i]? = some x) (k : Int) : hasM L (i : Int) k = (decide (k = 0) || decide (x.1 = k)) := by
  have hi := (List.getElem?_eq_some_iff.1 h).1
  have h1 : (0 : Int) ≤ i := by omega
  have h2 : (i : Int) < L.length := by omega
  have h3 : L.getD (i : Int).toNat (0, 0, 0) = x := by simp [List.getD_eq_getElem?_getD, h]
  simp only [hasM, h1, h2, h3, decide_true, Bool.true_and]
theorem getM_in {S : MS} {i : Nat} {x : T3} (h : S.L[i]? = some x) : getM S (i : Int) = x := by
  simp only [getM, hasM_in h]
  simp [List.getD_eq_getElem?_getD, h]
theorem puts_loop2 {p q bw bn br : Nat} {S : MS} {B : List (List UInt8)} {vl vb : AV} {fb : List AV} {df : List Nat} (hE : EnvT E) (hi : Inv S B) (hL : S.L.length ≤ 30) : ∀ (m i : Nat) (A : Tm) (H : Heap), i + m = S.L.length → getX A 2 = .ptr (some ⟨.own br, 0⟩) → getX A 3 = .ptr (some ⟨.own p, 0⟩) → getX A 4 = .ptr (some ⟨.own bw, 0⟩) → getX A 7 = .ptr (some ⟨.own bn, 0⟩) → getX A 81 = vl → getX A 82 = .int .i64 S.L.length → getX A 83 = .int .i64 i →
    Holds H (storeP W p S :: refI W q S.L B vl vb fb :: blk bw [.ptr (some ⟨.own q, 0⟩)] 27 :: Γ) →
    ∃ lv A' H', run W E (.loop lp3_2) ⟨A, df, none⟩ H = some (lv, ⟨A', df, none⟩, H') ∧ (lv = .exit 4 ∧ getX A' 2 = .ptr (some ⟨.own br, 0⟩) ∧ getX A' 3 = .ptr (some ⟨.own p, 0⟩) ∧ getX A' 4 = .ptr (some ⟨.own bw, 0⟩) ∧ getX A' 7 = .ptr (some ⟨.own bn, 0⟩) ∧
      Holds H' (storeP W p S :: refI W q S.L B vl vb fb :: blk bw [.ptr (some ⟨.own q, 0⟩)] 27 :: Γ)) := by
  have hlp : ∀ f H, run W E lp3_2 f H = run W E lp3_2 f H := fun _ _ => rfl
  conv at hlp => enter [f, H, 2]; unfold lp3_2
  have hBl : B.length = S.T.length := by rw [← hi.t]; simp
  intro m
  induction m with
  | zero =>
    intro i A H him h2 h3 h4 h7 h81 h82 h83 h
    have : i = S.L.length := by omega
    subst this
    have hlt : ¬ (S.L.length : Int) < S.L.length := by omega
    rw [run_loop]
    simp only [hlp, h82, h83, hlt, ↓sxp, sxq, ↓reduceIte, Nat.reduceBEq, Nat.reduceLT, evP, evX, evR, blkOf, evA, storeA, Nat.reduceEqDiff, resL, resV, oneOrTup, Int.reduceEq, Int.reduceLT, Int.reduceLE, Int.reduceNeg, Int.reduceAdd, Int.reduceSub, Int.reduceMul, Int.reduceToNat, Nat.reduceAdd, noUnk, AV.cells, reduceCtorEq, Nat.reduceLeDiff, Cells.get, Cells.getN, Nat.reduceMul, ↓bnd_assoc]
    exact ⟨_, _, _, rfl, rfl, by simp only [h2, ↓sxp, sxq, ↓reduceIte, Nat.reduceBEq, Nat.reduceLT, evP, evX, evR, blkOf, evA, storeA, Nat.reduceEqDiff, resL, resV, oneOrTup, Int.reduceEq, Int.reduceLT, Int.reduceLE, Int.reduceNeg, Int.reduceAdd, Int.reduceSub, Int.reduceMul, Int.reduceToNat, Nat.reduceAdd, noUnk, AV.cells, reduceCtorEq, Nat.reduceLeDiff, Cells.get, Cells.getN, Nat.reduceMul, ↓bnd_assoc], by simp only [h3, ↓sxp, sxq, ↓reduceIte, Nat.reduceBEq, Nat.reduceLT, evP, evX, evR, blkOf, evA, storeA, Nat.reduceEqDiff, resL, resV, oneOrTup, Int.reduceEq, Int.reduceLT, Int.reduceLE, Int.reduceNeg, Int.reduceAdd, Int.reduceSub, Int.reduceMul, Int.reduceToNat, Nat.reduceAdd, noUnk, AV.cells, reduceCtorEq, Nat.reduceLeDiff, Cells.get, Cells.getN, Nat.reduceMul, ↓bnd_assoc], by simp only [h4, ↓sxp, sxq, ↓reduceIte, Nat.reduceBEq, Nat.reduceLT, evP, evX, evR, blkOf, evA, storeA, Nat.reduceEqDiff, resL, resV, oneOrTup, Int.reduceEq, Int.reduceLT, Int.reduceLE, Int.reduceNeg, Int.reduceAdd, Int.reduceSub, Int.reduceMul, Int.reduceToNat, Nat.reduceAdd, noUnk, AV.cells, reduceCtorEq, Nat.reduceLeDiff, Cells.get, Cells.getN, Nat.reduceMul, ↓bnd_assoc], by simp only [h7, ↓sxp, sxq, ↓reduceIte, Nat.reduceBEq, Nat.reduceLT, evP, evX, evR, blkOf, evA, storeA, Nat.reduceEqDiff, resL, resV, oneOrTup, Int.reduceEq, Int.reduceLT, Int.reduceLE, Int.reduceNeg, Int.reduceAdd, Int.reduceSub, Int.reduceMul, Int.reduceToNat, Nat.reduceAdd, noUnk, AV.cells, reduceCtorEq, Nat.reduceLeDiff, Cells.get, Cells.getN, Nat.reduceMul, ↓bnd_assoc], h⟩
  | succ m ih =>
    intro i A H him a2 a3 a4 a7 a81 a82 a83 h
    obtain ⟨al, cl, ab, cb', rfl, rfl, ho, hq, hl, hbb⟩ := refI_facts (h.ord [1])
    obtain ⟨j, l', rfl, hg⟩ := hl (by omega)
    have hlt : (i : Int) < S.L.length := by omega
    have hi0 : (0 : Int) ≤ i ∧ (i : Int) < S.L.length := by omega
    have hx : S.L[i]? = some S.L[i] := List.getElem?_eq_getElem (by omega)
    have hg3 := getN3 hx
    have hh0 := hasM_in hx 0
    have hh9 := hasM_in hx 9
    have hgm := getM_in hx
    have hnt := hi.nt S.L[i] (List.getElem_mem _)
    have hbm : bytesM S (i : Int) = if S.L[i].1 = 9 then ((S.T.map (·.1))[S.L[i].2.1.toNat]?).getD [] else [] := by
      simp only [bytesM, hh9]
      simp [List.getD_eq_getElem?_getD, hx]
    have hA : hasM S.L (i : Int) 9 = true → 0 ≤ (S.L.getD (i : Int).toNat (0, 0, 0)).2.1 ∧ (S.L.getD (i : Int).toNat (0, 0, 0)).2.1 < S.T.length := fun hk => by
      rw [hh9] at hk
      have h9 : S.L[i].1 = 9 := by simpa using hk
      have := hnt h9
      have e : S.L.getD (i : Int).toNat (0, 0, 0) = S.L[i] := by simp [List.getD_eq_getElem?_getD, hx]
      rw [e]; exact ⟨this.1, this.2.1⟩
    have hB : ∀ b ∈ S.T, b.1.length ≤ 1048576 := fun b hb => by have := hi.bl b hb; omega
    generalize S.L[i] = x at *
    have hx0 := hx
    obtain ⟨k, u, w⟩ := x
    simp only at hh9 hbm hnt
    have heq := eqL3 (k, u, w) (k, u, w)
    have hwr : IntKind.i64.wrap ((i : Int) + 1) = ((i + 1 : Nat) : Int) := by rw [w64 (by omega)]; simp
    simp only [c3, decide_true, Bool.true_or] at heq hg3 hh0
    apply Fin.ex3
    rw [run_loop]
    simp only [hlp, a3, a81, a82, a83, hlt, hi0, and_self, ↓hg, ↓hg3, Int.toNat_natCast, ↓sxp, sxq, ↓reduceIte, Nat.reduceBEq, Nat.reduceLT, evP, evX, evR, blkOf, evA, storeA, Nat.reduceEqDiff, resL, resV, oneOrTup, Int.reduceEq, Int.reduceLT, Int.reduceLE, Int.reduceNeg, Int.reduceAdd, Int.reduceSub, Int.reduceMul, Int.reduceToNat, Nat.reduceAdd, noUnk, AV.cells, reduceCtorEq, Nat.reduceLeDiff, Cells.get, Cells.getN, Nat.reduceMul, ↓bnd_assoc]
    refine Fin.write [.int .i64 k, .int .i64 u, .int .i64 w] (h.push) rfl (by simp) rfl fun H1 h1 => ?_
    refine Fin.call (s_get hE (h1.ord [1]) i) fun H2 h2' => ?_
    rw [hgm, hh0]
    simp only [c3, ↓sxp, sxq, ↓reduceIte, Nat.reduceBEq, Nat.reduceLT, evP, evX, evR, blkOf, evA, storeA, Nat.reduceEqDiff, resL, resV, oneOrTup, Int.reduceEq, Int.reduceLT, Int.reduceLE, Int.reduceNeg, Int.reduceAdd, Int.reduceSub, Int.reduceMul, Int.reduceToNat, Nat.reduceAdd, noUnk, AV.cells, reduceCtorEq, Nat.reduceLeDiff, Cells.get, Cells.getN, Nat.reduceMul, ↓bnd_assoc]
    refine Fin.write [.int .i64 k, .int .i64 u, .int .i64 w] (h2'.push) rfl (by simp) rfl fun H3 h3' => ?_
    refine Fin.callE _ _ (s_bytes hE (h3'.ord [1]) i hA hB) fun bv H4 h4 => ?_
    have h4 : Holds H4 (by_ W (bytesM S (i : Int)) bv :: storeP W p S :: blk H2.next [.int .i64 k, .int .i64 u, .int .i64 w] 33 :: blk H.next [.int .i64 k, .int .i64 u, .int .i64 w] 33 :: refI W q S.L B (.sl (some ⟨.own j, 0⟩) S.L.length cl) (.sl ab B.length cb') fb :: blk bw [.ptr (some ⟨.own q, 0⟩)] 27 :: Γ) := h4
    have g1 := (h4.ord [3]).get
    have g2 := (h4.ord [2]).get
    have gw := (h4.ord [5]).get
    have hsz : sizeM S.L (i : Int) = (szs S.L).getD i 0 := by simp only [sizeM, hasM_in hx0, Int.toNat_natCast]; simp
    by_cases e9 : k = 9
    · subst e9
      simp only [if_true] at hbm
      obtain ⟨n0, n1, n2⟩ := hnt rfl
      obtain ⟨al', cl', ab', cb'', e5, e6, ho4, hq4, hl4, hbb4⟩ := refI_facts (h4.ord [4])
      obtain ⟨j3, l3, e7, hg4⟩ := hbb4 (by omega)
      cases e6
      subst e7
      obtain ⟨wv, hwv, how⟩ := ho4.get (i := u.toNat) (by omega)
      have hu0 : 0 ≤ u ∧ u < B.length := by omega
      have hbq : bytesM S (i : Int) = B[u.toNat]'(by omega) := by
        rw [hbm, hi.t, List.getElem?_eq_getElem (by omega)]; rfl
      have hlen : (bytesM S (i : Int)).length < 4611686018427387904 := by
        have := hi.bl' _ (List.getElem_mem (show u.toNat < B.length by omega)); rw [hbq]; omega
      rw [← hbq] at how
      have h5 := (h4.bump 9).bump 33
      obtain ⟨ids, hby⟩ := h5.by_get
      simp only [a4, ↓g1, ↓g2, ↓gw, ↓hq4, ↓hg4, hwv, hu0, and_self, hh9, heq, ↓sxp, sxq, ↓reduceIte, Nat.reduceBEq, Nat.reduceLT, evP, evX, evR, blkOf, evA, storeA, Nat.reduceEqDiff, resL, resV, oneOrTup, Int.reduceEq, Int.reduceLT, Int.reduceLE, Int.reduceNeg, Int.reduceAdd, Int.reduceSub, Int.reduceMul, Int.reduceToNat, Nat.reduceAdd, noUnk, AV.cells, reduceCtorEq, Nat.reduceLeDiff, Cells.get, Cells.getN, Nat.reduceMul, ↓bnd_assoc]
      refine Fin.call (w_same hE h5 hby (how _) hlen) fun H6 h6 => ?_
      simp only [decide_true, ↓sxp, sxq, ↓reduceIte, Nat.reduceBEq, Nat.reduceLT, evP, evX, evR, blkOf, evA, storeA, Nat.reduceEqDiff, resL, resV, oneOrTup, Int.reduceEq, Int.reduceLT, Int.reduceLE, Int.reduceNeg, Int.reduceAdd, Int.reduceSub, Int.reduceMul, Int.reduceToNat, Nat.reduceAdd, noUnk, AV.cells, reduceCtorEq, Nat.reduceLeDiff, Cells.get, Cells.getN, Nat.reduceMul, ↓bnd_assoc]
      by_cases e12 : (i : Int) < 12
      · simp only [a3, e12, ↓sxp, sxq, ↓reduceIte, Nat.reduceBEq, Nat.reduceLT, evP, evX, evR, blkOf, evA, storeA, Nat.reduceEqDiff, resL, resV, oneOrTup, Int.reduceEq, Int.reduceLT, Int.reduceLE, Int.reduceNeg, Int.reduceAdd, Int.reduceSub, Int.reduceMul, Int.reduceToNat, Nat.reduceAdd, noUnk, AV.cells, reduceCtorEq, Nat.reduceLeDiff, Cells.get, Cells.getN, Nat.reduceMul, ↓bnd_assoc]
        refine Fin.call (s_size hE (h6.ord [1]) i (by omega) hi.wf) fun H7 h7 => ?_
        have gw6 := (h6.ord [5]).get
        have gw7 := (h7.ord [5]).get
        simp only [a4, ↓gw6, ↓gw7, ↓sxp, sxq, ↓reduceIte, Nat.reduceBEq, Nat.reduceLT, evP, evX, evR, blkOf, evA, storeA, Nat.reduceEqDiff, resL, resV, oneOrTup, Int.reduceEq, Int.reduceLT, Int.reduceLE, Int.reduceNeg, Int.reduceAdd, Int.reduceSub, Int.reduceMul, Int.reduceToNat, Nat.reduceAdd, noUnk, AV.cells, reduceCtorEq, Nat.reduceLeDiff, Cells.get, Cells.getN, Nat.reduceMul, ↓bnd_assoc]
        refine Fin.call (r_size hE refI_like hi.wf i _ _ (by omega) (by omega) (h7.ord [4])) fun H8 h8 => ?_
        simp only [hsz, a83, hwr, ↓sxp, sxq, ↓reduceIte, Nat.reduceBEq, Nat.reduceLT, evP, evX, evR, blkOf, evA, storeA, Nat.reduceEqDiff, resL, resV, oneOrTup, Int.reduceEq, Int.reduceLT, Int.reduceLE, Int.reduceNeg, Int.reduceAdd, Int.reduceSub, Int.reduceMul, Int.reduceToNat, Nat.reduceAdd, noUnk, AV.cells, reduceCtorEq, Nat.reduceLeDiff, Cells.get, Cells.getN, Nat.reduceMul, ↓bnd_assoc]
        refine Fin.of3 (ih (i + 1) _ _ (by omega) (by simp only [a2, ↓sxp, sxq, ↓reduceIte, Nat.reduceBEq, Nat.reduceLT, evP, evX, evR, blkOf, evA, storeA, Nat.reduceEqDiff, resL, resV, oneOrTup, Int.reduceEq, Int.reduceLT, Int.reduceLE, Int.reduceNeg, Int.reduceAdd, Int.reduceSub, Int.reduceMul, Int.reduceToNat, Nat.reduceAdd, noUnk, AV.cells, reduceCtorEq, Nat.reduceLeDiff, Cells.get, Cells.getN, Nat.reduceMul, ↓bnd_assoc]) (by simp only [a3, ↓sxp, sxq, ↓reduceIte, Nat.reduceBEq, Nat.reduceLT, evP, evX, evR, blkOf, evA, storeA, Nat.reduceEqDiff, resL, resV, oneOrTup, Int.reduceEq, Int.reduceLT, Int.reduceLE, Int.reduceNeg, Int.reduceAdd, Int.reduceSub, Int.reduceMul, Int.reduceToNat, Nat.reduceAdd, noUnk, AV.cells, reduceCtorEq, Nat.reduceLeDiff, Cells.get, Cells.getN, Nat.reduceMul, ↓bnd_assoc]) (by simp only [a4, ↓sxp, sxq, ↓reduceIte, Nat.reduceBEq, Nat.reduceLT, evP, evX, evR, blkOf, evA, storeA, Nat.reduceEqDiff, resL, resV, oneOrTup, Int.reduceEq, Int.reduceLT, Int.reduceLE, Int.reduceNeg, Int.reduceAdd, Int.reduceSub, Int.reduceMul, Int.reduceToNat, Nat.reduceAdd, noUnk, AV.cells, reduceCtorEq, Nat.reduceLeDiff, Cells.get, Cells.getN, Nat.reduceMul, ↓bnd_assoc]) (by simp only [a7, ↓sxp, sxq, ↓reduceIte, Nat.reduceBEq, Nat.reduceLT, evP, evX, evR, blkOf, evA, storeA, Nat.reduceEqDiff, resL, resV, oneOrTup, Int.reduceEq, Int.reduceLT, Int.reduceLE, Int.reduceNeg, Int.reduceAdd, Int.reduceSub, Int.reduceMul, Int.reduceToNat, Nat.reduceAdd, noUnk, AV.cells, reduceCtorEq, Nat.reduceLeDiff, Cells.get, Cells.getN, Nat.reduceMul, ↓bnd_assoc]) (by simp only [a81, ↓sxp, sxq, ↓reduceIte, Nat.reduceBEq, Nat.reduceLT, evP, evX, evR, blkOf, evA, storeA, Nat.reduceEqDiff, resL, resV, oneOrTup, Int.reduceEq, Int.reduceLT, Int.reduceLE, Int.reduceNeg, Int.reduceAdd, Int.reduceSub, Int.reduceMul, Int.reduceToNat, Nat.reduceAdd, noUnk, AV.cells, reduceCtorEq, Nat.reduceLeDiff, Cells.get, Cells.getN, Nat.reduceMul, ↓bnd_assoc]) (by simp only [a82, ↓sxp, sxq, ↓reduceIte, Nat.reduceBEq, Nat.reduceLT, evP, evX, evR, blkOf, evA, storeA, Nat.reduceEqDiff, resL, resV, oneOrTup, Int.reduceEq, Int.reduceLT, Int.reduceLE, Int.reduceNeg, Int.reduceAdd, Int.reduceSub, Int.reduceMul, Int.reduceToNat, Nat.reduceAdd, noUnk, AV.cells, reduceCtorEq, Nat.reduceLeDiff, Cells.get, Cells.getN, Nat.reduceMul, ↓bnd_assoc]) (by simp only [↓sxp, sxq, ↓reduceIte, Nat.reduceBEq, Nat.reduceLT, evP, evX, evR, blkOf, evA, storeA, Nat.reduceEqDiff, resL, resV, oneOrTup, Int.reduceEq, Int.reduceLT, Int.reduceLE, Int.reduceNeg, Int.reduceAdd, Int.reduceSub, Int.reduceMul, Int.reduceToNat, Nat.reduceAdd, noUnk, AV.cells, reduceCtorEq, Nat.reduceLeDiff, Cells.get, Cells.getN, Nat.reduceMul, ↓bnd_assoc]) ((((h8.rm 4).rm 3).rm 2).ord [1, 0])) fun _ _ _ h => h
      · simp only [e12, a83, hwr, ↓sxp, sxq, ↓reduceIte, Nat.reduceBEq, Nat.reduceLT, evP, evX, evR, blkOf, evA, storeA, Nat.reduceEqDiff, resL, resV, oneOrTup, Int.reduceEq, Int.reduceLT, Int.reduceLE, Int.reduceNeg, Int.reduceAdd, Int.reduceSub, Int.reduceMul, Int.reduceToNat, Nat.reduceAdd, noUnk, AV.cells, reduceCtorEq, Nat.reduceLeDiff, Cells.get, Cells.getN, Nat.reduceMul, ↓bnd_assoc]
        refine Fin.of3 (ih (i + 1) _ _ (by omega) (by simp only [a2, ↓sxp, sxq, ↓reduceIte, Nat.reduceBEq, Nat.reduceLT, evP, evX, evR, blkOf, evA, storeA, Nat.reduceEqDiff, resL, resV, oneOrTup, Int.reduceEq, Int.reduceLT, Int.reduceLE, Int.reduceNeg, Int.reduceAdd, Int.reduceSub, Int.reduceMul, Int.reduceToNat, Nat.reduceAdd, noUnk, AV.cells, reduceCtorEq, Nat.reduceLeDiff, Cells.get, Cells.getN, Nat.reduceMul, ↓bnd_assoc]) (by simp only [a3, ↓sxp, sxq, ↓reduceIte, Nat.reduceBEq, Nat.reduceLT, evP, evX, evR, blkOf, evA, storeA, Nat.reduceEqDiff, resL, resV, oneOrTup, Int.reduceEq, Int.reduceLT, Int.reduceLE, Int.reduceNeg, Int.reduceAdd, Int.reduceSub, Int.reduceMul, Int.reduceToNat, Nat.reduceAdd, noUnk, AV.cells, reduceCtorEq, Nat.reduceLeDiff, Cells.get, Cells.getN, Nat.reduceMul, ↓bnd_assoc]) (by simp only [a4, ↓sxp, sxq, ↓reduceIte, Nat.reduceBEq, Nat.reduceLT, evP, evX, evR, blkOf, evA, storeA, Nat.reduceEqDiff, resL, resV, oneOrTup, Int.reduceEq, Int.reduceLT, Int.reduceLE, Int.reduceNeg, Int.reduceAdd, Int.reduceSub, Int.reduceMul, Int.reduceToNat, Nat.reduceAdd, noUnk, AV.cells, reduceCtorEq, Nat.reduceLeDiff, Cells.get, Cells.getN, Nat.reduceMul, ↓bnd_assoc]) (by simp only [a7, ↓sxp, sxq, ↓reduceIte, Nat.reduceBEq, Nat.reduceLT, evP, evX, evR, blkOf, evA, storeA, Nat.reduceEqDiff, resL, resV, oneOrTup, Int.reduceEq, Int.reduceLT, Int.reduceLE, Int.reduceNeg, Int.reduceAdd, Int.reduceSub, Int.reduceMul, Int.reduceToNat, Nat.reduceAdd, noUnk, AV.cells, reduceCtorEq, Nat.reduceLeDiff, Cells.get, Cells.getN, Nat.reduceMul, ↓bnd_assoc]) (by simp only [a81, ↓sxp, sxq, ↓reduceIte, Nat.reduceBEq, Nat.reduceLT, evP, evX, evR, blkOf, evA, storeA, Nat.reduceEqDiff, resL, resV, oneOrTup, Int.reduceEq, Int.reduceLT, Int.reduceLE, Int.reduceNeg, Int.reduceAdd, Int.reduceSub, Int.reduceMul, Int.reduceToNat, Nat.reduceAdd, noUnk, AV.cells, reduceCtorEq, Nat.reduceLeDiff, Cells.get, Cells.getN, Nat.reduceMul, ↓bnd_assoc]) (by simp only [a82, ↓sxp, sxq, ↓reduceIte, Nat.reduceBEq, Nat.reduceLT, evP, evX, evR, blkOf, evA, storeA, Nat.reduceEqDiff, resL, resV, oneOrTup, Int.reduceEq, Int.reduceLT, Int.reduceLE, Int.reduceNeg, Int.reduceAdd, Int.reduceSub, Int.reduceMul, Int.reduceToNat, Nat.reduceAdd, noUnk, AV.cells, reduceCtorEq, Nat.reduceLeDiff, Cells.get, Cells.getN, Nat.reduceMul, ↓bnd_assoc]) (by simp only [↓sxp, sxq, ↓reduceIte, Nat.reduceBEq, Nat.reduceLT, evP, evX, evR, blkOf, evA, storeA, Nat.reduceEqDiff, resL, resV, oneOrTup, Int.reduceEq, Int.reduceLT, Int.reduceLE, Int.reduceNeg, Int.reduceAdd, Int.reduceSub, Int.reduceMul, Int.reduceToNat, Nat.reduceAdd, noUnk, AV.cells, reduceCtorEq, Nat.reduceLeDiff, Cells.get, Cells.getN, Nat.reduceMul, ↓bnd_assoc]) ((((h6.rm 3).rm 2).rm 0))) fun _ _ _ h => h
    · have hbq : bytesM S (i : Int) = [] := by rw [hbm, if_neg e9]
      have how : OldBy W (bytesM S (i : Int)) (.sl none 0 (.exact 0)) := by rw [hbq]; exact fun H => .nil rfl
      have hlen : (bytesM S (i : Int)).length < 4611686018427387904 := by rw [hbq]; simp
      have h5 := h4.bump 33
      obtain ⟨ids, hby⟩ := h5.by_get
      have e9' : decide (k = 9) = false := by simp [e9]
      have e90 : decide ((9 : Int) = 0) = false := rfl
      rw [e9', e90] at hh9
      simp only [a4, ↓g1, ↓g2, ↓gw, and_self, hh9, e9, heq, ↓sxp, sxq, ↓reduceIte, Nat.reduceBEq, Nat.reduceLT, evP, evX, evR, blkOf, evA, storeA, Nat.reduceEqDiff, resL, resV, oneOrTup, Int.reduceEq, Int.reduceLT, Int.reduceLE, Int.reduceNeg, Int.reduceAdd, Int.reduceSub, Int.reduceMul, Int.reduceToNat, Nat.reduceAdd, noUnk, AV.cells, reduceCtorEq, Nat.reduceLeDiff, Cells.get, Cells.getN, Nat.reduceMul, ↓bnd_assoc]
      refine Fin.call (w_same hE h5 hby (how _) hlen) fun H6 h6 => ?_
      simp only [decide_true, ↓sxp, sxq, ↓reduceIte, Nat.reduceBEq, Nat.reduceLT, evP, evX, evR, blkOf, evA, storeA, Nat.reduceEqDiff, resL, resV, oneOrTup, Int.reduceEq, Int.reduceLT, Int.reduceLE, Int.reduceNeg, Int.reduceAdd, Int.reduceSub, Int.reduceMul, Int.reduceToNat, Nat.reduceAdd, noUnk, AV.cells, reduceCtorEq, Nat.reduceLeDiff, Cells.get, Cells.getN, Nat.reduceMul, ↓bnd_assoc]
      by_cases e12 : (i : Int) < 12
      · simp only [a3, e12, ↓sxp, sxq, ↓reduceIte, Nat.reduceBEq, Nat.reduceLT, evP, evX, evR, blkOf, evA, storeA, Nat.reduceEqDiff, resL, resV, oneOrTup, Int.reduceEq, Int.reduceLT, Int.reduceLE, Int.reduceNeg, Int.reduceAdd, Int.reduceSub, Int.reduceMul, Int.reduceToNat, Nat.reduceAdd, noUnk, AV.cells, reduceCtorEq, Nat.reduceLeDiff, Cells.get, Cells.getN, Nat.reduceMul, ↓bnd_assoc]
        refine Fin.call (s_size hE (h6.ord [1]) i (by omega) hi.wf) fun H7 h7 => ?_
        have gw6 := (h6.ord [5]).get
        have gw7 := (h7.ord [5]).get
        simp only [a4, ↓gw6, ↓gw7, ↓sxp, sxq, ↓reduceIte, Nat.reduceBEq, Nat.reduceLT, evP, evX, evR, blkOf, evA, storeA, Nat.reduceEqDiff, resL, resV, oneOrTup, Int.reduceEq, Int.reduceLT, Int.reduceLE, Int.reduceNeg, Int.reduceAdd, Int.reduceSub, Int.reduceMul, Int.reduceToNat, Nat.reduceAdd, noUnk, AV.cells, reduceCtorEq, Nat.reduceLeDiff, Cells.get, Cells.getN, Nat.reduceMul, ↓bnd_assoc]
        refine Fin.call (r_size hE refI_like hi.wf i _ _ (by omega) (by omega) (h7.ord [4])) fun H8 h8 => ?_
        simp only [hsz, a83, hwr, ↓sxp, sxq, ↓reduceIte, Nat.reduceBEq, Nat.reduceLT, evP, evX, evR, blkOf, evA, storeA, Nat.reduceEqDiff, resL, resV, oneOrTup, Int.reduceEq, Int.reduceLT, Int.reduceLE, Int.reduceNeg, Int.reduceAdd, Int.reduceSub, Int.reduceMul, Int.reduceToNat, Nat.reduceAdd, noUnk, AV.cells, reduceCtorEq, Nat.reduceLeDiff, Cells.get, Cells.getN, Nat.reduceMul, ↓bnd_assoc]
        refine Fin.of3 (ih (i + 1) _ _ (by omega) (by simp only [a2, ↓sxp, sxq, ↓reduceIte, Nat.reduceBEq, Nat.reduceLT, evP, evX, evR, blkOf, evA, storeA, Nat.reduceEqDiff, resL, resV, oneOrTup, Int.reduceEq, Int.reduceLT, Int.reduceLE, Int.reduceNeg, Int.reduceAdd, Int.reduceSub, Int.reduceMul, Int.reduceToNat, Nat.reduceAdd, noUnk, AV.cells, reduceCtorEq, Nat.reduceLeDiff, Cells.get, Cells.getN, Nat.reduceMul, ↓bnd_assoc]) (by simp only [a3, ↓sxp, sxq, ↓reduceIte, Nat.reduceBEq, Nat.reduceLT, evP, evX, evR, blkOf, evA, storeA, Nat.reduceEqDiff, resL, resV, oneOrTup, Int.reduceEq, Int.reduceLT, Int.reduceLE, Int.reduceNeg, Int.reduceAdd, Int.reduceSub, Int.reduceMul, Int.reduceToNat, Nat.reduceAdd, noUnk, AV.cells, reduceCtorEq, Nat.reduceLeDiff, Cells.get, Cells.getN, Nat.reduceMul, ↓bnd_assoc]) (by simp only [a4, ↓sxp, sxq, ↓reduceIte, Nat.reduceBEq, Nat.reduceLT, evP, evX, evR, blkOf, evA, storeA, Nat.reduceEqDiff, resL, resV, oneOrTup, Int.reduceEq, Int.reduceLT, Int.reduceLE, Int.reduceNeg, Int.reduceAdd, Int.reduceSub, Int.reduceMul, Int.reduceToNat, Nat.reduceAdd, noUnk, AV.cells, reduceCtorEq, Nat.reduceLeDiff, Cells.get, Cells.getN, Nat.reduceMul, ↓bnd_assoc]) (by simp only [a7, ↓sxp, sxq, ↓reduceIte, Nat.reduceBEq, Nat.reduceLT, evP, evX, evR, blkOf, evA, storeA, Nat.reduceEqDiff, resL, resV, oneOrTup, Int.reduceEq, Int.reduceLT, Int.reduceLE, Int.reduceNeg, Int.reduceAdd, Int.reduceSub, Int.reduceMul, Int.reduceToNat, Nat.reduceAdd, noUnk, AV.cells, reduceCtorEq, Nat.reduceLeDiff, Cells.get, Cells.getN, Nat.reduceMul, ↓bnd_assoc]) (by simp only [a81, ↓sxp, sxq, ↓reduceIte, Nat.reduceBEq, Nat.reduceLT, evP, evX, evR, blkOf, evA, storeA, Nat.reduceEqDiff, resL, resV, oneOrTup, Int.reduceEq, Int.reduceLT, Int.reduceLE, Int.reduceNeg, Int.reduceAdd, Int.reduceSub, Int.reduceMul, Int.reduceToNat, Nat.reduceAdd, noUnk, AV.cells, reduceCtorEq, Nat.reduceLeDiff, Cells.get, Cells.getN, Nat.reduceMul, ↓bnd_assoc]) (by simp only [a82, ↓sxp, sxq, ↓reduceIte, Nat.reduceBEq, Nat.reduceLT, evP, evX, evR, blkOf, evA, storeA, Nat.reduceEqDiff, resL, resV, oneOrTup, Int.reduceEq, Int.reduceLT, Int.reduceLE, Int.reduceNeg, Int.reduceAdd, Int.reduceSub, Int.reduceMul, Int.reduceToNat, Nat.reduceAdd, noUnk, AV.cells, reduceCtorEq, Nat.reduceLeDiff, Cells.get, Cells.getN, Nat.reduceMul, ↓bnd_assoc]) (by simp only [↓sxp, sxq, ↓reduceIte, Nat.reduceBEq, Nat.reduceLT, evP, evX, evR, blkOf, evA, storeA, Nat.reduceEqDiff, resL, resV, oneOrTup, Int.reduceEq, Int.reduceLT, Int.reduceLE, Int.reduceNeg, Int.reduceAdd, Int.reduceSub, Int.reduceMul, Int.reduceToNat, Nat.reduceAdd, noUnk, AV.cells, reduceCtorEq, Nat.reduceLeDiff, Cells.get, Cells.getN, Nat.reduceMul, ↓bnd_assoc]) ((((h8.rm 4).rm 3).rm 2).ord [1, 0])) fun _ _ _ h => h
      · simp only [e12, a83, hwr, ↓sxp, sxq, ↓reduceIte, Nat.reduceBEq, Nat.reduceLT, evP, evX, evR, blkOf, evA, storeA, Nat.reduceEqDiff, resL, resV, oneOrTup, Int.reduceEq, Int.reduceLT, Int.reduceLE, Int.reduceNeg, Int.reduceAdd, Int.reduceSub, Int.reduceMul, Int.reduceToNat, Nat.reduceAdd, noUnk, AV.cells, reduceCtorEq, Nat.reduceLeDiff, Cells.get, Cells.getN, Nat.reduceMul, ↓bnd_assoc]
        refine Fin.of3 (ih (i + 1) _ _ (by omega) (by simp only [a2, ↓sxp, sxq, ↓reduceIte, Nat.reduceBEq, Nat.reduceLT, evP, evX, evR, blkOf, evA, storeA, Nat.reduceEqDiff, resL, resV, oneOrTup, Int.reduceEq, Int.reduceLT, Int.reduceLE, Int.reduceNeg, Int.reduceAdd, Int.reduceSub, Int.reduceMul, Int.reduceToNat, Nat.reduceAdd, noUnk, AV.cells, reduceCtorEq, Nat.reduceLeDiff, Cells.get, Cells.getN, Nat.reduceMul, ↓bnd_assoc]) (by simp only [a3, ↓sxp, sxq, ↓reduceIte, Nat.reduceBEq, Nat.reduceLT, evP, evX, evR, blkOf, evA, storeA, Nat.reduceEqDiff, resL, resV, oneOrTup, Int.reduceEq, Int.reduceLT, Int.reduceLE, Int.reduceNeg, Int.reduceAdd, Int.reduceSub, Int.reduceMul, Int.reduceToNat, Nat.reduceAdd, noUnk, AV.cells, reduceCtorEq, Nat.reduceLeDiff, Cells.get, Cells.getN, Nat.reduceMul, ↓bnd_assoc]) (by simp only [a4, ↓sxp, sxq, ↓reduceIte, Nat.reduceBEq, Nat.reduceLT, evP, evX, evR, blkOf, evA, storeA, Nat.reduceEqDiff, resL, resV, oneOrTup, Int.reduceEq, Int.reduceLT, Int.reduceLE, Int.reduceNeg, Int.reduceAdd, Int.reduceSub, Int.reduceMul, Int.reduceToNat, Nat.reduceAdd, noUnk, AV.cells, reduceCtorEq, Nat.reduceLeDiff, Cells.get, Cells.getN, Nat.reduceMul, ↓bnd_assoc]) (by simp only [a7, ↓sxp, sxq, ↓reduceIte, Nat.reduceBEq, Nat.reduceLT, evP, evX, evR, blkOf, evA, storeA, Nat.reduceEqDiff, resL, resV, oneOrTup, Int.reduceEq, Int.reduceLT, Int.reduceLE, Int.reduceNeg, Int.reduceAdd, Int.reduceSub, Int.reduceMul, Int.reduceToNat, Nat.reduceAdd, noUnk, AV.cells, reduceCtorEq, Nat.reduceLeDiff, Cells.get, Cells.getN, Nat.reduceMul, ↓bnd_assoc]) (by simp only [a81, ↓sxp, sxq, ↓reduceIte, Nat.reduceBEq, Nat.reduceLT, evP, evX, evR, blkOf, evA, storeA, Nat.reduceEqDiff, resL, resV, oneOrTup, Int.reduceEq, Int.reduceLT, Int.reduceLE, Int.reduceNeg, Int.reduceAdd, Int.reduceSub, Int.reduceMul, Int.reduceToNat, Nat.reduceAdd, noUnk, AV.cells, reduceCtorEq, Nat.reduceLeDiff, Cells.get, Cells.getN, Nat.reduceMul, ↓bnd_assoc]) (by simp only [a82, ↓sxp, sxq, ↓reduceIte, Nat.reduceBEq, Nat.reduceLT, evP, evX, evR, blkOf, evA, storeA, Nat.reduceEqDiff, resL, resV, oneOrTup, Int.reduceEq, Int.reduceLT, Int.reduceLE, Int.reduceNeg, Int.reduceAdd, Int.reduceSub, Int.reduceMul, Int.reduceToNat, Nat.reduceAdd, noUnk, AV.cells, reduceCtorEq, Nat.reduceLeDiff, Cells.get, Cells.getN, Nat.reduceMul, ↓bnd_assoc]) (by simp only [↓sxp, sxq, ↓reduceIte, Nat.reduceBEq, Nat.reduceLT, evP, evX, evR, blkOf, evA, storeA, Nat.reduceEqDiff, resL, resV, oneOrTup, Int.reduceEq, Int.reduceLT, Int.reduceLE, Int.reduceNeg, Int.reduceAdd, Int.reduceSub, Int.reduceMul, Int.reduceToNat, Nat.reduceAdd, noUnk, AV.cells, reduceCtorEq, Nat.reduceLeDiff, Cells.get, Cells.getN, Nat.reduceMul, ↓bnd_assoc]) ((((h6.rm 3).rm 2).rm 0))) fun _ _ _ h => h
end
end Go.Proofs.Ytnfehkjkmlbceaa.Sx

/- TermPuts, whole: in the second reading. -/
namespace Go.Proofs.Ytnfehkjkmlbceaa.Sx
open HP
section
variable {W : World} {E : Env}
theorem inv0 : Inv S0 [] := ⟨rfl, rfl, fun i x h => by simp [S0] at h, fun k hk => by
    have : S0.N.getD k 0 = 0 := by
      match k, hk with
      | 0, _ => rfl
      | 1, _ => rfl
      | 2, _ => rfl
      | 3, _ => rfl
      | 4, _ => rfl
    omega, fun k w _ _ h => by simp [S0] at h, fun k h1 hk => .inl (by
      match k, hk with
      | 0, _ => rfl
      | 1, _ => rfl
      | 2, _ => rfl
      | 3, _ => rfl
      | 4, _ => rfl), fun i hi => by simp [S0] at hi, fun x hx => by simp [S0] at hx, fun b hb => by simp [S0] at hb⟩
theorem law_puts (hE : EnvT E) (h3 : E 3 = some (.code sf3)) {ds : List Do1} {v : AV} (hv : Dos W ds v) : ∃ H', go W E 3 [v] ⟨0, .e, .e⟩ = some (.bool true, H') := by
  suffices Fin (fun r => r.1 = .bool true) (go W E 3 [v] ⟨0, .e, .e⟩) by
    obtain ⟨⟨r, H'⟩, e, hr⟩ := this
    simp only at hr
    subst hr
    exact ⟨H', e⟩
  have hl : lenV v = some (.int .i64 ds.length) := hv.2.1
  rw [go_code h3 (by simp [sf3])]
  have q1 : Holds _ [blk 0 [.bool false] 4] := (Holds.nil HWf.empty).push (c := [.bool false]) (t := 4)
  simp only [sf3, ↓sxp, sxq, ↓reduceIte, Nat.reduceBEq, Nat.reduceLT, evP, evX, evR, blkOf, evA, storeA, Nat.reduceEqDiff, resL, resV, oneOrTup, Int.reduceEq, Int.reduceLT, Int.reduceLE, Int.reduceNeg, Int.reduceAdd, Int.reduceSub, Int.reduceMul, Int.reduceToNat, Nat.reduceAdd, noUnk, AV.cells, reduceCtorEq, Nat.reduceLeDiff, Cells.get, Cells.getN, Nat.reduceMul, ↓bnd_assoc]
  refine Fin.call (l_awake hE q1) fun H1 q1 => ?_
  simp only [↓sxp, sxq, ↓reduceIte, Nat.reduceBEq, Nat.reduceLT, evP, evX, evR, blkOf, evA, storeA, Nat.reduceEqDiff, resL, resV, oneOrTup, Int.reduceEq, Int.reduceLT, Int.reduceLE, Int.reduceNeg, Int.reduceAdd, Int.reduceSub, Int.reduceMul, Int.reduceToNat, Nat.reduceAdd, noUnk, AV.cells, reduceCtorEq, Nat.reduceLeDiff, Cells.get, Cells.getN, Nat.reduceMul, ↓bnd_assoc]
  refine Fin.call (l_few hE hv q1) fun H2 q2 => ?_
  cases hfw : (fewL ds && decide (ds.length ≤ 30)) with
  | false =>
    simp only [↓sxp, sxq, ↓reduceIte, Nat.reduceBEq, Nat.reduceLT, evP, evX, evR, blkOf, evA, storeA, Nat.reduceEqDiff, resL, resV, oneOrTup, Int.reduceEq, Int.reduceLT, Int.reduceLE, Int.reduceNeg, Int.reduceAdd, Int.reduceSub, Int.reduceMul, Int.reduceToNat, Nat.reduceAdd, noUnk, AV.cells, reduceCtorEq, Nat.reduceLeDiff, Cells.get, Cells.getN, Nat.reduceMul, ↓bnd_assoc]
    refine Fin.write [.bool true] q2 rfl (by simp) rfl fun H3 q3 => ?_
    have g3 := q3.get
    simp only [↓g3, ↓sxp, sxq, ↓reduceIte, Nat.reduceBEq, Nat.reduceLT, evP, evX, evR, blkOf, evA, storeA, Nat.reduceEqDiff, resL, resV, oneOrTup, Int.reduceEq, Int.reduceLT, Int.reduceLE, Int.reduceNeg, Int.reduceAdd, Int.reduceSub, Int.reduceMul, Int.reduceToNat, Nat.reduceAdd, noUnk, AV.cells, reduceCtorEq, Nat.reduceLeDiff, Cells.get, Cells.getN, Nat.reduceMul, ↓bnd_assoc]
    exact Fin.ret rfl
  | true =>
    obtain ⟨hf1, hf2⟩ := Bool.and_eq_true_iff.1 hfw
    have hf2 : ds.length ≤ 30 := by simpa using hf2
    simp only [↓sxp, sxq, ↓reduceIte, Nat.reduceBEq, Nat.reduceLT, evP, evX, evR, blkOf, evA, storeA, Nat.reduceEqDiff, resL, resV, oneOrTup, Int.reduceEq, Int.reduceLT, Int.reduceLE, Int.reduceNeg, Int.reduceAdd, Int.reduceSub, Int.reduceMul, Int.reduceToNat, Nat.reduceAdd, noUnk, AV.cells, reduceCtorEq, Nat.reduceLeDiff, Cells.get, Cells.getN, Nat.reduceMul, ↓bnd_assoc]
    refine Fin.callE _ _ (s_new (W := W) hE q2) fun p H3 q3 => ?_
    have q4 := (q3.push (c := [.sl none 0 (.exact 0), .sl none 0 (.exact 0)]) (t := 31)).push (c := [.ptr none]) (t := 27)
    simp only [push_next] at q4
    simp only [hl, ↓sxp, sxq, ↓reduceIte, Nat.reduceBEq, Nat.reduceLT, evP, evX, evR, blkOf, evA, storeA, Nat.reduceEqDiff, resL, resV, oneOrTup, Int.reduceEq, Int.reduceLT, Int.reduceLE, Int.reduceNeg, Int.reduceAdd, Int.reduceSub, Int.reduceMul, Int.reduceToNat, Nat.reduceAdd, noUnk, AV.cells, reduceCtorEq, Nat.reduceLeDiff, Cells.get, Cells.getN, Nat.reduceMul, ↓bnd_assoc]
    generalize H3.next = q at *
    refine Fin.write [.ptr (some ⟨.own q, 0⟩)] q4 rfl (by simp) rfl fun H4 q5 => ?_
    generalize q + 1 = bw at *
    have q6 := refP_shut (W := W) (L := []) (B := []) .nil ((((q5.ord [1]).row_nil (ty := 34) (es := 1)).row_nil (ty := 33) (es := 3)).ord [2, 0, 0])
    refine Fin.loop (puts_loop (br := 0) (bw := bw) (p := p) (q := q) (Γ := []) hE hv hf1 hf2 ds.length 0 _ _ S0 [] (by omega) (by simp only [↓sxp, sxq, ↓reduceIte, Nat.reduceBEq, Nat.reduceLT, evP, evX, evR, blkOf, evA, storeA, Nat.reduceEqDiff, resL, resV, oneOrTup, Int.reduceEq, Int.reduceLT, Int.reduceLE, Int.reduceNeg, Int.reduceAdd, Int.reduceSub, Int.reduceMul, Int.reduceToNat, Nat.reduceAdd, noUnk, AV.cells, reduceCtorEq, Nat.reduceLeDiff, Cells.get, Cells.getN, Nat.reduceMul, ↓bnd_assoc]) (by simp only [↓sxp, sxq, ↓reduceIte, Nat.reduceBEq, Nat.reduceLT, evP, evX, evR, blkOf, evA, storeA, Nat.reduceEqDiff, resL, resV, oneOrTup, Int.reduceEq, Int.reduceLT, Int.reduceLE, Int.reduceNeg, Int.reduceAdd, Int.reduceSub, Int.reduceMul, Int.reduceToNat, Nat.reduceAdd, noUnk, AV.cells, reduceCtorEq, Nat.reduceLeDiff, Cells.get, Cells.getN, Nat.reduceMul, ↓bnd_assoc]) (by simp only [↓sxp, sxq, ↓reduceIte, Nat.reduceBEq, Nat.reduceLT, evP, evX, evR, blkOf, evA, storeA, Nat.reduceEqDiff, resL, resV, oneOrTup, Int.reduceEq, Int.reduceLT, Int.reduceLE, Int.reduceNeg, Int.reduceAdd, Int.reduceSub, Int.reduceMul, Int.reduceToNat, Nat.reduceAdd, noUnk, AV.cells, reduceCtorEq, Nat.reduceLeDiff, Cells.get, Cells.getN, Nat.reduceMul, ↓bnd_assoc]) (by simp only [↓sxp, sxq, ↓reduceIte, Nat.reduceBEq, Nat.reduceLT, evP, evX, evR, blkOf, evA, storeA, Nat.reduceEqDiff, resL, resV, oneOrTup, Int.reduceEq, Int.reduceLT, Int.reduceLE, Int.reduceNeg, Int.reduceAdd, Int.reduceSub, Int.reduceMul, Int.reduceToNat, Nat.reduceAdd, noUnk, AV.cells, reduceCtorEq, Nat.reduceLeDiff, Cells.get, Cells.getN, Nat.reduceMul, ↓bnd_assoc]) (by simp only [↓sxp, sxq, ↓reduceIte, Nat.reduceBEq, Nat.reduceLT, evP, evX, evR, blkOf, evA, storeA, Nat.reduceEqDiff, resL, resV, oneOrTup, Int.reduceEq, Int.reduceLT, Int.reduceLE, Int.reduceNeg, Int.reduceAdd, Int.reduceSub, Int.reduceMul, Int.reduceToNat, Nat.reduceAdd, noUnk, AV.cells, reduceCtorEq, Nat.reduceLeDiff, Cells.get, Cells.getN, Nat.reduceMul, ↓bnd_assoc]) (by simp only [↓sxp, sxq, ↓reduceIte, Nat.reduceBEq, Nat.reduceLT, evP, evX, evR, blkOf, evA, storeA, Nat.reduceEqDiff, resL, resV, oneOrTup, Int.reduceEq, Int.reduceLT, Int.reduceLE, Int.reduceNeg, Int.reduceAdd, Int.reduceSub, Int.reduceMul, Int.reduceToNat, Nat.reduceAdd, noUnk, AV.cells, reduceCtorEq, Nat.reduceLeDiff, Cells.get, Cells.getN, Nat.reduceMul, ↓bnd_assoc]; rfl) inv0 (by simp [S0]) (by simp [S0]) (q6.ord [2, 0, 0])) fun lv A H5 ⟨hlv, a2, a3, a4, S, B, hi, hL, hT, q7⟩ => ?_
    subst hlv
    have hBl : B.length = S.T.length := by rw [← hi.t]; simp
    simp only [↓sxp, sxq, ↓reduceIte, Nat.reduceBEq, Nat.reduceLT, evP, evX, evR, blkOf, evA, storeA, Nat.reduceEqDiff, resL, resV, oneOrTup, Int.reduceEq, Int.reduceLT, Int.reduceLE, Int.reduceNeg, Int.reduceAdd, Int.reduceSub, Int.reduceMul, Int.reduceToNat, Nat.reduceAdd, noUnk, AV.cells, reduceCtorEq, Nat.reduceLeDiff, Cells.get, Cells.getN, Nat.reduceMul, ↓bnd_assoc]
    refine Fin.write [.int .i64 0] (q7.push (c := [.int .i64 0]) (t := 3)) rfl (by simp) rfl fun H6 q8 => ?_
    generalize H5.next = bn at *
    have q9 := q8.push (c := [.ptr (some ⟨.own p, 0⟩)]) (t := 25)
    simp only [a3, s_all hE, ↓sxp, sxq, ↓reduceIte, Nat.reduceBEq, Nat.reduceLT, evP, evX, evR, blkOf, evA, storeA, Nat.reduceEqDiff, resL, resV, oneOrTup, Int.reduceEq, Int.reduceLT, Int.reduceLE, Int.reduceNeg, Int.reduceAdd, Int.reduceSub, Int.reduceMul, Int.reduceToNat, Nat.reduceAdd, noUnk, AV.cells, reduceCtorEq, Nat.reduceLeDiff, Cells.get, Cells.getN, Nat.reduceMul, ↓bnd_assoc]
    refine Fin.range (bx := H6.next) (fun i => refP W q S.L B :: blk bw [.ptr (some ⟨.own q, 0⟩)] 27 :: blk bn [.int .i64 i] 3 :: blk 0 [.bool false] 4 :: []) (fun y => [HP.pure False]) hE (by omega) (by simp only [↓sxp, sxq, ↓reduceIte, Nat.reduceBEq, Nat.reduceLT, evP, evX, evR, blkOf, evA, storeA, Nat.reduceEqDiff, resL, resV, oneOrTup, Int.reduceEq, Int.reduceLT, Int.reduceLE, Int.reduceNeg, Int.reduceAdd, Int.reduceSub, Int.reduceMul, Int.reduceToNat, Nat.reduceAdd, noUnk, AV.cells, reduceCtorEq, Nat.reduceLeDiff, Cells.get, Cells.getN, Nat.reduceMul, ↓bnd_assoc]) (q9.ord [2, 0, 1, 1]) (fun l d i x hx => puts_round (by simp only [a4, ↓sxp, sxq, ↓reduceIte, Nat.reduceBEq, Nat.reduceLT, evP, evX, evR, blkOf, evA, storeA, Nat.reduceEqDiff, resL, resV, oneOrTup, Int.reduceEq, Int.reduceLT, Int.reduceLE, Int.reduceNeg, Int.reduceAdd, Int.reduceSub, Int.reduceMul, Int.reduceToNat, Nat.reduceAdd, noUnk, AV.cells, reduceCtorEq, Nat.reduceLeDiff, Cells.get, Cells.getN, Nat.reduceMul, ↓bnd_assoc]) (by simp only [↓sxp, sxq, ↓reduceIte, Nat.reduceBEq, Nat.reduceLT, evP, evX, evR, blkOf, evA, storeA, Nat.reduceEqDiff, resL, resV, oneOrTup, Int.reduceEq, Int.reduceLT, Int.reduceLE, Int.reduceNeg, Int.reduceAdd, Int.reduceSub, Int.reduceMul, Int.reduceToNat, Nat.reduceAdd, noUnk, AV.cells, reduceCtorEq, Nat.reduceLeDiff, Cells.get, Cells.getN, Nat.reduceMul, ↓bnd_assoc]) (by omega) i x hx) ?_ ?_
    · intro d H7 q10
      obtain ⟨vl, vb, fb, q11⟩ := refP_I (q10.ord [3])
      obtain ⟨al, cl, ab, cb', e1, e2, ho, hq, hl', hbb⟩ := refI_facts q11
      have gw := (q11.ord [4]).get
      have hvl : lenV vl = some (.int .i64 S.L.length) := by subst e1; rfl
      simp only [a4, ↓gw, ↓hq, hvl, ↓sxp, sxq, ↓reduceIte, Nat.reduceBEq, Nat.reduceLT, evP, evX, evR, blkOf, evA, storeA, Nat.reduceEqDiff, resL, resV, oneOrTup, Int.reduceEq, Int.reduceLT, Int.reduceLE, Int.reduceNeg, Int.reduceAdd, Int.reduceSub, Int.reduceMul, Int.reduceToNat, Nat.reduceAdd, noUnk, AV.cells, reduceCtorEq, Nat.reduceLeDiff, Cells.get, Cells.getN, Nat.reduceMul, ↓bnd_assoc]
      refine Fin.loop (puts_loop2 (br := 0) (bw := bw) (bn := bn) (p := p) (q := q) (vl := vl) (vb := vb) (fb := fb) hE hi hL S.L.length 0 _ _ (by omega) (by simp only [a2, ↓sxp, sxq, ↓reduceIte, Nat.reduceBEq, Nat.reduceLT, evP, evX, evR, blkOf, evA, storeA, Nat.reduceEqDiff, resL, resV, oneOrTup, Int.reduceEq, Int.reduceLT, Int.reduceLE, Int.reduceNeg, Int.reduceAdd, Int.reduceSub, Int.reduceMul, Int.reduceToNat, Nat.reduceAdd, noUnk, AV.cells, reduceCtorEq, Nat.reduceLeDiff, Cells.get, Cells.getN, Nat.reduceMul, ↓bnd_assoc]) (by simp only [a3, ↓sxp, sxq, ↓reduceIte, Nat.reduceBEq, Nat.reduceLT, evP, evX, evR, blkOf, evA, storeA, Nat.reduceEqDiff, resL, resV, oneOrTup, Int.reduceEq, Int.reduceLT, Int.reduceLE, Int.reduceNeg, Int.reduceAdd, Int.reduceSub, Int.reduceMul, Int.reduceToNat, Nat.reduceAdd, noUnk, AV.cells, reduceCtorEq, Nat.reduceLeDiff, Cells.get, Cells.getN, Nat.reduceMul, ↓bnd_assoc]) (by simp only [a4, ↓sxp, sxq, ↓reduceIte, Nat.reduceBEq, Nat.reduceLT, evP, evX, evR, blkOf, evA, storeA, Nat.reduceEqDiff, resL, resV, oneOrTup, Int.reduceEq, Int.reduceLT, Int.reduceLE, Int.reduceNeg, Int.reduceAdd, Int.reduceSub, Int.reduceMul, Int.reduceToNat, Nat.reduceAdd, noUnk, AV.cells, reduceCtorEq, Nat.reduceLeDiff, Cells.get, Cells.getN, Nat.reduceMul, ↓bnd_assoc]) (by simp only [↓sxp, sxq, ↓reduceIte, Nat.reduceBEq, Nat.reduceLT, evP, evX, evR, blkOf, evA, storeA, Nat.reduceEqDiff, resL, resV, oneOrTup, Int.reduceEq, Int.reduceLT, Int.reduceLE, Int.reduceNeg, Int.reduceAdd, Int.reduceSub, Int.reduceMul, Int.reduceToNat, Nat.reduceAdd, noUnk, AV.cells, reduceCtorEq, Nat.reduceLeDiff, Cells.get, Cells.getN, Nat.reduceMul, ↓bnd_assoc]) (by simp only [↓sxp, sxq, ↓reduceIte, Nat.reduceBEq, Nat.reduceLT, evP, evX, evR, blkOf, evA, storeA, Nat.reduceEqDiff, resL, resV, oneOrTup, Int.reduceEq, Int.reduceLT, Int.reduceLE, Int.reduceNeg, Int.reduceAdd, Int.reduceSub, Int.reduceMul, Int.reduceToNat, Nat.reduceAdd, noUnk, AV.cells, reduceCtorEq, Nat.reduceLeDiff, Cells.get, Cells.getN, Nat.reduceMul, ↓bnd_assoc]) (by simp only [↓sxp, sxq, ↓reduceIte, Nat.reduceBEq, Nat.reduceLT, evP, evX, evR, blkOf, evA, storeA, Nat.reduceEqDiff, resL, resV, oneOrTup, Int.reduceEq, Int.reduceLT, Int.reduceLE, Int.reduceNeg, Int.reduceAdd, Int.reduceSub, Int.reduceMul, Int.reduceToNat, Nat.reduceAdd, noUnk, AV.cells, reduceCtorEq, Nat.reduceLeDiff, Cells.get, Cells.getN, Nat.reduceMul, ↓bnd_assoc]) (by simp only [↓sxp, sxq, ↓reduceIte, Nat.reduceBEq, Nat.reduceLT, evP, evX, evR, blkOf, evA, storeA, Nat.reduceEqDiff, resL, resV, oneOrTup, Int.reduceEq, Int.reduceLT, Int.reduceLE, Int.reduceNeg, Int.reduceAdd, Int.reduceSub, Int.reduceMul, Int.reduceToNat, Nat.reduceAdd, noUnk, AV.cells, reduceCtorEq, Nat.reduceLeDiff, Cells.get, Cells.getN, Nat.reduceMul, ↓bnd_assoc]; rfl) (q11.ord [2, 0, 2])) fun lv A' H8 ⟨hlv, b2, b3, b4, b7, q12⟩ => ?_
      subst hlv
      obtain ⟨al, cl, ab, cb', e1, e2, ho, hq, hl', hbb⟩ := refI_facts (q12.ord [1])
      have gw8 := (q12.ord [2]).get
      simp only [b3, b4, ↓gw8, ↓hq, hvl, ↓sxp, sxq, ↓reduceIte, Nat.reduceBEq, Nat.reduceLT, evP, evX, evR, blkOf, evA, storeA, Nat.reduceEqDiff, resL, resV, oneOrTup, Int.reduceEq, Int.reduceLT, Int.reduceLE, Int.reduceNeg, Int.reduceAdd, Int.reduceSub, Int.reduceMul, Int.reduceToNat, Nat.reduceAdd, noUnk, AV.cells, reduceCtorEq, Nat.reduceLeDiff, Cells.get, Cells.getN, Nat.reduceMul, ↓bnd_assoc]
      refine Fin.call (s_get hE q12 S.L.length) fun H9 q13 => ?_
      have hno : hasM S.L (S.L.length : Int) 0 = false := by simp [hasM]
      have hgm : getM S (S.L.length : Int) = (0, 0, 0) := by simp [getM, hno]
      rw [hno, hgm]
      simp only [c3, ↓sxp, sxq, ↓reduceIte, Nat.reduceBEq, Nat.reduceLT, evP, evX, evR, blkOf, evA, storeA, Nat.reduceEqDiff, resL, resV, oneOrTup, Int.reduceEq, Int.reduceLT, Int.reduceLE, Int.reduceNeg, Int.reduceAdd, Int.reduceSub, Int.reduceMul, Int.reduceToNat, Nat.reduceAdd, noUnk, AV.cells, reduceCtorEq, Nat.reduceLeDiff, Cells.get, Cells.getN, Nat.reduceMul, ↓bnd_assoc]
      refine Fin.write [.int .i64 0, .int .i64 0, .int .i64 0] q13.push rfl (by simp) rfl fun H10 q14 => ?_
      obtain ⟨al, cl, ab, cb', e1, e2, ho, hq, hl', hbb⟩ := refI_facts (q14.ord [2])
      have gw10 := (q14.ord [3]).get
      have gn10 := (q14.ord [6]).get
      simp only [b3, b4, b7, ↓gw10, ↓gn10, ↓hq, hvl, ↓sxp, sxq, ↓reduceIte, Nat.reduceBEq, Nat.reduceLT, evP, evX, evR, blkOf, evA, storeA, Nat.reduceEqDiff, resL, resV, oneOrTup, Int.reduceEq, Int.reduceLT, Int.reduceLE, Int.reduceNeg, Int.reduceAdd, Int.reduceSub, Int.reduceMul, Int.reduceToNat, Nat.reduceAdd, noUnk, AV.cells, reduceCtorEq, Nat.reduceLeDiff, Cells.get, Cells.getN, Nat.reduceMul, ↓bnd_assoc]
      refine Fin.call (s_size hE ((q14.bump 17).ord [1]) (-1) (by omega) hi.wf) fun H11 q15 => ?_
      have hsz : sizeM S.L (-1) = 0 := by simp [sizeM, hasM]
      rw [hsz]
      simp only [b2, ↓sxp, sxq, ↓reduceIte, Nat.reduceBEq, Nat.reduceLT, evP, evX, evR, blkOf, evA, storeA, Nat.reduceEqDiff, resL, resV, oneOrTup, Int.reduceEq, Int.reduceLT, Int.reduceLE, Int.reduceNeg, Int.reduceAdd, Int.reduceSub, Int.reduceMul, Int.reduceToNat, Nat.reduceAdd, noUnk, AV.cells, reduceCtorEq, Nat.reduceLeDiff, Cells.get, Cells.getN, Nat.reduceMul, ↓bnd_assoc]
      refine Fin.write [.bool true] (q15.ord [7]) rfl (by simp) rfl fun H12 q16 => ?_
      have gd := (q16.ord [5]).geto
      have gr := (((q16.ord [5]).seto (o' := .deferred false) rfl).ord [1]).get
      simp only [↓finish_one gd, ↓gr, b2, ↓sxp, sxq, ↓reduceIte, Nat.reduceBEq, Nat.reduceLT, evP, evX, evR, blkOf, evA, storeA, Nat.reduceEqDiff, resL, resV, oneOrTup, Int.reduceEq, Int.reduceLT, Int.reduceLE, Int.reduceNeg, Int.reduceAdd, Int.reduceSub, Int.reduceMul, Int.reduceToNat, Nat.reduceAdd, noUnk, AV.cells, reduceCtorEq, Nat.reduceLeDiff, Cells.get, Cells.getN, Nat.reduceMul, ↓bnd_assoc]
      exact Fin.ret rfl
    · intro y d H7 hy q10
      exact absurd (q10.ord [3]).pure.1 id
end
end Go.Proofs.Ytnfehkjkmlbceaa.Sx

/- From the second reading to a row. -/
namespace Go.Proofs.Ytnfehkjkmlbceaa.Sx
open Go.RowKit Go.WideShapes Go.ChangeShapes
section
variable {H : Type} {enc' : TypeId × Value → H} {P : Program}
theorem post_of_below' {f : Func} {s : ChangeSpec} {apart fresh handsOn again : Bool} {W W' : World} {args : Array Value} {v : Value} {ds gs : List (DataW H)} {before pa pv : List MemPlace}
    (hW : DataW.Whole enc' P f.params.toList s.vars apart W args.toList ds gs before)
    (hres : ∀ (b : Nat) (sp : Nat → Bool) (hd : Bool), DataW.TrodAll enc' P W' b sp hd f.resultTypes.toList (v.resultList f.resultTypes.size) (s.fn H (ds ++ gs)).results [])
    (hargs : ∀ sp : Nat → Bool, (∀ p ∈ before, sp p.block = true) → DataW.TrodAll enc' P W' 0 sp true f.params.toList args.toList (s.fn H (ds ++ gs)).args pa)
    (hvars : ∀ sp : Nat → Bool, (∀ p ∈ before, sp p.block = true) → DataW.TrodVars enc' P W' sp s.vars (s.fn H (ds ++ gs)).vars pv)
    (hps : before = pa ++ pv) (hb : Below W.heap.size W W')
    (hok : ∀ (j : Nat) (t : TypeId) (r : Value), f.resultTypes[j]? = some t → (v.resultList f.resultTypes.size)[j]? = some r → Value.okWide P W' .any 0 t r) :
    s.post enc' P f apart fresh handsOn again W args v W' := by
  have hlt : ∀ p ∈ before, p.block < W.heap.size := fun p hp => hW.lt p hp
  have hold : ∀ p ∈ before, (fun b => decide (b < W.heap.size)) p.block = true := fun p hp => by simpa using hlt p hp
  refine ⟨ds, gs, before, [], pa, pv, hW, hres _ _ _, hargs _ hold, hvars _ hold, World.keptBut_mono (fun p hp => ⟨hp, ?_⟩) (hb.frame (· ∈ before)), fun _ => ?_⟩
  · rw [hps, List.mem_append] at hp
    exact Or.inr hp
  · obtain ⟨_, _, _, _, _, hz, hn⟩ := hW
    refine ⟨hok, _, _, ([] ++ pa) ++ pv, ⟨[] ++ pa, pv, trodAll_append (hargs _ (fun _ _ => rfl)) (hres _ _ _), hvars _ (fun _ _ => rfl), rfl, ?_, ?_⟩, ?_⟩
    · intro b off hp
      have hin : MemPlace.cell b off ∈ before := by rw [hps]; simpa using hp
      rw [hb.frozen (hlt _ hin)]
      exact hz b off hin
    · intro ha
      have := hn ha
      rw [hps] at this
      simpa using this
    · intro p hp _
      rw [hps]
      simpa using hp

/-- What the second reading answers, the call answers, and leaves all that was there as it was. -/
theorem calls_true {W : World} {E : Env} (hE : EnvOk P W E) {f : FuncId} {avs : List AV} {args : Array Value} (ha : VRL ⟨fun _ => none, fun _ => 0⟩ avs args.toList) (hg : ∃ H', go W E f avs ⟨0, .e, .e⟩ = some (.bool true, H')) :
    Calls P f args W fun e W' => e = .returned (.bool true) ∧ Below W.heap.size W W' := by
  obtain ⟨H', hg⟩ := hg
  intro cs
  obtain ⟨_, h⟩ := go_sound W E hE f avs ⟨0, .e, .e⟩ _ _ hg _ W args (HR.start W) ha
  obtain ⟨μ', w', fr, v', hs, hl, hf, hr, _, hv⟩ := h cs
  cases hv
  exact ⟨.returned (.bool true), w', fr, ⟨rfl, hr.os, hr.tape, hr.output, hr.size, hr.old⟩, hs, hf, hl⟩

theorem args_stay (hl : laidOutB P = true) {W W' : World} (hb : Below W.heap.size W W') : ∀ {ts : List TypeId} {vs : List Value} {ds : List (DataW H)} {ps : List MemPlace}, ts.all (fun t => P.readableRec t && decide (t < P.types.size)) = true → DataW.TrodAll enc' P W 0 (fun _ => true) true ts vs ds ps → (∀ p ∈ ps, p.block < W.heap.size) →
    ∀ sp : Nat → Bool, (∀ p ∈ ps, sp p.block = true) → DataW.TrodAll enc' P W' 0 sp true ts vs ds ps
  | [], [], [], _, _, h, _ => fun _ _ => h
  | [], [], _ :: _, _, _, h, _ => h.elim
  | [], _ :: _, _, _, _, h, _ => h.elim
  | _ :: _, [], _, _, _, h, _ => h.elim
  | _ :: _, _ :: _, [], _, _, h, _ => h.elim
  | t :: ts, v :: vs, d :: ds, ps, ht, ⟨p, q, h1, h2, e⟩, hlt => fun sp hsp => by
    simp only [List.all_cons, Bool.and_eq_true, decide_eq_true_eq] at ht
    exact ⟨p, q, WideElems.Trod_stays hl ht.1.1 ht.1.2 h1 (fun x hx => hb.same (hlt x (by rw [e]; exact List.mem_append_left _ hx))) (fun x hx => hsp x (by rw [e]; exact List.mem_append_left _ hx)),
      args_stay hl hb ht.2 h2 (fun x hx => hlt x (by rw [e]; exact List.mem_append_right _ hx)) sp (fun x hx => hsp x (by rw [e]; exact List.mem_append_right _ hx)), e⟩
theorem trodAll_length {W : World} {base : Nat} {sp : Nat → Bool} {hd : Bool} : ∀ {ts : List TypeId} {vs : List Value} {ds : List (DataW H)} {ps : List MemPlace}, DataW.TrodAll enc' P W base sp hd ts vs ds ps → ds.length = ts.length
  | [], [], [], _, _ => rfl
  | [], [], _ :: _, _, h => h.elim
  | [], _ :: _, _, _, h => h.elim
  | _ :: _, [], _, _, h => h.elim
  | _ :: _, _ :: _, [], _, h => h.elim
  | _ :: _, _ :: _, _ :: _, _, ⟨_, _, _, h2, _⟩ => by simp [trodAll_length h2]
/-- A law whose call, in the second reading, answers true at all that can be read. -/
theorem law_lifted {C : Checked} {os : Os} {f : FuncId} {fn : Func} {s : ChangeSpec} {apart fresh handsOn again : Bool} {tb : TypeId}
    (own : ownKnob C.prog.godebug = none) (started : os.Started) (noInit : C.prog.inits.idxOf? f = none) (hfn : C.prog.funcs[f]? = some fn)
    (witness : ∃ (w : World) (tape : Tape) (i : Input), w.os = os ∧ (w.forCall tape i).Shaped C.prog ∧ i.vars = [] ∧ Input.okWide C.prog (w.forCall tape i) .any w.heap.size f i ∧
      s.pre6 enc' C.prog fn [] apart (w.forCall tape i).memory i.args ∧ ({} : Assume).holds C.prog (lone (Frame.enter C.prog f i.args .normal) [] (w.forCall tape i)))
    (hl : laidOutB C.prog = true) (hts : fn.params.toList.all (fun t => C.prog.readableRec t && decide (t < C.prog.types.size)) = true) (hvars : s.vars = [])
    (hres : fn.resultTypes = #[tb]) (hb : C.prog.underlying tb = some .bool) (hspec : ∀ ds : List (DataW H), ds.length = fn.params.toList.length → s.fn H (ds ++ []) = { results := [.lit (.bool true)], args := ds })
    {E : World → Env} (hE : ∀ W, EnvOk C.prog W (E W))
    (law : ∀ (W : World) (base : Nat) (args : Array Value) (ds : List (DataW H)) (ps : List MemPlace), (∀ (j : Nat) t v, fn.params[j]? = some t → args[j]? = some v → Value.okWide C.prog W .any base t v) → DataW.TrodAll enc' C.prog W 0 (fun _ => true) true fn.params.toList args.toList ds ps →
      ∃ avs, VRL ⟨fun _ => none, fun _ => 0⟩ avs args.toList ∧ ∃ H', go W (E W) f avs ⟨0, .e, .e⟩ = some (.bool true, H')) :
    ReturnsInHanded {} C os f .any (s.pre6 enc' C.prog fn [] apart) (s.post enc' C.prog fn apart fresh handsOn again) := by
  refine returnsInHanded_of_change own started noInit hfn witness ?_
  intro W base args ds gs before hval hW _ _
  have hW' := hW
  obtain ⟨p, q, hA, hV, rfl, hfz, hnd⟩ := hW
  rw [hvars] at hV
  obtain ⟨rfl, rfl⟩ := trodVars_none hV
  obtain ⟨avs, h1, h2⟩ := law W base args ds p hval hA
  refine (calls_true (hE W) h1 h2).mono fun e W' ⟨he, hbel⟩ => ?_
  subst he
  have hs := hspec ds (trodAll_length hA)
  refine ⟨_, rfl, post_of_below' (pa := p) (pv := []) hW' (fun _ _ _ => ?_) (fun sp hsp => ?_) (fun sp _ => ?_) rfl hbel ?_⟩
  · rw [hs, hres]
    exact trodAll_mk1 (shut_bool hb true)
  · rw [hs]
    have hlt : ∀ x ∈ p, x.block < W.heap.size := fun x hx => hW'.lt x (by simpa using hx)
    exact args_stay hl hbel hts hA hlt sp (fun x hx => hsp x (by simpa using hx))
  · rw [hs, hvars]; rfl
  · exact ok_one hres rfl (by simp [Value.okWide, hb, Cell.okWide, Cell.ok])
end
section
variable {P : Program} {W : World} {H : Type} {enc' : TypeId × Value → H} {sp : Nat → Bool} {hd : Bool}
theorem getN_of {l : List AV} : ∀ (n off : Nat) (cs : List AV), cs.length = n → (∀ i, i < n → l[off + i]? = cs[i]?) → Cells.getN (.lst l) off n = some cs := by
  intro n
  induction n with
  | zero => intro off cs hc _; rw [List.eq_nil_of_length_eq_zero hc]; rfl
  | succ n ih =>
    intro off cs hc h
    cases cs with
    | nil => simp at hc
    | cons c cs =>
      have h0 := h 0 (by omega)
      simp only [Nat.add_zero, List.getElem?_cons_zero] at h0
      simp only [Cells.getN, Cells.get, h0]
      rw [ih (off + 1) cs (by simpa using hc) (fun i hi => by have := h (i + 1) (by omega); rw [show off + 1 + i = off + (i + 1) from by omega, this]; simp)]
theorem cells_old {a : Addr} {n base : Nat} {cs : List Value} (h : W.cells? base a n = some cs) (hn : 0 < n) : a.spot = none ∧ ∃ c, (∀ H, blkOf W H (.old a.block) = some c) ∧ c.getN a.off n = some (cs.map enc) := by
  obtain ⟨_, hlen, hc⟩ := World.cells?_some h
  have h0 := hc 0 hn
  have e0 : a.add 0 = a := by unfold Addr.add; cases a; simp
  rw [e0, List.getElem?_eq_getElem (by omega)] at h0
  have hsp := World.cell?_spot h0
  refine ⟨hsp, ?_⟩
  unfold World.cell? at h0
  cases hb : W.heap[a.block]? with
  | none => rw [hb] at h0; cases h0
  | some o =>
    cases o with
    | cells c t fz =>
      refine ⟨.lst (c.toList.map enc), fun H => by simp only [blkOf, hb], getN_of n a.off _ (by simpa using hlen) (fun i hi => ?_)⟩
      have hi' := hc i hi
      have hai : (a.add i).block = a.block ∧ (a.add i).off = a.off + i ∧ (a.add i).spot = none := by
        unfold Addr.add
        split
        · rename_i e; subst e; exact ⟨rfl, rfl, hsp⟩
        · simp_all
      unfold World.cell? at hi'
      rw [hai.1, hb, hai.2.1, hai.2.2] at hi'
      simp only [Option.isSome_none, Bool.false_eq_true, if_false] at hi'
      rw [List.getElem?_map, List.getElem?_map, ← hi']
      simp
    | _ => rw [hb] at h0; cases h0
end
end Go.Proofs.Ytnfehkjkmlbceaa.Sx

/- What is read of the arguments. -/
namespace Go.Proofs.Ytnfehkjkmlbceaa.Sx
section
variable {P : Program} {W : World} {H : Type} {enc' : TypeId × Value → H} {hd : Bool}
theorem bytes_in {e : TypeId} (he : P.underlying e = some (.int .u8)) {n : Nat} {cs : List Value} {x : DataW H × List MemPlace} (h : DataW.trod enc' P W 0 (fun _ => true) hd n e cs = some x) : ∃ b : UInt8, cs = [.int .u8 b.toNat] := by
  obtain ⟨k, rfl, _, hw⟩ := DataW.trod_int he h
  have hk : 0 ≤ k ∧ k ≤ 255 := by simpa [Lit.wf, IntKind.min, IntKind.max, IntKind.signed, IntKind.bits] using hw
  refine ⟨UInt8.ofNat k.toNat, ?_⟩
  have : ((UInt8.ofNat k.toNat).toNat : Int) = k := by
    rw [UInt8.toNat_ofNat']; omega
  rw [this]
/-- A list of bytes that can be read. -/
theorem by_old {t e : TypeId} (ht : P.underlying t = some (.slice e)) (he : P.underlying e = some (.int .u8)) (hc : P.cellsOf e = 1) {n : Nat} {cs : List Value} {x : DataW H × List MemPlace} (h : DataW.trod enc' P W 0 (fun _ => true) hd n t cs = some x) :
    ∃ v bs, cs = [v] ∧ OldBy W bs (enc v) ∧ bs.length ≤ maxLen := by
  rcases DataW.trod_slice ht h with ⟨rfl, rfl⟩ | ⟨a, len, cap, elems, rest, m, rfl, rfl, rfl, _, hlc, hm, hlen, hel, hsp, _⟩
  · exact ⟨_, [], rfl, fun H => .nil rfl, by simp⟩
  · obtain ⟨hrl, hre⟩ := hsp rfl
    by_cases h0 : cap = 0
    · subst h0
      have : len = 0 := by omega
      subst this
      exact ⟨_, [], rfl, fun H => by show By W H [] (enc (.slice (some a) 0 0)) []; exact .emp rfl, by simp⟩
    · have cell : ∀ i, i < cap → ∃ b : UInt8, W.cell? (a.add i) = some (.int .u8 b.toNat) := fun i hi => by
        have : ∃ cs' y, W.cells? 0 (a.add (i * P.cellsOf e)) (P.cellsOf e) = some cs' ∧ DataW.trod enc' P W 0 (fun _ => true) hd m e cs' = some y := by
          by_cases hil : i < len
          · have := hel i hil
            rw [List.getElem?_eq_getElem (by omega), Option.bind_eq_some_iff] at this
            obtain ⟨cs', h1, h2⟩ := this
            exact ⟨cs', _, h1, h2⟩
          · have := hre (i - len) (by omega)
            rw [List.getElem?_eq_getElem (by omega), Option.bind_eq_some_iff, show len + (i - len) = i from by omega] at this
            obtain ⟨cs', h1, h2⟩ := this
            exact ⟨cs', _, h1, h2⟩
        obtain ⟨cs', y, h1, h2⟩ := this
        obtain ⟨b, rfl⟩ := bytes_in he h2
        rw [hc, Nat.mul_one] at h1
        exact ⟨b, ChangeShapes.cell_of_cells?_one h1⟩
      obtain ⟨B, hB⟩ := Deep.choose_lt (α := UInt8) (p := fun i (b : UInt8) => W.cell? (a.add i) = some (.int .u8 b.toNat)) (n := cap) cell
      have hcl := cell 0 (by omega)
      obtain ⟨b0, hb0⟩ := hcl
      have e0 : a.add 0 = a := by unfold Addr.add; cases a; simp
      rw [e0] at hb0
      have hspot := World.cell?_spot hb0
      have hall : W.cells? 0 a cap = some ((List.range cap).map fun i => .int .u8 (B i).toNat) := by
        unfold World.cells?
        rw [if_pos (Nat.zero_le _)]
        exact ChangeShapes.mapM_range_of cap fun i hi => hB i hi
      obtain ⟨_, c, hblk, hg⟩ := cells_old hall (by omega)
      refine ⟨_, (List.range len).map B, rfl, fun H => ?_, by simp; omega⟩
      have henc : enc (.slice (some a) len cap) = .sl (some ⟨.old a.block, a.off⟩) len (.exact cap) := by
        obtain ⟨ab, ao, asp⟩ := a
        simp only at hspot
        subst hspot
        cases cap with
        | zero => exact absurd rfl h0
        | succ c => cases len <;> rfl
      rw [henc]
      have hg2 : c.getN a.off len = some (cb ((List.range len).map B)) := by
        have key : ∀ (k j : Nat) (l : List AV), c.getN j (k + 0) = c.getN j k := fun _ _ _ => rfl
        have hget := (Cells.getN_get hg).2
        have : ∀ (k o : Nat) (l : List AV), l.length = k → (∀ i, i < k → c.get (o + i) = l[i]?) → c.getN o k = some l := by
          intro k
          induction k with
          | zero => intro o l hl _; rw [List.eq_nil_of_length_eq_zero hl]; rfl
          | succ k ih =>
            intro o l hl h
            cases l with
            | nil => simp at hl
            | cons y l =>
              have h0 := h 0 (by omega)
              simp only [Nat.add_zero, List.getElem?_cons_zero] at h0
              simp only [Cells.getN, h0]
              rw [ih (o + 1) l (by simpa using hl) (fun i hi => by have := h (i + 1) (by omega); rw [show o + 1 + i = o + (i + 1) from by omega, this]; simp)]
        refine this len a.off _ (by simp [cb]) (fun i hi => ?_)
        rw [hget i (by omega)]
        simp only [cb, List.getElem?_map, List.getElem?_range hi, List.getElem?_range (show i < cap by omega), Option.map_some, enc]
      have hlen' : ((List.range len).map B).length = len := by simp
      have := By.old (W := W) (H := H) (bs := (List.range len).map B) a.block a.off (.exact cap) c (hblk H) (by rw [hlen']; exact hg2)
      rw [hlen'] at this
      exact this
end
end Go.Proofs.Ytnfehkjkmlbceaa.Sx

/- The seat's functions are what they were compiled to. -/
namespace Go.Proofs.Ytnfehkjkmlbceaa.Sx
open Go.Proofs
theorem hc3 : compFn Try.prog 3 = some sf3 := by kernel_rfl
theorem hc4 : compFn Try.prog 4 = some sf4 := by kernel_rfl
theorem hc5 : compFn Try.prog 5 = some sf5 := by kernel_rfl
theorem hc6 : compFn Try.prog 6 = some sf6 := by kernel_rfl
theorem hc7 : compFn Try.prog 7 = some sf7 := by kernel_rfl
theorem hc8 : compFn Try.prog 8 = some sf8 := by kernel_rfl
theorem hc9 : compFn Try.prog 9 = some sf9 := by kernel_rfl
theorem hc10 : compFn Try.prog 10 = some sf10 := by kernel_rfl
theorem hc11 : compFn Try.prog 11 = some sf11 := by kernel_rfl
theorem hc12 : compFn Try.prog 12 = some sf12 := by kernel_rfl
theorem hc13 : compFn Try.prog 13 = some sf13 := by kernel_rfl
theorem hc14 : compFn Try.prog 14 = some sf14 := by kernel_rfl
theorem hc15 : compFn Try.prog 15 = some sf15 := by kernel_rfl
theorem hc16 : compFn Try.prog 16 = some sf16 := by kernel_rfl
theorem hc17 : compFn Try.prog 17 = some sf17 := by kernel_rfl
theorem hc18 : compFn Try.prog 18 = some sf18 := by kernel_rfl
theorem hc19 : compFn Try.prog 19 = some sf19 := by kernel_rfl
theorem hc20 : compFn Try.prog 20 = some sf20 := by kernel_rfl
theorem hc21 : compFn Try.prog 21 = some sf21 := by kernel_rfl
theorem hc22 : compFn Try.prog 22 = some sf22 := by kernel_rfl
theorem hc23 : compFn Try.prog 23 = some sf23 := by kernel_rfl
theorem hc24 : compFn Try.prog 24 = some sf24 := by kernel_rfl
theorem hc25 : compFn Try.prog 25 = some sf25 := by kernel_rfl
theorem hc26 : compFn Try.prog 26 = some sf26 := by kernel_rfl
theorem hc27 : compFn Try.prog 27 = some sf27 := by kernel_rfl
theorem hc28 : compFn Try.prog 28 = some sf28 := by kernel_rfl
theorem hc29 : compFn Try.prog 29 = some sf29 := by kernel_rfl
theorem hc30 : compFn Try.prog 30 = some sf30 := by kernel_rfl
theorem hc31 : compFn Try.prog 31 = some sf31 := by kernel_rfl
theorem hc32 : compFn Try.prog 32 = some sf32 := by kernel_rfl
theorem hc33 : compFn Try.prog 33 = some sf33 := by kernel_rfl
theorem hc34 : compFn Try.prog 34 = some sf34 := by kernel_rfl
theorem hc35 : compFn Try.prog 35 = some sf35 := by kernel_rfl
theorem hc36 : compFn Try.prog 36 = some sf36 := by kernel_rfl
theorem hc37 : compFn Try.prog 37 = some sf37 := by kernel_rfl
theorem hc38 : compFn Try.prog 38 = some sf38 := by kernel_rfl
theorem hc39 : compFn Try.prog 39 = some sf39 := by kernel_rfl
theorem hc40 : compFn Try.prog 40 = some sf40 := by kernel_rfl
theorem hc41 : compFn Try.prog 41 = some sf41 := by kernel_rfl
theorem hc42 : compFn Try.prog 42 = some sf42 := by kernel_rfl
theorem hc43 : compFn Try.prog 43 = some sf43 := by kernel_rfl
theorem hc44 : compFn Try.prog 44 = some sf44 := by kernel_rfl
theorem hc45 : compFn Try.prog 45 = some sf45 := by kernel_rfl
theorem hc46 : compFn Try.prog 46 = some sf46 := by kernel_rfl
theorem hc47 : compFn Try.prog 47 = some sf47 := by kernel_rfl
theorem hc48 : compFn Try.prog 48 = some sf48 := by kernel_rfl
theorem hc49 : compFn Try.prog 49 = some sf49 := by kernel_rfl
theorem hc50 : compFn Try.prog 50 = some sf50 := by kernel_rfl
theorem hc51 : compFn Try.prog 51 = some sf51 := by kernel_rfl
def envF : Env := fun f => match f with
  | 3 => some (.code sf3)
  | 4 => some (.code sf4)
  | 5 => some (.code sf5)
  | 6 => some (.code sf6)
  | 7 => some (.code sf7)
  | 8 => some (.code sf8)
  | 9 => some (.code sf9)
  | 10 => some (.code sf10)
  | 11 => some (.code sf11)
  | 12 => some (.code sf12)
  | 13 => some (.code sf13)
  | 14 => some (.code sf14)
  | 15 => some (.code sf15)
  | 16 => some (.code sf16)
  | 17 => some (.code sf17)
  | 18 => some (.code sf18)
  | 19 => some (.code sf19)
  | 20 => some (.code sf20)
  | 21 => some (.code sf21)
  | 22 => some (.code sf22)
  | 23 => some (.code sf23)
  | 24 => some (.code sf24)
  | 25 => some (.code sf25)
  | 26 => some (.code sf26)
  | 27 => some (.code sf27)
  | 28 => some (.code sf28)
  | 29 => some (.code sf29)
  | 30 => some (.code sf30)
  | 31 => some (.code sf31)
  | 32 => some (.code sf32)
  | 33 => some (.code sf33)
  | 34 => some (.code sf34)
  | 35 => some (.code sf35)
  | 36 => some (.code sf36)
  | 37 => some (.code sf37)
  | 38 => some (.code sf38)
  | 39 => some (.code sf39)
  | 40 => some (.code sf40)
  | 41 => some (.code sf41)
  | 42 => some (.code sf42)
  | 43 => some (.code sf43)
  | 44 => some (.code sf44)
  | 45 => some (.code sf45)
  | 46 => some (.code sf46)
  | 47 => some (.code sf47)
  | 48 => some (.code sf48)
  | 49 => some (.code sf49)
  | 50 => some (.code sf50)
  | 51 => some (.code sf51)
  | _ => none
theorem envF_ok (W : World) : EnvOk Try.prog W envF := by
  intro f e h
  unfold envF at h
  split at h
  · cases h; exact hc3
  · cases h; exact hc4
  · cases h; exact hc5
  · cases h; exact hc6
  · cases h; exact hc7
  · cases h; exact hc8
  · cases h; exact hc9
  · cases h; exact hc10
  · cases h; exact hc11
  · cases h; exact hc12
  · cases h; exact hc13
  · cases h; exact hc14
  · cases h; exact hc15
  · cases h; exact hc16
  · cases h; exact hc17
  · cases h; exact hc18
  · cases h; exact hc19
  · cases h; exact hc20
  · cases h; exact hc21
  · cases h; exact hc22
  · cases h; exact hc23
  · cases h; exact hc24
  · cases h; exact hc25
  · cases h; exact hc26
  · cases h; exact hc27
  · cases h; exact hc28
  · cases h; exact hc29
  · cases h; exact hc30
  · cases h; exact hc31
  · cases h; exact hc32
  · cases h; exact hc33
  · cases h; exact hc34
  · cases h; exact hc35
  · cases h; exact hc36
  · cases h; exact hc37
  · cases h; exact hc38
  · cases h; exact hc39
  · cases h; exact hc40
  · cases h; exact hc41
  · cases h; exact hc42
  · cases h; exact hc43
  · cases h; exact hc44
  · cases h; exact hc45
  · cases h; exact hc46
  · cases h; exact hc47
  · cases h; exact hc48
  · cases h; exact hc49
  · cases h; exact hc50
  · cases h; exact hc51
  · cases h
end Go.Proofs.Ytnfehkjkmlbceaa.Sx

/- What is read of the arguments: lists of deeds. -/
namespace Go.Proofs.Ytnfehkjkmlbceaa.Sx
open Go.Proofs
section
variable {W : World} {H : Type} {enc' : TypeId × Value → H} {hd : Bool}
theorem cells36 : Try.prog.cellsOf 36 = 6 := by kernel_rfl
theorem cells33 : Try.prog.cellsOf 33 = 3 := by kernel_rfl
theorem cells34 : Try.prog.cellsOf 34 = 1 := by kernel_rfl
theorem cells3 : Try.prog.cellsOf 3 = 1 := by kernel_rfl
theorem cells5 : Try.prog.cellsOf 5 = 1 := by kernel_rfl
theorem do_in {n : Nat} {cs : List Value} {x : DataW H × List MemPlace} (h : DataW.trod enc' Try.prog W 0 (fun _ => true) hd n 36 cs = some x) : ∃ (d : Do1) (w : AV), cs.map enc = doC d w ∧ OldBy W d.b w := by
  obtain ⟨xs, m, rfl, _, hl, hxl, hf⟩ := DataW.trod_struct Try.underlying36 h
  rw [cells36] at hl
  match cs, hl with
  | [c0, c1, c2, c3, c4, c5], _ =>
    have hx : xs.length = 4 := hxl
    match xs, hx with
    | [x0, x1, x2, x3], _ =>
      have f0 : DataW.trod enc' Try.prog W 0 (fun _ => true) hd m 3 (List.take (Try.prog.cellsOf 3) (List.drop 0 [c0, c1, c2, c3, c4, c5])) = some x0 := hf 0 _ rfl
      rw [cells3] at f0
      have f1 : DataW.trod enc' Try.prog W 0 (fun _ => true) hd m 3 (List.take (Try.prog.cellsOf 3) (List.drop 1 [c0, c1, c2, c3, c4, c5])) = some x1 := hf 1 _ rfl
      rw [cells3] at f1
      have f2 : DataW.trod enc' Try.prog W 0 (fun _ => true) hd m 33 (List.take (Try.prog.cellsOf 33) (List.drop 2 [c0, c1, c2, c3, c4, c5])) = some x2 := hf 2 _ rfl
      rw [cells33] at f2
      have f3 : DataW.trod enc' Try.prog W 0 (fun _ => true) hd m 34 (List.take (Try.prog.cellsOf 34) (List.drop 5 [c0, c1, c2, c3, c4, c5])) = some x3 := hf 3 _ rfl
      rw [cells34] at f3
      simp only [List.drop_zero, List.drop_succ_cons, List.take_succ_cons, List.take_zero] at f0 f1 f2 f3
      obtain ⟨k, e0, _, _⟩ := DataW.trod_int Try.underlying3 f0
      obtain ⟨n', e1, _, _⟩ := DataW.trod_int Try.underlying3 f1
      obtain ⟨ys, m2, _, _, _, hyl, hg⟩ := DataW.trod_struct Try.underlying33 f2
      have hy : ys.length = 3 := hyl
      match ys, hy with
      | [y0, y1, y2], _ =>
        have g0 : DataW.trod enc' Try.prog W 0 (fun _ => true) hd m2 3 (List.take (Try.prog.cellsOf 3) (List.drop 0 [c2, c3, c4])) = some y0 := hg 0 _ rfl
        rw [cells3] at g0
        have g1 : DataW.trod enc' Try.prog W 0 (fun _ => true) hd m2 3 (List.take (Try.prog.cellsOf 3) (List.drop 1 [c2, c3, c4])) = some y1 := hg 1 _ rfl
        rw [cells3] at g1
        have g2 : DataW.trod enc' Try.prog W 0 (fun _ => true) hd m2 3 (List.take (Try.prog.cellsOf 3) (List.drop 2 [c2, c3, c4])) = some y2 := hg 2 _ rfl
        rw [cells3] at g2
        simp only [List.drop_zero, List.drop_succ_cons, List.take_succ_cons, List.take_zero] at g0 g1 g2
        obtain ⟨t1, e2, _, _⟩ := DataW.trod_int Try.underlying3 g0
        obtain ⟨t2, e3, _, _⟩ := DataW.trod_int Try.underlying3 g1
        obtain ⟨t3, e4, _, _⟩ := DataW.trod_int Try.underlying3 g2
        obtain ⟨v, bs, e5, hv, _⟩ := by_old Try.underlying34 Try.underlying5 cells5 f3
        simp only [List.cons.injEq, and_true] at e0 e1 e2 e3 e4 e5
        subst e0 e1 e2 e3 e4 e5
        exact ⟨⟨k, n', (t1, t2, t3), bs⟩, enc c5, rfl, hv⟩
theorem dos_in {base : Nat} {v : Value} {d : DataW H} {ps : List MemPlace} (hv : Value.okWide Try.prog W .any base 22 v) (h : DataW.Trod enc' Try.prog W 0 (fun _ => true) hd 22 v d ps) : ∃ av ds, VR ⟨fun _ => none, fun _ => 0⟩ av v ∧ Dos W ds av := by
  obtain ⟨a0, len0, cap0, rfl⟩ := WideShapes.okWide_slice Try.underlying22 hv
  obtain ⟨n, h⟩ := h
  rcases DataW.trod_slice Try.underlying22 h with ⟨hc, _⟩ | ⟨a, len, cap, elems, rest, m, _, hc, _, _, hlc, hm, hlen, hel, _, _⟩
  · simp only [Value.cells, List.cons.injEq, Value.slice.injEq, and_true] at hc
    obtain ⟨rfl, rfl, rfl⟩ := hc
    exact ⟨.sl none 0 (.exact 0), [], .slN 0 0, by simp, rfl, fun i hi => by simp at hi⟩
  · simp only [Value.cells, List.cons.injEq, Value.slice.injEq, and_true] at hc
    obtain ⟨rfl, rfl, rfl⟩ := hc
    rw [cells36] at hel
    by_cases h0 : len0 = 0
    · subst h0
      exact ⟨.emp, [], .emp a cap0, by simp, rfl, fun i hi => by simp at hi⟩
    · have each : ∀ i, i < len0 → ∃ (dw : Do1 × AV), ∃ cs', W.cells? 0 (a.add (i * 6)) 6 = some cs' ∧ cs'.map enc = doC dw.1 dw.2 ∧ OldBy W dw.1.b dw.2 := fun i hi => by
        have := hel i hi
        rw [List.getElem?_eq_getElem (by omega), Option.bind_eq_some_iff] at this
        obtain ⟨cs', h1, h2⟩ := this
        obtain ⟨d, w, h3, h4⟩ := do_in h2
        exact ⟨(d, w), cs', h1, h3, h4⟩
      haveI : Inhabited (Do1 × AV) := ⟨(⟨0, 0, (0, 0, 0), []⟩, .unk)⟩
      obtain ⟨F, hF⟩ := Deep.choose_lt each
      obtain ⟨cs0, hc0, _, _⟩ := hF 0 (by omega)
      rw [Nat.zero_mul] at hc0
      obtain ⟨hsp, _⟩ := cells_old hc0 (by omega)
      have e0 : a.add 0 = a := by unfold Addr.add; cases a; simp
      rw [e0] at hsp
      obtain ⟨ab, ao, asp⟩ := a
      simp only at hsp
      subst hsp
      refine ⟨.sl (some ⟨.old ab, ao⟩) len0 (.exact cap0), (List.range len0).map fun i => (F i).1, .sl ⟨rfl, rfl, rfl⟩ rfl, ?_, ?_, fun i hi => ?_⟩
      · have : maxLen ≤ 9223372036854775807 := by decide
        simp; omega
      · simp [lenV]
      · have hi' : i < len0 := by simpa using hi
        obtain ⟨cs', h1, h2, h3⟩ := hF i hi'
        obtain ⟨hsp', c, hb, hg⟩ := cells_old h1 (by omega)
        have hoff : ((⟨ab, ao, none⟩ : Addr).add (i * 6)).off = ao + i * 6 ∧ ((⟨ab, ao, none⟩ : Addr).add (i * 6)).block = ab := by
          unfold Addr.add; split
          · rename_i e; rw [e]; exact ⟨rfl, rfl⟩
          · exact ⟨rfl, rfl⟩
        rw [hoff.1, h2] at hg
        rw [hoff.2] at hb
        have hir : (0 : Int) ≤ i ∧ (i : Int) < len0 := by omega
        have hgi : ((List.range len0).map fun i => (F i).1)[i] = (F i).1 := by simp
        rw [hgi]
        refine ⟨.ptr (some ⟨.old ab, ao + i * 6⟩), (F i).2, ?_, fun H => ?_, h3⟩
        · simp only [iaddrV, Int.toNat_natCast]
          rw [if_pos hir]
        · simp only [loadV, hb, hg]; rfl
end
open Go.RowKit Go.WideShapes Go.ChangeShapes
theorem Try.own' : ownKnob Try.prog.godebug = none := by kernel_rfl
theorem Try.laidOut' : laidOutB Try.prog = true := by kernel_rfl
theorem envT : EnvT envF := by constructor <;> rfl
end Go.Proofs.Ytnfehkjkmlbceaa.Sx

