/- A second, deterministic reading of the program, part 5: proved sound for every order and every capacity; then what the functions do. -/
import Derived.Test.YtnfehkjkmlbceaaTwD
import Derived.Test.YtnfehkjkmlbceaaTwB
import Derived.ProofKit
import Derived.Below
import Derived.ChangeSame
import Derived.ReadAgain
import Derived.ChangeSlices
import Derived.Deep.Slices
import Derived.Test.YtnfehkjkmlbceaaTwC
import Derived.Test.YtnfehkjkmlbceaaChecked
import Derived.KernelRfl
import Derived.Test.YtnfehkjkmlbceaaRows
/- The plain law of the store: what the program's store tells is what the document's tells. -/
namespace Go.Proofs.Ytnfehkjkmlbceaa.Sx
def topN : Int := 4611686018427387904
theorem drB_spec (k : Int) : ∀ (L : List T3) (b : Int), 0 ≤ b → b ≤ 4611686018427387904 → match drB k L b with
    | none => ∃ w, (1, k, w) ∈ L ∧ 4611686018427387904 ≤ w
    | some b' => b ≤ b' ∧ b' ≤ 4611686018427387904 ∧ (∀ w, (1, k, w) ∈ L → w < b') ∧ (b' = b ∨ ∃ w, (1, k, w) ∈ L ∧ b' = w + 1) := by
  intro L
  induction L with
  | nil => intro b h0 h1; simp [drB]; exact h1
  | cons x L ih =>
    intro b h0 h1
    obtain ⟨x1, x2, x3⟩ := x
    simp only [drB]
    by_cases c : x1 = 1 ∧ x2 = k ∧ b ≤ x3
    · obtain ⟨rfl, rfl, c3⟩ := c
      rw [if_pos ⟨rfl, rfl, c3⟩]
      by_cases d : 4611686018427387904 ≤ x3
      · rw [if_pos d]
        exact ⟨x3, by simp, d⟩
      · rw [if_neg d]
        have := ih (x3 + 1) (by omega) (by omega)
        split at this
        · rename_i e
          obtain ⟨w, hw, h⟩ := this
          exact ⟨w, by simp [hw], h⟩
        · rename_i b' e
          obtain ⟨q1, q2, q3, q4⟩ := this
          refine ⟨by omega, q2, fun w hw => ?_, ?_⟩
          · rcases List.mem_cons.1 hw with h | h
            · simp only [Prod.mk.injEq, true_and] at h; omega
            · exact q3 w h
          · rcases q4 with h | ⟨w, hw, h⟩
            · exact .inr ⟨x3, by simp, h⟩
            · exact .inr ⟨w, by simp [hw], h⟩
    · rw [if_neg c]
      have := ih b h0 h1
      split at this
      · rename_i e
        obtain ⟨w, hw, h⟩ := this
        exact ⟨w, by simp [hw], h⟩
      · rename_i b' e
        obtain ⟨q1, q2, q3, q4⟩ := this
        refine ⟨q1, q2, fun w hw => ?_, ?_⟩
        · rcases List.mem_cons.1 hw with h | h
          · simp only [Prod.mk.injEq] at h
            obtain ⟨h1, h2, h3⟩ := h
            have : ¬ b ≤ x3 := fun e => c ⟨h1.symm, h2.symm, e⟩
            omega
          · exact q3 w h
        · rcases q4 with h | ⟨w, hw, h⟩
          · exact .inl h
          · exact .inr ⟨w, by simp [hw], h⟩
def mn (w : Int) : Int := if 4611686018427387904 < w then 4611686018427387904 else w
/-- What holds of both stores. -/
structure Inv (S : MS) (B : List (List UInt8)) : Prop where
  t : S.T.map (·.1) = B
  n5 : S.N.length = 5
  wf : WFL S.L
  n0 : ∀ k : Nat, k < 5 → 0 ≤ S.N.getD k 0 ∧ S.N.getD k 0 ≤ 4611686018427387905
  n1 : ∀ (k : Nat) (w : Int), 1 ≤ k → k < 5 → (1, (k : Int), w) ∈ S.L → 0 ≤ w ∧ mn w + 1 ≤ S.N.getD k 0
  n2 : ∀ k : Nat, 1 ≤ k → k < 5 → S.N.getD k 0 = 0 ∨ ∃ w, (1, (k : Int), w) ∈ S.L ∧ S.N.getD k 0 = mn w + 1
  tx : ∀ i, (hi : i < S.T.length) → numOf (9, (i : Int), 0) S.L = some S.T[i].2
  nt : ∀ x ∈ S.L, x.1 = 9 → 0 ≤ x.2.1 ∧ x.2.1 < S.T.length ∧ x.2.2 = 0
  bl : ∀ b ∈ S.T, b.1.length ≤ 100
theorem numOf_mem {x : T3} : ∀ {L : List T3}, x ∉ L → numOf x L = none := by
  intro L
  induction L with
  | nil => intro _; rfl
  | cons y L ih =>
    intro h
    simp only [List.mem_cons, not_or] at h
    simp only [numOf, h.1, if_false, ih h.2, Option.map_none]
theorem numOf_app {x y : T3} {n : Nat} : ∀ {L : List T3}, numOf x L = some n → numOf x (L ++ [y]) = some n := by
  intro L
  induction L generalizing n with
  | nil => intro h; cases h
  | cons z L ih =>
    intro h
    simp only [numOf, List.cons_append] at h ⊢
    by_cases e : x = z
    · rw [if_pos e] at h ⊢; exact h
    · rw [if_neg e] at h ⊢
      cases hn : numOf x L with
      | none => rw [hn] at h; cases h
      | some m => rw [hn] at h; rw [ih hn]; exact h
theorem numOf_new {x : T3} : ∀ {L : List T3}, numOf x L = none → numOf x (L ++ [x]) = some L.length := by
  intro L
  induction L with
  | nil => intro _; simp [numOf]
  | cons z L ih =>
    intro h
    simp only [numOf, List.cons_append] at h ⊢
    by_cases e : x = z
    · rw [if_pos e] at h; cases h
    · rw [if_neg e] at h ⊢
      cases hn : numOf x L with
      | none => rw [ih hn]; rfl
      | some m => rw [hn] at h; cases h
theorem numOf_lt {x : T3} {L : List T3} {n : Nat} (h : numOf x L = some n) : n < L.length := (List.getElem?_eq_some_iff.1 (numOf_some h)).1
theorem wfl_snoc {L : List T3} {x : T3} (h : WFL L) (h1 : x.1 ≠ 1 → x.1 ≠ 9 → 0 ≤ x.2.1 ∧ x.2.1 < L.length) (h2 : (x.1 = 4 ∨ x.1 = 5 ∨ x.1 = 8) → 0 ≤ x.2.2 ∧ x.2.2 < L.length) : WFL (L ++ [x]) := by
  intro i y hy
  rw [List.getElem?_append] at hy
  by_cases hi : i < L.length
  · rw [if_pos hi] at hy; exact h i y hy
  · rw [if_neg hi] at hy
    have : i - L.length = 0 := by
      rcases Nat.eq_zero_or_pos (i - L.length) with e | e
      · exact e
      · rw [List.getElem?_eq_none (by simp; omega)] at hy; cases hy
    rw [this] at hy
    simp at hy
    subst hy
    have : i = L.length := by omega
    subst this
    exact ⟨h1, h2⟩
theorem hasM_bd {L : List T3} {n k : Int} (h : hasM L n k = true) : 0 ≤ n ∧ n < L.length := by
  simp only [hasM, Bool.and_eq_true, decide_eq_true_eq] at h; exact h.1
theorem may_wf {L : List T3} {nb : Nat} {x : T3} (h : mayM L nb x = true) : (x.1 ≠ 1 → x.1 ≠ 9 → 0 ≤ x.2.1 ∧ x.2.1 < L.length) ∧ ((x.1 = 4 ∨ x.1 = 5 ∨ x.1 = 8) → 0 ≤ x.2.2 ∧ x.2.2 < L.length) := by
  unfold mayM at h
  refine ⟨fun n1 n9 => ?_, fun hk => ?_⟩
  · rw [if_neg n1] at h
    split at h
    · simp only [Bool.and_eq_true] at h; exact hasM_bd h.1
    · split at h
      · simp only [Bool.and_eq_true] at h; exact hasM_bd h.1
      · split at h
        · simp only [Bool.and_eq_true] at h; exact hasM_bd h.1
        · split at h
          · simp only [Bool.and_eq_true] at h; exact hasM_bd h.1
          · split at h
            · simp only [Bool.and_eq_true] at h; exact hasM_bd h.1
            · cases h
  · rcases hk with e | e | e
    all_goals
      simp [e] at h
      exact hasM_bd h.2
theorem may_text {L : List T3} {nb : Nat} {x : T3} (h : mayM L nb x = true) (e : x.1 = 9) : 0 ≤ x.2.1 ∧ x.2.1 < nb ∧ x.2.2 = 0 := by
  unfold mayM at h
  simp [e] at h
  exact ⟨h.1.1, h.1.2, h.2⟩
theorem may_atom' {L : List T3} {nb : Nat} {x : T3} (h : mayM L nb x = true) (e : x.1 = 1) : ∃ u : Nat, 1 ≤ u ∧ u < 5 ∧ x.2.1 = u ∧ 0 ≤ x.2.2 := by
  obtain ⟨⟨h1, h2⟩, h3⟩ := may_atom h e
  exact ⟨x.2.1.toNat, by omega, by omega, by omega, h3⟩
theorem addN_eq {N : List Int} {u : Nat} {w : Int} (hw : 0 ≤ w) : addN N (1, (u : Int), w) = N.set u (if N.getD u 0 < mn w + 1 then mn w + 1 else N.getD u 0) := by
  have hm : 0 ≤ mn w ∧ mn w ≤ 4611686018427387904 := by unfold mn; split <;> omega
  have : IntKind.i64.wrap (mn w + 1) = mn w + 1 := w64 (by omega)
  simp only [addN, if_true, nextM, Int.toNat_natCast]
  rw [show (if (4611686018427387904 : Int) < w then (4611686018427387904 : Int) else w) = mn w from rfl, this]
/-- A new atom. -/
theorem Inv.atom {S : MS} {B : List (List UInt8)} (h : Inv S B) {u : Nat} {w : Int} (hu : 1 ≤ u ∧ u < 5) (hw : 0 ≤ w) (hn : numOf (1, (u : Int), w) S.L = none) : Inv { S with L := S.L ++ [(1, (u : Int), w)], N := addN S.N (1, (u : Int), w) } B := by
  have hm : 0 ≤ mn w ∧ mn w ≤ 4611686018427387904 := by unfold mn; split <;> omega
  have hu5 : u < S.N.length := by rw [h.n5]; omega
  have hg : ∀ k : Nat, (addN S.N (1, (u : Int), w)).getD k 0 = if k = u then (if S.N.getD u 0 < mn w + 1 then mn w + 1 else S.N.getD u 0) else S.N.getD k 0 := fun k => by
    rw [addN_eq hw, List.getD_eq_getElem?_getD, List.getElem?_set]
    by_cases e : u = k
    · subst e; rw [if_pos rfl, if_pos hu5, if_pos rfl]; rfl
    · rw [if_neg e, if_neg (fun x => e x.symm), List.getD_eq_getElem?_getD]
  have h0 := h.n0 u hu.2
  refine ⟨h.t, by rw [addN_eq hw]; simp [h.n5], wfl_snoc h.wf (by simp) (by simp), fun k hk => ?_, fun k w' h1 h2 hx => ?_, fun k h1 h2 => ?_, fun i hi => numOf_app (h.tx i hi), fun x hx e => ?_, h.bl⟩
  · rw [hg]
    split
    · split <;> omega
    · exact h.n0 k hk
  · rw [hg]
    rcases List.mem_append.1 hx with hx | hx
    · have := h.n1 k w' h1 h2 hx
      split
      · rename_i e; subst e; split <;> omega
      · exact this
    · simp at hx
      obtain ⟨hku, rfl⟩ := hx
      have hku : k = u := by omega
      subst hku
      rw [if_pos rfl]
      split <;> omega
  · rw [hg]
    by_cases e : k = u
    · subst e
      rw [if_pos rfl]
      split
      · exact .inr ⟨w, by simp, rfl⟩
      · rcases h.n2 k h1 h2 with q | ⟨w', q1, q2⟩
        · exact .inl q
        · exact .inr ⟨w', by simp [q1], q2⟩
    · rw [if_neg e]
      rcases h.n2 k h1 h2 with q | ⟨w', q1, q2⟩
      · exact .inl q
      · exact .inr ⟨w', by simp [q1], q2⟩
  · rcases List.mem_append.1 hx with hx | hx
    · exact h.nt x hx e
    · simp at hx; subst hx; simp at e
/-- A new term that is no atom and no text. -/
theorem Inv.term {S : MS} {B : List (List UInt8)} (h : Inv S B) {x : T3} (hm : mayM S.L S.T.length x = true) (h1 : x.1 ≠ 1) (hn : numOf x S.L = none) : Inv { S with L := S.L ++ [x], N := addN S.N x } B := by
  have ha : addN S.N x = S.N := by simp [addN, h1]
  rw [ha]
  obtain ⟨w1, w2⟩ := may_wf hm
  refine ⟨h.t, h.n5, wfl_snoc h.wf w1 w2, h.n0, fun k w' q1 q2 hx => ?_, fun k q1 q2 => ?_, fun i hi => numOf_app (h.tx i hi), fun y hy e => ?_, h.bl⟩
  · rcases List.mem_append.1 hx with hx | hx
    · exact h.n1 k w' q1 q2 hx
    · simp at hx; subst hx; simp at h1
  · rcases h.n2 k q1 q2 with q | ⟨w', q1, q2⟩
    · exact .inl q
    · exact .inr ⟨w', by simp [q1], q2⟩
  · rcases List.mem_append.1 hy with hy | hy
    · exact h.nt y hy e
    · simp at hy; subst hy; exact may_text hm e
theorem Inv.put {S : MS} {B : List (List UInt8)} (h : Inv S B) (x : T3) : putR S.L B.length x = ((putM S x).1, (putM S x).2.1, (putM S x).2.2.L) ∧ Inv (putM S x).2.2 B ∧ (putM S x).2.2.T = S.T := by
  have hl : B.length = S.T.length := by rw [← h.t]; simp
  unfold putR putM
  rw [hl]
  cases hm : mayM S.L S.T.length x with
  | false => exact ⟨rfl, h, rfl⟩
  | true =>
    cases hn : numOf x S.L with
    | some n => exact ⟨rfl, h, rfl⟩
    | none =>
      refine ⟨rfl, ?_, rfl⟩
      by_cases e : x.1 = 1
      · obtain ⟨u, h1, h2, h3, h4⟩ := may_atom' hm e
        obtain ⟨x1, x2, x3⟩ := x
        simp only at e h3 h4
        subst e; subst h3
        exact h.atom ⟨h1, h2⟩ h4 hn
      · exact h.term hm e hn
theorem Inv.nx {S : MS} {B : List (List UInt8)} (h : Inv S B) {u : Nat} (hu : 1 ≤ u ∧ u < 5) : 0 ≤ nxt_ S u ∧ (match drB u S.L 0 with
    | none => 4611686018427387904 < nxt_ S u
    | some b => nxt_ S u = b ∧ b ≤ 4611686018427387904 ∧ 0 ≤ b ∧ numOf (1, (u : Int), b) S.L = none) := by
  have hsp := drB_spec u S.L 0 (by omega) (by omega)
  have h0 := h.n0 u hu.2
  have hn : nxt_ S u = S.N.getD u 0 := rfl
  rw [hn]
  refine ⟨h0.1, ?_⟩
  cases hd : drB u S.L 0 with
  | none =>
    rw [hd] at hsp
    obtain ⟨w, hw, hw2⟩ := hsp
    have := (h.n1 u w hu.1 hu.2 hw).2
    have hm : mn w = 4611686018427387904 := by unfold mn; split <;> omega
    show 4611686018427387904 < _
    omega
  | some b =>
    rw [hd] at hsp
    obtain ⟨q1, q2, q3, q4⟩ := hsp
    refine ⟨?_, q2, q1, numOf_mem fun hm => by have := q3 _ hm; omega⟩
    have a1 : S.N.getD u 0 ≤ b := by
      rcases h.n2 u hu.1 hu.2 with q | ⟨w, r1, r2⟩
      · omega
      · have := q3 w r1
        have : mn w ≤ w := by unfold mn; split <;> omega
        omega
    have a2 : b ≤ S.N.getD u 0 := by
      rcases q4 with q | ⟨w, r1, r2⟩
      · omega
      · have r3 := (h.n1 u w hu.1 hu.2 r1).2
        have : mn w = w := by unfold mn; split <;> omega
        omega
    omega
theorem Inv.draw {S : MS} {B : List (List UInt8)} (h : Inv S B) (k : Int) : drawR S.L k = ((drawM S k).1, (drawM S k).2.1, (drawM S k).2.2.L) ∧ Inv (drawM S k).2.2 B ∧ (drawM S k).2.2.T = S.T ∧ (sortM k = true → 0 ≤ nxt_ S k) ∧ (sortM k = true → nxt_ S k ≤ 4611686018427387904 → numOf (1, k, nxt_ S k) S.L = none) := by
  unfold drawR drawM
  cases hs : sortM k with
  | false => exact ⟨rfl, h, rfl, by simp, by simp⟩
  | true =>
    have hk : 1 ≤ k ∧ k ≤ 4 := by simpa [sortM] using hs
    obtain ⟨u, rfl⟩ := Int.eq_ofNat_of_zero_le (show 0 ≤ k by omega)
    have hu : 1 ≤ u ∧ u < 5 := by omega
    obtain ⟨h0, hn⟩ := h.nx hu
    cases hd : drB u S.L 0 with
    | none =>
      rw [hd] at hn
      have hn' : 4611686018427387904 < nxt_ S u := hn
      simp only [if_true, if_pos hn']
      exact ⟨trivial, h, trivial, fun _ => h0, fun _ _ => by omega⟩
    | some b =>
      rw [hd] at hn
      obtain ⟨e1, e2, e3, e4⟩ := hn
      rw [e1]
      simp only [if_true, if_neg (show ¬ 4611686018427387904 < b by omega)]
      exact ⟨trivial, h.atom hu e3 e4, trivial, fun _ => e3, fun _ _ => e4⟩
theorem idx_find (b : List UInt8) : ∀ T : List (List UInt8 × Nat), match idxB b (T.map (·.1)) with
    | none => T.find? (fun x => x.1 = b) = none
    | some n => ∃ hn : n < T.length, T.find? (fun x => x.1 = b) = some T[n] := by
  intro T
  induction T with
  | nil => simp [idxB]
  | cons x T ih =>
    simp only [List.map_cons, idxB, List.find?_cons]
    by_cases e : x.1 = b
    · simp [e]
    · simp only [if_neg e]
      have hdec : decide (x.1 = b) = false := by simp [e]
      rw [hdec]
      cases hi : idxB b (T.map (·.1)) with
      | none => rw [hi] at ih; simpa using ih
      | some n =>
        rw [hi] at ih
        obtain ⟨hn, ih⟩ := ih
        exact ⟨by simp; omega, by simpa using ih⟩
theorem Inv.fresh {S : MS} {B : List (List UInt8)} (h : Inv S B) : numOf (9, (S.T.length : Int), 0) S.L = none :=
  numOf_mem fun hm => by have := h.nt _ hm rfl; simp only at this; omega
theorem Inv.text {S : MS} {B : List (List UInt8)} (h : Inv S B) {b : List UInt8} (hb : b.length ≤ 100) : textR S.L B b = ((textN S b : Int), (textM S b).L, B ++ (if (S.T.find? fun x => x.1 = b).isNone then [b] else [])) ∧ Inv (textM S b) (textR S.L B b).2.2 := by
  have hi := idx_find b S.T
  rw [h.t] at hi
  have hl : B.length = S.T.length := by rw [← h.t]; simp
  unfold textR textN textM
  cases hx : idxB b B with
  | none =>
    rw [hx] at hi
    have hi : S.T.find? (fun x => x.1 = b) = none := hi
    rw [hi, hl]
    refine ⟨by simp, ?_⟩
    have hf := h.fresh
    refine ⟨by simp [h.t], h.n5, wfl_snoc h.wf (by simp) (by simp), h.n0, fun k w' q1 q2 hx => ?_, fun k q1 q2 => ?_, fun i hi => ?_, fun y hy e => ?_, fun c hc => ?_⟩
    · rcases List.mem_append.1 hx with hx | hx
      · exact h.n1 k w' q1 q2 hx
      · simp at hx
    · rcases h.n2 k q1 q2 with q | ⟨w', q1, q2⟩
      · exact .inl q
      · exact .inr ⟨w', by simp [q1], q2⟩
    · simp only [List.length_append, List.length_cons, List.length_nil] at hi
      by_cases e : i < S.T.length
      · rw [List.getElem_append_left e]; exact numOf_app (h.tx i e)
      · have : i = S.T.length := by omega
        subst this
        rw [List.getElem_append_right (by omega)]
        simp only [Nat.sub_self, List.getElem_cons_zero]
        exact numOf_new hf
    · simp only [List.length_append, List.length_cons, List.length_nil]
      rcases List.mem_append.1 hy with hy | hy
      · have := h.nt y hy e; exact ⟨this.1, by omega, this.2.2⟩
      · simp at hy; subst hy; exact ⟨by simp, by simp; omega, rfl⟩
    · rcases List.mem_append.1 hc with hc | hc
      · exact h.bl c hc
      · simp at hc; subst hc; exact hb
  | some n =>
    rw [hx] at hi
    obtain ⟨hn, hi⟩ := hi
    rw [hi]
    have := h.tx n hn
    refine ⟨by simp [findR, this], h⟩
end Go.Proofs.Ytnfehkjkmlbceaa.Sx

/- What is done to a store: Few, one, the example. -/
namespace Go.Proofs.Ytnfehkjkmlbceaa.Sx
open HP
structure Do1 where
  k : Int
  n : Int
  t : T3
  b : List UInt8
def doC (d : Do1) (w : AV) : List AV := [.int .i64 d.k, .int .i64 d.n, .int .i64 d.t.1, .int .i64 d.t.2.1, .int .i64 d.t.2.2, w]
/-- A list of what is done, that lay there when the call began. -/
def Dos (W : World) (ds : List Do1) (v : AV) : Prop := ds.length ≤ 9223372036854775807 ∧ lenV v = some (.int .i64 ds.length) ∧ ∀ (i : Nat) (hi : i < ds.length), ∃ p w, iaddrV 6 v (.int .i64 i) = some p ∧ (∀ H, loadV W H (some 6) p = some (.agg (doC ds[i] w))) ∧ OldBy W ds[i].b w
section
variable {W : World} {E : Env} {H : Heap} {Γ : List HP}
def fewL (ds : List Do1) : Bool := ds.all fun d => decide (d.b.length ≤ 100)
theorem few_loop {ds : List Do1} {v : AV} (hv : Dos W ds v) : ∀ (m i : Nat) (A : Tm) (H : Heap), i + m = ds.length → getX A 0 = v → getX A 5 = v → getX A 6 = .int .i64 ds.length → getX A 7 = .int .i64 i → Holds H Γ →
    ∃ lv A' H', run W E (.loop lp9_0) ⟨A, [], none⟩ H = some (lv, ⟨A', [], none⟩, H') ∧ (Holds H' Γ ∧ ((lv = .exit 0 ∧ fewL (ds.drop i) = true ∧ getX A' 0 = v) ∨ (lv = .ret ∧ fewL (ds.drop i) = false ∧ getX A' 2 = .bool false))) := by
  have hlp : ∀ f H, run W E lp9_0 f H = run W E lp9_0 f H := fun _ _ => rfl
  conv at hlp => enter [f, H, 2]; unfold lp9_0
  obtain ⟨hlen, hva, hget⟩ := hv
  intro m
  induction m with
  | zero =>
    intro i A H him h0 h5 h6 h7 h
    have : i = ds.length := by omega
    subst this
    have hlt : ¬ (ds.length : Int) < ds.length := by omega
    rw [run_loop]
    simp only [hlp, h0, h6, h7, hlt, ↓sxp, sxq, ↓reduceIte, Nat.reduceBEq, Nat.reduceLT, evP, evX, evR, blkOf, evA, storeA, Nat.reduceEqDiff, resL, resV, oneOrTup, Int.reduceEq, Int.reduceLT, Int.reduceLE, Int.reduceNeg, Int.reduceAdd, Int.reduceSub, Int.reduceMul, Int.reduceToNat, Nat.reduceAdd, noUnk, AV.cells, reduceCtorEq, Nat.reduceLeDiff, Cells.get, Cells.getN, Nat.reduceMul, ↓bnd_assoc]
    exact ⟨_, _, _, rfl, h, .inl ⟨rfl, by simp [fewL], by simp only [h0, ↓sxp, sxq, ↓reduceIte, Nat.reduceBEq, Nat.reduceLT, evP, evX, evR, blkOf, evA, storeA, Nat.reduceEqDiff, resL, resV, oneOrTup, Int.reduceEq, Int.reduceLT, Int.reduceLE, Int.reduceNeg, Int.reduceAdd, Int.reduceSub, Int.reduceMul, Int.reduceToNat, Nat.reduceAdd, noUnk, AV.cells, reduceCtorEq, Nat.reduceLeDiff, Cells.get, Cells.getN, Nat.reduceMul, ↓bnd_assoc]⟩⟩
  | succ m ih =>
    intro i A H him h0 h5 h6 h7 h
    have hlt : (i : Int) < ds.length := by omega
    obtain ⟨p, w, e1, e2, hw⟩ := hget i (by omega)
    have hwr : IntKind.i64.wrap ((i : Int) + 1) = ((i + 1 : Nat) : Int) := by rw [w64 (by omega)]; simp
    rw [run_loop, List.drop_eq_getElem_cons (show i < ds.length by omega)]
    generalize ds[i] = d at *
    obtain ⟨k, n, ⟨t1, t2, t3⟩, b⟩ := d
    simp only [doC] at e2 hw
    have h1 := h.push (c := [.int .i64 0, .int .i64 0, .int .i64 0, .int .i64 0, .int .i64 0, .sl none 0 (.exact 0)]) (t := 36)
    obtain ⟨w1, h2⟩ := h1.writeN (off := 0) (c' := [.int .i64 k, .int .i64 n, .int .i64 t1, .int .i64 t2, .int .i64 t3, w]) (vs := [.int .i64 k, .int .i64 n, .int .i64 t1, .int .i64 t2, .int .i64 t3, w]) rfl (by simp) (by simp only [List.all_cons, List.all_nil, noUnk_by (hw H), oneC_int, Bool.and_self])
    have g2 := h2.get
    have hbl := (hw H).len'
    by_cases e : b.length ≤ 100
    · have e' : ¬ (100 : Int) < b.length := by omega
      simp only [hlp, h0, h5, h6, h7, hlt, e1, e2, w1, ↓g2, hbl, e', hwr, ↓sxp, sxq, ↓reduceIte, Nat.reduceBEq, Nat.reduceLT, evP, evX, evR, blkOf, evA, storeA, Nat.reduceEqDiff, resL, resV, oneOrTup, Int.reduceEq, Int.reduceLT, Int.reduceLE, Int.reduceNeg, Int.reduceAdd, Int.reduceSub, Int.reduceMul, Int.reduceToNat, Nat.reduceAdd, noUnk, AV.cells, reduceCtorEq, Nat.reduceLeDiff, Cells.get, Cells.getN, Nat.reduceMul, ↓bnd_assoc]
      refine loop_mono (ih (i + 1) _ _ (by omega) (by simp only [h0, ↓sxp, sxq, ↓reduceIte, Nat.reduceBEq, Nat.reduceLT, evP, evX, evR, blkOf, evA, storeA, Nat.reduceEqDiff, resL, resV, oneOrTup, Int.reduceEq, Int.reduceLT, Int.reduceLE, Int.reduceNeg, Int.reduceAdd, Int.reduceSub, Int.reduceMul, Int.reduceToNat, Nat.reduceAdd, noUnk, AV.cells, reduceCtorEq, Nat.reduceLeDiff, Cells.get, Cells.getN, Nat.reduceMul, ↓bnd_assoc]) (by simp only [h5, ↓sxp, sxq, ↓reduceIte, Nat.reduceBEq, Nat.reduceLT, evP, evX, evR, blkOf, evA, storeA, Nat.reduceEqDiff, resL, resV, oneOrTup, Int.reduceEq, Int.reduceLT, Int.reduceLE, Int.reduceNeg, Int.reduceAdd, Int.reduceSub, Int.reduceMul, Int.reduceToNat, Nat.reduceAdd, noUnk, AV.cells, reduceCtorEq, Nat.reduceLeDiff, Cells.get, Cells.getN, Nat.reduceMul, ↓bnd_assoc]) (by simp only [h6, ↓sxp, sxq, ↓reduceIte, Nat.reduceBEq, Nat.reduceLT, evP, evX, evR, blkOf, evA, storeA, Nat.reduceEqDiff, resL, resV, oneOrTup, Int.reduceEq, Int.reduceLT, Int.reduceLE, Int.reduceNeg, Int.reduceAdd, Int.reduceSub, Int.reduceMul, Int.reduceToNat, Nat.reduceAdd, noUnk, AV.cells, reduceCtorEq, Nat.reduceLeDiff, Cells.get, Cells.getN, Nat.reduceMul, ↓bnd_assoc]) (by simp only [↓sxp, sxq, ↓reduceIte, Nat.reduceBEq, Nat.reduceLT, evP, evX, evR, blkOf, evA, storeA, Nat.reduceEqDiff, resL, resV, oneOrTup, Int.reduceEq, Int.reduceLT, Int.reduceLE, Int.reduceNeg, Int.reduceAdd, Int.reduceSub, Int.reduceMul, Int.reduceToNat, Nat.reduceAdd, noUnk, AV.cells, reduceCtorEq, Nat.reduceLeDiff, Cells.get, Cells.getN, Nat.reduceMul, ↓bnd_assoc]) h2.tail) fun lv A' H' ⟨hh, hr⟩ => ⟨hh, ?_⟩
      simpa [fewL, e] using hr
    · have e' : (100 : Int) < b.length := by omega
      simp only [hlp, h0, h5, h6, h7, hlt, e1, e2, w1, ↓g2, hbl, e', hwr, ↓sxp, sxq, ↓reduceIte, Nat.reduceBEq, Nat.reduceLT, evP, evX, evR, blkOf, evA, storeA, Nat.reduceEqDiff, resL, resV, oneOrTup, Int.reduceEq, Int.reduceLT, Int.reduceLE, Int.reduceNeg, Int.reduceAdd, Int.reduceSub, Int.reduceMul, Int.reduceToNat, Nat.reduceAdd, noUnk, AV.cells, reduceCtorEq, Nat.reduceLeDiff, Cells.get, Cells.getN, Nat.reduceMul, ↓bnd_assoc]
      exact ⟨_, _, _, rfl, h2.tail, .inr ⟨rfl, by simp [fewL, e], by simp only [↓sxp, sxq, ↓reduceIte, Nat.reduceBEq, Nat.reduceLT, evP, evX, evR, blkOf, evA, storeA, Nat.reduceEqDiff, resL, resV, oneOrTup, Int.reduceEq, Int.reduceLT, Int.reduceLE, Int.reduceNeg, Int.reduceAdd, Int.reduceSub, Int.reduceMul, Int.reduceToNat, Nat.reduceAdd, noUnk, AV.cells, reduceCtorEq, Nat.reduceLeDiff, Cells.get, Cells.getN, Nat.reduceMul, ↓bnd_assoc]⟩⟩
theorem l_few (hE : EnvT E) {ds : List Do1} {v : AV} (hv : Dos W ds v) (h : Holds H Γ) : ∃ H', go W E 9 [v] H = some (.bool (fewL ds && decide (ds.length ≤ 30)), H') ∧ Holds H' Γ := by
  apply Ends.out
  have hv' := hv
  obtain ⟨hlen, hl, hget⟩ := hv'
  rw [go_code hE.f9 (by simp [sf9])]
  simp only [sf9, hl, ↓sxp, sxq, ↓reduceIte, Nat.reduceBEq, Nat.reduceLT, evP, evX, evR, blkOf, evA, storeA, Nat.reduceEqDiff, resL, resV, oneOrTup, Int.reduceEq, Int.reduceLT, Int.reduceLE, Int.reduceNeg, Int.reduceAdd, Int.reduceSub, Int.reduceMul, Int.reduceToNat, Nat.reduceAdd, noUnk, AV.cells, reduceCtorEq, Nat.reduceLeDiff, Cells.get, Cells.getN, Nat.reduceMul, ↓bnd_assoc]
  refine Ends.loop (few_loop hv ds.length 0 _ _ (by omega) (by simp only [↓sxp, sxq, ↓reduceIte, Nat.reduceBEq, Nat.reduceLT, evP, evX, evR, blkOf, evA, storeA, Nat.reduceEqDiff, resL, resV, oneOrTup, Int.reduceEq, Int.reduceLT, Int.reduceLE, Int.reduceNeg, Int.reduceAdd, Int.reduceSub, Int.reduceMul, Int.reduceToNat, Nat.reduceAdd, noUnk, AV.cells, reduceCtorEq, Nat.reduceLeDiff, Cells.get, Cells.getN, Nat.reduceMul, ↓bnd_assoc]) (by simp only [↓sxp, sxq, ↓reduceIte, Nat.reduceBEq, Nat.reduceLT, evP, evX, evR, blkOf, evA, storeA, Nat.reduceEqDiff, resL, resV, oneOrTup, Int.reduceEq, Int.reduceLT, Int.reduceLE, Int.reduceNeg, Int.reduceAdd, Int.reduceSub, Int.reduceMul, Int.reduceToNat, Nat.reduceAdd, noUnk, AV.cells, reduceCtorEq, Nat.reduceLeDiff, Cells.get, Cells.getN, Nat.reduceMul, ↓bnd_assoc]) (by simp only [↓sxp, sxq, ↓reduceIte, Nat.reduceBEq, Nat.reduceLT, evP, evX, evR, blkOf, evA, storeA, Nat.reduceEqDiff, resL, resV, oneOrTup, Int.reduceEq, Int.reduceLT, Int.reduceLE, Int.reduceNeg, Int.reduceAdd, Int.reduceSub, Int.reduceMul, Int.reduceToNat, Nat.reduceAdd, noUnk, AV.cells, reduceCtorEq, Nat.reduceLeDiff, Cells.get, Cells.getN, Nat.reduceMul, ↓bnd_assoc]) (by simp only [↓sxp, sxq, ↓reduceIte, Nat.reduceBEq, Nat.reduceLT, evP, evX, evR, blkOf, evA, storeA, Nat.reduceEqDiff, resL, resV, oneOrTup, Int.reduceEq, Int.reduceLT, Int.reduceLE, Int.reduceNeg, Int.reduceAdd, Int.reduceSub, Int.reduceMul, Int.reduceToNat, Nat.reduceAdd, noUnk, AV.cells, reduceCtorEq, Nat.reduceLeDiff, Cells.get, Cells.getN, Nat.reduceMul, ↓bnd_assoc]; rfl) h) fun lv A' H' ⟨hh, hr⟩ => ?_
  rw [List.drop_zero] at hr
  rcases hr with ⟨rfl, hr, a0⟩ | ⟨rfl, hr, a2⟩
  · simp only [a0, hl, ↓sxp, sxq, ↓reduceIte, Nat.reduceBEq, Nat.reduceLT, evP, evX, evR, blkOf, evA, storeA, Nat.reduceEqDiff, resL, resV, oneOrTup, Int.reduceEq, Int.reduceLT, Int.reduceLE, Int.reduceNeg, Int.reduceAdd, Int.reduceSub, Int.reduceMul, Int.reduceToNat, Nat.reduceAdd, noUnk, AV.cells, reduceCtorEq, Nat.reduceLeDiff, Cells.get, Cells.getN, Nat.reduceMul, ↓bnd_assoc]
    exact Ends.ret ⟨by simp [hr]; omega, hh⟩
  · simp only [a2, ↓sxp, sxq, ↓reduceIte, Nat.reduceBEq, Nat.reduceLT, evP, evX, evR, blkOf, evA, storeA, Nat.reduceEqDiff, resL, resV, oneOrTup, Int.reduceEq, Int.reduceLT, Int.reduceLE, Int.reduceNeg, Int.reduceAdd, Int.reduceSub, Int.reduceMul, Int.reduceToNat, Nat.reduceAdd, noUnk, AV.cells, reduceCtorEq, Nat.reduceLeDiff, Cells.get, Cells.getN, Nat.reduceMul, ↓bnd_assoc]
    exact Ends.ret ⟨by simp [hr], hh⟩
theorem l_awake (hE : EnvT E) (h : Holds H Γ) : ∃ H', go W E 8 [] H = some (.bool true, H') ∧ Holds H' Γ := by
  apply Ends.out
  rw [go_code hE.f8 (by simp [sf8])]
  obtain ⟨p, H1, e1, h1⟩ := s_new (W := W) hE h
  obtain ⟨H2, e2, h2⟩ := s_put hE h1 (1, 3, 0) (by simp [S0])
  have hS : (putM S0 (1, 3, 0)).1 = 0 ∧ (putM S0 (1, 3, 0)).2.1 = 0 ∧ (putM S0 (1, 3, 0)).2.2.L.length = 1 := ⟨rfl, rfl, rfl⟩
  obtain ⟨H3, e3, h3⟩ := s_put hE h2 (1, 3, 0) (by rw [hS.2.2]; omega)
  have hS2 : (putM (putM S0 (1, 3, 0)).2.2 (1, 3, 0)).1 = 0 ∧ (putM (putM S0 (1, 3, 0)).2.2 (1, 3, 0)).2.1 = 0 ∧ (putM (putM S0 (1, 3, 0)).2.2 (1, 3, 0)).2.2.L.length = 1 := by
    refine ⟨?_, ?_, ?_⟩ <;> rfl
  have e4 := s_len hE h3
  rw [hS.1, hS.2.1] at e2
  rw [hS2.1, hS2.2.1] at e3
  rw [hS2.2.2, show ((1 : Nat) : Int) = 1 from rfl] at e4
  simp only [c3] at e2 e3
  simp only [sf8, e1, e2, e3, e4, ↓sxp, sxq, ↓reduceIte, Nat.reduceBEq, Nat.reduceLT, evP, evX, evR, blkOf, evA, storeA, Nat.reduceEqDiff, resL, resV, oneOrTup, Int.reduceEq, Int.reduceLT, Int.reduceLE, Int.reduceNeg, Int.reduceAdd, Int.reduceSub, Int.reduceMul, Int.reduceToNat, Nat.reduceAdd, noUnk, AV.cells, reduceCtorEq, Nat.reduceLeDiff, Cells.get, Cells.getN, Nat.reduceMul, ↓bnd_assoc]
  exact Ends.ret ⟨rfl, h3.tail⟩
theorem putM_len (S : MS) (x : T3) : (putM S x).2.2.L.length ≤ S.L.length + 1 := by
  unfold putM
  split
  · split <;> simp
  · simp
theorem drawM_len (S : MS) (k : Int) : (drawM S k).2.2.L.length ≤ S.L.length + 1 := by
  unfold drawM
  split
  · split <;> simp
  · simp
theorem textM_len (S : MS) (b : List UInt8) : (textM S b).L.length ≤ S.L.length + 1 ∧ (textM S b).T.length ≤ S.T.length + 1 := by
  unfold textM
  split <;> simp
theorem Inv.bl' {S : MS} {B : List (List UInt8)} (h : Inv S B) : ∀ c ∈ B, c.length ≤ 1048576 := fun c hc => by
  rw [← h.t] at hc
  obtain ⟨x, hx, rfl⟩ := List.mem_map.1 hc
  have := h.bl x hx; omega
/-- The next pair of stores. -/
def Next (W : World) (p q : Nat) (S : MS) (Γ : List HP) (H' : Heap) : Prop := ∃ S' B', Inv S' B' ∧ S'.L.length ≤ S.L.length + 1 ∧ S'.T.length ≤ S.T.length + 1 ∧ Holds H' (storeP W p S' :: refP W q S'.L B' :: Γ)
theorem s_draw' {p : Nat} {S : MS} {B : List (List UInt8)} (hE : EnvT E) (hi : Inv S B) (h : Holds H (storeP W p S :: Γ)) (n : Int) (hlen : S.L.length < 65536) :
    ∃ H', go W E 20 [.ptr (some ⟨.own p, 0⟩), .int .i64 n] H = some (.tup [.int .i64 (drawM S n).1, .int .i64 (drawM S n).2.1], H') ∧ Holds H' (storeP W p (drawM S n).2.2 :: Γ) := by
  obtain ⟨d1, d2, d3, d4, d5⟩ := hi.draw n
  cases hs : sortM n with
  | false =>
    obtain ⟨a, t, vl, vb, fb, hl, h⟩ := storeP_open h
    obtain ⟨idl, idb, s⟩ := stM_st h
    have : drawM S n = (0, 2, S) := by simp [drawM, hs]
    rw [this]
    exact ⟨H, c_draw_no hE s n hs, storeP_shut hl h⟩
  | true =>
    by_cases ht : nxt_ S n ≤ 4611686018427387904
    · exact s_draw hE h n hlen (d4 hs) (d5 · ht)
    · obtain ⟨a, t, vl, vb, fb, hl, h⟩ := storeP_open h
      obtain ⟨idl, idb, s⟩ := stM_st h
      have : drawM S n = (0, 3, S) := by simp [drawM, hs, show 4611686018427387904 < nxt_ S n by omega]
      rw [this]
      exact ⟨H, c_draw_top hE s n (by simpa [sortM] using hs) (by show _ < nxt_ S n; omega), storeP_shut hl h⟩
theorem l_one {p q : Nat} {S : MS} {B : List (List UInt8)} {d : Do1} {w : AV} (hE : EnvT E) (hi : Inv S B) (hL : S.L.length < 65535) (hT : S.T.length < 65535) (hw : OldBy W d.b w) (hb : d.b.length ≤ 100) (h : Holds H (storeP W p S :: refP W q S.L B :: Γ)) :
    ∃ H', go W E 11 [.ptr (some ⟨.own p, 0⟩), .ptr (some ⟨.own q, 0⟩), .agg (doC d w)] H = some (.bool true, H') ∧ Next W p q S Γ H' := by
  suffices Ends (fun r H' => r = .bool true ∧ Next W p q S Γ H') (go W E 11 [.ptr (some ⟨.own p, 0⟩), .ptr (some ⟨.own q, 0⟩), .agg (doC d w)] H) by
    obtain ⟨⟨r, H'⟩, e, hr, hn⟩ := this
    simp only at hr hn
    subst hr
    exact ⟨H', e, hn⟩
  have hBl : B.length = S.T.length := by rw [← hi.t]; simp
  have hwo := noUnk_by (hw H)
  have h1 := h.push (c := doC d w) (t := 36)
  have g1 := h1.get
  rw [go_code hE.f11 (by simp [sf11])]
  obtain ⟨k, n, ⟨t1, t2, t3⟩, b⟩ := d
  simp only [doC] at g1 h1 ⊢
  by_cases e1 : k = 1
  · subst e1
    obtain ⟨p1, p2, p3⟩ := hi.put (t1, t2, t3)
    simp only [sf11, ↓g1, ↓sxp, sxq, ↓reduceIte, Nat.reduceBEq, Nat.reduceLT, evP, evX, evR, blkOf, evA, storeA, Nat.reduceEqDiff, resL, resV, oneOrTup, Int.reduceEq, Int.reduceLT, Int.reduceLE, Int.reduceNeg, Int.reduceAdd, Int.reduceSub, Int.reduceMul, Int.reduceToNat, Nat.reduceAdd, noUnk, AV.cells, reduceCtorEq, Nat.reduceLeDiff, Cells.get, Cells.getN, Nat.reduceMul, ↓bnd_assoc]
    refine Ends.call (s_put hE (h1.ord [1]) (t1, t2, t3) (by omega)) fun H2 h2 => ?_
    have g2 := (h2.ord [1]).get
    simp only [↓g2, ↓sxp, sxq, ↓reduceIte, Nat.reduceBEq, Nat.reduceLT, evP, evX, evR, blkOf, evA, storeA, Nat.reduceEqDiff, resL, resV, oneOrTup, Int.reduceEq, Int.reduceLT, Int.reduceLE, Int.reduceNeg, Int.reduceAdd, Int.reduceSub, Int.reduceMul, Int.reduceToNat, Nat.reduceAdd, noUnk, AV.cells, reduceCtorEq, Nat.reduceLeDiff, Cells.get, Cells.getN, Nat.reduceMul, ↓bnd_assoc]
    refine Ends.call (r_put hE (h2.ord [2]) (t1, t2, t3) (by omega)) fun H3 h3 => ?_
    rw [p1] at h3 ⊢
    simp only [↓sxp, sxq, ↓reduceIte, Nat.reduceBEq, Nat.reduceLT, evP, evX, evR, blkOf, evA, storeA, Nat.reduceEqDiff, resL, resV, oneOrTup, Int.reduceEq, Int.reduceLT, Int.reduceLE, Int.reduceNeg, Int.reduceAdd, Int.reduceSub, Int.reduceMul, Int.reduceToNat, Nat.reduceAdd, noUnk, AV.cells, reduceCtorEq, Nat.reduceLeDiff, Cells.get, Cells.getN, Nat.reduceMul, ↓bnd_assoc]
    exact Ends.ret ⟨rfl, _, _, p2, putM_len _ _, by rw [p3]; omega, (h3.ord [1, 0]).rm 2⟩
  by_cases e2 : k = 2
  · subst e2
    obtain ⟨p1, p2, p3, _, _⟩ := hi.draw n
    simp only [sf11, ↓g1, ↓sxp, sxq, ↓reduceIte, Nat.reduceBEq, Nat.reduceLT, evP, evX, evR, blkOf, evA, storeA, Nat.reduceEqDiff, resL, resV, oneOrTup, Int.reduceEq, Int.reduceLT, Int.reduceLE, Int.reduceNeg, Int.reduceAdd, Int.reduceSub, Int.reduceMul, Int.reduceToNat, Nat.reduceAdd, noUnk, AV.cells, reduceCtorEq, Nat.reduceLeDiff, Cells.get, Cells.getN, Nat.reduceMul, ↓bnd_assoc]
    refine Ends.call (s_draw' hE hi (h1.ord [1]) n (by omega)) fun H2 h2 => ?_
    have g2 := (h2.ord [1]).get
    simp only [↓g2, ↓sxp, sxq, ↓reduceIte, Nat.reduceBEq, Nat.reduceLT, evP, evX, evR, blkOf, evA, storeA, Nat.reduceEqDiff, resL, resV, oneOrTup, Int.reduceEq, Int.reduceLT, Int.reduceLE, Int.reduceNeg, Int.reduceAdd, Int.reduceSub, Int.reduceMul, Int.reduceToNat, Nat.reduceAdd, noUnk, AV.cells, reduceCtorEq, Nat.reduceLeDiff, Cells.get, Cells.getN, Nat.reduceMul, ↓bnd_assoc]
    refine Ends.call (r_draw hE (h2.ord [2]) n (by omega)) fun H3 h3 => ?_
    rw [p1] at h3 ⊢
    simp only [↓sxp, sxq, ↓reduceIte, Nat.reduceBEq, Nat.reduceLT, evP, evX, evR, blkOf, evA, storeA, Nat.reduceEqDiff, resL, resV, oneOrTup, Int.reduceEq, Int.reduceLT, Int.reduceLE, Int.reduceNeg, Int.reduceAdd, Int.reduceSub, Int.reduceMul, Int.reduceToNat, Nat.reduceAdd, noUnk, AV.cells, reduceCtorEq, Nat.reduceLeDiff, Cells.get, Cells.getN, Nat.reduceMul, ↓bnd_assoc]
    exact Ends.ret ⟨rfl, _, _, p2, drawM_len _ _, by rw [p3]; omega, (h3.ord [1, 0]).rm 2⟩
  by_cases e3 : k = 3
  · subst e3
    obtain ⟨p1, p2⟩ := hi.text hb
    simp only [sf11, ↓g1, ↓sxp, sxq, ↓reduceIte, Nat.reduceBEq, Nat.reduceLT, evP, evX, evR, blkOf, evA, storeA, Nat.reduceEqDiff, resL, resV, oneOrTup, Int.reduceEq, Int.reduceLT, Int.reduceLE, Int.reduceNeg, Int.reduceAdd, Int.reduceSub, Int.reduceMul, Int.reduceToNat, Nat.reduceAdd, noUnk, AV.cells, reduceCtorEq, Nat.reduceLeDiff, Cells.get, Cells.getN, Nat.reduceMul, ↓bnd_assoc]
    refine Ends.call (s_text hE (h1.ord [1]) hw (by omega) (by omega) (by omega) hi.fresh) fun H2 h2 => ?_
    have g2 := (h2.ord [1]).get
    simp only [↓g2, ↓sxp, sxq, ↓reduceIte, Nat.reduceBEq, Nat.reduceLT, evP, evX, evR, blkOf, evA, storeA, Nat.reduceEqDiff, resL, resV, oneOrTup, Int.reduceEq, Int.reduceLT, Int.reduceLE, Int.reduceNeg, Int.reduceAdd, Int.reduceSub, Int.reduceMul, Int.reduceToNat, Nat.reduceAdd, noUnk, AV.cells, reduceCtorEq, Nat.reduceLeDiff, Cells.get, Cells.getN, Nat.reduceMul, ↓bnd_assoc]
    refine Ends.call (r_text hE (h2.ord [2]) hw (by omega) (by omega) hi.bl') fun H3 h3 => ?_
    have q1 : (textR S.L B b).1 = textN S b := by rw [p1]
    have q2 : (textR S.L B b).2.1 = (textM S b).L := by rw [p1]
    rw [q2] at h3
    rw [q1]
    simp only [↓sxp, sxq, ↓reduceIte, Nat.reduceBEq, Nat.reduceLT, evP, evX, evR, blkOf, evA, storeA, Nat.reduceEqDiff, resL, resV, oneOrTup, Int.reduceEq, Int.reduceLT, Int.reduceLE, Int.reduceNeg, Int.reduceAdd, Int.reduceSub, Int.reduceMul, Int.reduceToNat, Nat.reduceAdd, noUnk, AV.cells, reduceCtorEq, Nat.reduceLeDiff, Cells.get, Cells.getN, Nat.reduceMul, ↓bnd_assoc]
    exact Ends.ret ⟨rfl, _, _, p2, (textM_len _ _).1, (textM_len _ _).2, (h3.ord [1, 0]).rm 2⟩
  simp only [sf11, ↓g1, e1, e2, e3, ↓sxp, sxq, ↓reduceIte, Nat.reduceBEq, Nat.reduceLT, evP, evX, evR, blkOf, evA, storeA, Nat.reduceEqDiff, resL, resV, oneOrTup, Int.reduceEq, Int.reduceLT, Int.reduceLE, Int.reduceNeg, Int.reduceAdd, Int.reduceSub, Int.reduceMul, Int.reduceToNat, Nat.reduceAdd, noUnk, AV.cells, reduceCtorEq, Nat.reduceLeDiff, Cells.get, Cells.getN, Nat.reduceMul, ↓bnd_assoc]
  exact Ends.ret ⟨rfl, S, B, hi, by omega, by omega, h1.tail⟩
end
end Go.Proofs.Ytnfehkjkmlbceaa.Sx

/- TermPuts: the pieces of the law. -/
namespace Go.Proofs.Ytnfehkjkmlbceaa.Sx
open HP
section
variable {W : World} {E : Env} {H : Heap} {Γ : List HP}
end
end Go.Proofs.Ytnfehkjkmlbceaa.Sx

/- TermPuts: the range, and the loop over what the document has. -/
namespace Go.Proofs.Ytnfehkjkmlbceaa.Sx
open HP
section
variable {W : World} {E : Env} {H : Heap} {Γ : List HP}
end
end Go.Proofs.Ytnfehkjkmlbceaa.Sx

/- TermPuts: the loop over what the document has. -/
namespace Go.Proofs.Ytnfehkjkmlbceaa.Sx
open HP
section
variable {W : World} {E : Env} {H : Heap} {Γ : List HP}
theorem hasM_in {L : List T3} {i : Nat} {x : T3} (h : L[i]? = some x) (k : Int) : hasM L (i : Int) k = (decide (k = 0) || decide (x.1 = k)) := by
  have hi := (List.getElem?_eq_some_iff.1 h).1
  have h1 : (0 : Int) ≤ i := by omega
  have h2 : (i : Int) < L.length := by omega
  have h3 : L.getD (i : Int).toNat (0, 0, 0) = x := by simp [List.getD_eq_getElem?_getD, h]
  simp only [hasM, h1, h2, h3, decide_true, Bool.true_and]
theorem getM_in {S : MS} {i : Nat} {x : T3} (h : S.L[i]? = some x) : getM S (i : Int) = x := by
  simp only [getM, hasM_in h]
  simp [List.getD_eq_getElem?_getD, h]
end
end Go.Proofs.Ytnfehkjkmlbceaa.Sx

/- TermPuts, whole: in the second reading. -/
namespace Go.Proofs.Ytnfehkjkmlbceaa.Sx
open HP
section
variable {W : World} {E : Env}
theorem inv0 : Inv S0 [] := ⟨rfl, rfl, fun i x h => by simp [S0] at h, fun k hk => by
    have : S0.N.getD k 0 = 0 := by
      match k, hk with
      | 0, _ => rfl
      | 1, _ => rfl
      | 2, _ => rfl
      | 3, _ => rfl
      | 4, _ => rfl
    omega, fun k w _ _ h => by simp [S0] at h, fun k h1 hk => .inl (by
      match k, hk with
      | 0, _ => rfl
      | 1, _ => rfl
      | 2, _ => rfl
      | 3, _ => rfl
      | 4, _ => rfl), fun i hi => by simp [S0] at hi, fun x hx => by simp [S0] at hx, fun b hb => by simp [S0] at hb⟩
end
end Go.Proofs.Ytnfehkjkmlbceaa.Sx

/- From the second reading to a row. -/
namespace Go.Proofs.Ytnfehkjkmlbceaa.Sx
open Go.RowKit Go.WideShapes Go.ChangeShapes
section
variable {H : Type} {enc' : TypeId × Value → H} {P : Program}
theorem post_of_below' {f : Func} {s : ChangeSpec} {apart fresh handsOn again : Bool} {W W' : World} {args : Array Value} {v : Value} {ds gs : List (DataW H)} {before pa pv : List MemPlace}
    (hW : DataW.Whole enc' P f.params.toList s.vars apart W args.toList ds gs before)
    (hres : ∀ (b : Nat) (sp : Nat → Bool) (hd : Bool), DataW.TrodAll enc' P W' b sp hd f.resultTypes.toList (v.resultList f.resultTypes.size) (s.fn H (ds ++ gs)).results [])
    (hargs : ∀ sp : Nat → Bool, (∀ p ∈ before, sp p.block = true) → DataW.TrodAll enc' P W' 0 sp true f.params.toList args.toList (s.fn H (ds ++ gs)).args pa)
    (hvars : ∀ sp : Nat → Bool, (∀ p ∈ before, sp p.block = true) → DataW.TrodVars enc' P W' sp s.vars (s.fn H (ds ++ gs)).vars pv)
    (hps : before = pa ++ pv) (hb : Below W.heap.size W W')
    (hok : ∀ (j : Nat) (t : TypeId) (r : Value), f.resultTypes[j]? = some t → (v.resultList f.resultTypes.size)[j]? = some r → Value.okWide P W' .any 0 t r) :
    s.post enc' P f apart fresh handsOn again W args v W' := by
  have hlt : ∀ p ∈ before, p.block < W.heap.size := fun p hp => hW.lt p hp
  have hold : ∀ p ∈ before, (fun b => decide (b < W.heap.size)) p.block = true := fun p hp => by simpa using hlt p hp
  refine ⟨ds, gs, before, [], pa, pv, hW, hres _ _ _, hargs _ hold, hvars _ hold, World.keptBut_mono (fun p hp => ⟨hp, ?_⟩) (hb.frame (· ∈ before)), fun _ => ?_⟩
  · rw [hps, List.mem_append] at hp
    exact Or.inr hp
  · obtain ⟨_, _, _, _, _, hz, hn⟩ := hW
    refine ⟨hok, _, _, ([] ++ pa) ++ pv, ⟨[] ++ pa, pv, trodAll_append (hargs _ (fun _ _ => rfl)) (hres _ _ _), hvars _ (fun _ _ => rfl), rfl, ?_, ?_⟩, ?_⟩
    · intro b off hp
      have hin : MemPlace.cell b off ∈ before := by rw [hps]; simpa using hp
      rw [hb.frozen (hlt _ hin)]
      exact hz b off hin
    · intro ha
      have := hn ha
      rw [hps] at this
      simpa using this
    · intro p hp _
      rw [hps]
      simpa using hp

/-- What the second reading answers, the call answers, and leaves all that was there as it was. -/
theorem calls_true {W : World} {E : Env} (hE : EnvOk P W E) {f : FuncId} {avs : List AV} {args : Array Value} (ha : VRL ⟨fun _ => none, fun _ => 0⟩ avs args.toList) (hg : ∃ H', go W E f avs ⟨0, .e, .e⟩ = some (.bool true, H')) :
    Calls P f args W fun e W' => e = .returned (.bool true) ∧ Below W.heap.size W W' := by
  obtain ⟨H', hg⟩ := hg
  intro cs
  obtain ⟨_, h⟩ := go_sound W E hE f avs ⟨0, .e, .e⟩ _ _ hg _ W args (HR.start W) ha
  obtain ⟨μ', w', fr, v', hs, hl, hf, hr, _, hv⟩ := h cs
  cases hv
  exact ⟨.returned (.bool true), w', fr, ⟨rfl, hr.os, hr.tape, hr.output, hr.size, hr.old⟩, hs, hf, hl⟩

theorem args_stay (hl : laidOutB P = true) {W W' : World} (hb : Below W.heap.size W W') : ∀ {ts : List TypeId} {vs : List Value} {ds : List (DataW H)} {ps : List MemPlace}, ts.all (fun t => P.readableRec t && decide (t < P.types.size)) = true → DataW.TrodAll enc' P W 0 (fun _ => true) true ts vs ds ps → (∀ p ∈ ps, p.block < W.heap.size) →
    ∀ sp : Nat → Bool, (∀ p ∈ ps, sp p.block = true) → DataW.TrodAll enc' P W' 0 sp true ts vs ds ps
  | [], [], [], _, _, h, _ => fun _ _ => h
  | [], [], _ :: _, _, _, h, _ => h.elim
  | [], _ :: _, _, _, _, h, _ => h.elim
  | _ :: _, [], _, _, _, h, _ => h.elim
  | _ :: _, _ :: _, [], _, _, h, _ => h.elim
  | t :: ts, v :: vs, d :: ds, ps, ht, ⟨p, q, h1, h2, e⟩, hlt => fun sp hsp => by
    simp only [List.all_cons, Bool.and_eq_true, decide_eq_true_eq] at ht
    exact ⟨p, q, WideElems.Trod_stays hl ht.1.1 ht.1.2 h1 (fun x hx => hb.same (hlt x (by rw [e]; exact List.mem_append_left _ hx))) (fun x hx => hsp x (by rw [e]; exact List.mem_append_left _ hx)),
      args_stay hl hb ht.2 h2 (fun x hx => hlt x (by rw [e]; exact List.mem_append_right _ hx)) sp (fun x hx => hsp x (by rw [e]; exact List.mem_append_right _ hx)), e⟩
theorem trodAll_length {W : World} {base : Nat} {sp : Nat → Bool} {hd : Bool} : ∀ {ts : List TypeId} {vs : List Value} {ds : List (DataW H)} {ps : List MemPlace}, DataW.TrodAll enc' P W base sp hd ts vs ds ps → ds.length = ts.length
  | [], [], [], _, _ => rfl
  | [], [], _ :: _, _, h => h.elim
  | [], _ :: _, _, _, h => h.elim
  | _ :: _, [], _, _, h => h.elim
  | _ :: _, _ :: _, [], _, h => h.elim
  | _ :: _, _ :: _, _ :: _, _, ⟨_, _, _, h2, _⟩ => by simp [trodAll_length h2]
/-- A law whose call, in the second reading, answers true at all that can be read. -/
theorem law_lifted {C : Checked} {os : Os} {f : FuncId} {fn : Func} {s : ChangeSpec} {apart fresh handsOn again : Bool} {tb : TypeId}
    (own : ownKnob C.prog.godebug = none) (started : os.Started) (noInit : C.prog.inits.idxOf? f = none) (hfn : C.prog.funcs[f]? = some fn)
    (witness : ∃ (w : World) (tape : Tape) (i : Input), w.os = os ∧ (w.forCall tape i).Shaped C.prog ∧ i.vars = [] ∧ Input.okWide C.prog (w.forCall tape i) .any w.heap.size f i ∧
      s.pre6 enc' C.prog fn [] apart (w.forCall tape i).memory i.args ∧ ({} : Assume).holds C.prog (lone (Frame.enter C.prog f i.args .normal) [] (w.forCall tape i)))
    (hl : laidOutB C.prog = true) (hts : fn.params.toList.all (fun t => C.prog.readableRec t && decide (t < C.prog.types.size)) = true) (hvars : s.vars = [])
    (hres : fn.resultTypes = #[tb]) (hb : C.prog.underlying tb = some .bool) (hspec : ∀ ds : List (DataW H), ds.length = fn.params.toList.length → s.fn H (ds ++ []) = { results := [.lit (.bool true)], args := ds })
    {E : World → Env} (hE : ∀ W, EnvOk C.prog W (E W))
    (law : ∀ (W : World) (base : Nat) (args : Array Value) (ds : List (DataW H)) (ps : List MemPlace), (∀ (j : Nat) t v, fn.params[j]? = some t → args[j]? = some v → Value.okWide C.prog W .any base t v) → DataW.TrodAll enc' C.prog W 0 (fun _ => true) true fn.params.toList args.toList ds ps →
      ∃ avs, VRL ⟨fun _ => none, fun _ => 0⟩ avs args.toList ∧ ∃ H', go W (E W) f avs ⟨0, .e, .e⟩ = some (.bool true, H')) :
    ReturnsInHanded {} C os f .any (s.pre6 enc' C.prog fn [] apart) (s.post enc' C.prog fn apart fresh handsOn again) := by
  refine returnsInHanded_of_change own started noInit hfn witness ?_
  intro W base args ds gs before hval hW _ _
  have hW' := hW
  obtain ⟨p, q, hA, hV, rfl, hfz, hnd⟩ := hW
  rw [hvars] at hV
  obtain ⟨rfl, rfl⟩ := trodVars_none hV
  obtain ⟨avs, h1, h2⟩ := law W base args ds p hval hA
  refine (calls_true (hE W) h1 h2).mono fun e W' ⟨he, hbel⟩ => ?_
  subst he
  have hs := hspec ds (trodAll_length hA)
  refine ⟨_, rfl, post_of_below' (pa := p) (pv := []) hW' (fun _ _ _ => ?_) (fun sp hsp => ?_) (fun sp _ => ?_) rfl hbel ?_⟩
  · rw [hs, hres]
    exact trodAll_mk1 (shut_bool hb true)
  · rw [hs]
    have hlt : ∀ x ∈ p, x.block < W.heap.size := fun x hx => hW'.lt x (by simpa using hx)
    exact args_stay hl hbel hts hA hlt sp (fun x hx => hsp x (by simpa using hx))
  · rw [hs, hvars]; rfl
  · exact ok_one hres rfl (by simp [Value.okWide, hb, Cell.okWide, Cell.ok])
end
section
variable {P : Program} {W : World} {H : Type} {enc' : TypeId × Value → H} {sp : Nat → Bool} {hd : Bool}
theorem getN_of {l : List AV} : ∀ (n off : Nat) (cs : List AV), cs.length = n → (∀ i, i < n → l[off + i]? = cs[i]?) → Cells.getN (.lst l) off n = some cs := by
  intro n
  induction n with
  | zero => intro off cs hc _; rw [List.eq_nil_of_length_eq_zero hc]; rfl
  | succ n ih =>
    intro off cs hc h
    cases cs with
    | nil => simp at hc
    | cons c cs =>
      have h0 := h 0 (by omega)
      simp only [Nat.add_zero, List.getElem?_cons_zero] at h0
      simp only [Cells.getN, Cells.get, h0]
      rw [ih (off + 1) cs (by simpa using hc) (fun i hi => by have := h (i + 1) (by omega); rw [show off + 1 + i = off + (i + 1) from by omega, this]; simp)]
theorem cells_old {a : Addr} {n base : Nat} {cs : List Value} (h : W.cells? base a n = some cs) (hn : 0 < n) : a.spot = none ∧ ∃ c, (∀ H, blkOf W H (.old a.block) = some c) ∧ c.getN a.off n = some (cs.map enc) := by
  obtain ⟨_, hlen, hc⟩ := World.cells?_some h
  have h0 := hc 0 hn
  have e0 : a.add 0 = a := by unfold Addr.add; cases a; simp
  rw [e0, List.getElem?_eq_getElem (by omega)] at h0
  have hsp := World.cell?_spot h0
  refine ⟨hsp, ?_⟩
  unfold World.cell? at h0
  cases hb : W.heap[a.block]? with
  | none => rw [hb] at h0; cases h0
  | some o =>
    cases o with
    | cells c t fz =>
      refine ⟨.lst (c.toList.map enc), fun H => by simp only [blkOf, hb], getN_of n a.off _ (by simpa using hlen) (fun i hi => ?_)⟩
      have hi' := hc i hi
      have hai : (a.add i).block = a.block ∧ (a.add i).off = a.off + i ∧ (a.add i).spot = none := by
        unfold Addr.add
        split
        · rename_i e; subst e; exact ⟨rfl, rfl, hsp⟩
        · simp_all
      unfold World.cell? at hi'
      rw [hai.1, hb, hai.2.1, hai.2.2] at hi'
      simp only [Option.isSome_none, Bool.false_eq_true, if_false] at hi'
      rw [List.getElem?_map, List.getElem?_map, ← hi']
      simp
    | _ => rw [hb] at h0; cases h0
end
end Go.Proofs.Ytnfehkjkmlbceaa.Sx

/- What is read of the arguments. -/
namespace Go.Proofs.Ytnfehkjkmlbceaa.Sx
section
variable {P : Program} {W : World} {H : Type} {enc' : TypeId × Value → H} {hd : Bool}
theorem bytes_in {e : TypeId} (he : P.underlying e = some (.int .u8)) {n : Nat} {cs : List Value} {x : DataW H × List MemPlace} (h : DataW.trod enc' P W 0 (fun _ => true) hd n e cs = some x) : ∃ b : UInt8, cs = [.int .u8 b.toNat] := by
  obtain ⟨k, rfl, _, hw⟩ := DataW.trod_int he h
  have hk : 0 ≤ k ∧ k ≤ 255 := by simpa [Lit.wf, IntKind.min, IntKind.max, IntKind.signed, IntKind.bits] using hw
  refine ⟨UInt8.ofNat k.toNat, ?_⟩
  have : ((UInt8.ofNat k.toNat).toNat : Int) = k := by
    rw [UInt8.toNat_ofNat']; omega
  rw [this]
/-- A list of bytes that can be read. -/
theorem by_old {t e : TypeId} (ht : P.underlying t = some (.slice e)) (he : P.underlying e = some (.int .u8)) (hc : P.cellsOf e = 1) {n : Nat} {cs : List Value} {x : DataW H × List MemPlace} (h : DataW.trod enc' P W 0 (fun _ => true) hd n t cs = some x) :
    ∃ v bs, cs = [v] ∧ OldBy W bs (enc v) ∧ bs.length ≤ maxLen := by
  rcases DataW.trod_slice ht h with ⟨rfl, rfl⟩ | ⟨a, len, cap, elems, rest, m, rfl, rfl, rfl, _, hlc, hm, hlen, hel, hsp, _⟩
  · exact ⟨_, [], rfl, fun H => .nil rfl, by simp⟩
  · obtain ⟨hrl, hre⟩ := hsp rfl
    by_cases h0 : cap = 0
    · subst h0
      have : len = 0 := by omega
      subst this
      exact ⟨_, [], rfl, fun H => by show By W H [] (enc (.slice (some a) 0 0)) []; exact .emp rfl, by simp⟩
    · have cell : ∀ i, i < cap → ∃ b : UInt8, W.cell? (a.add i) = some (.int .u8 b.toNat) := fun i hi => by
        have : ∃ cs' y, W.cells? 0 (a.add (i * P.cellsOf e)) (P.cellsOf e) = some cs' ∧ DataW.trod enc' P W 0 (fun _ => true) hd m e cs' = some y := by
          by_cases hil : i < len
          · have := hel i hil
            rw [List.getElem?_eq_getElem (by omega), Option.bind_eq_some_iff] at this
            obtain ⟨cs', h1, h2⟩ := this
            exact ⟨cs', _, h1, h2⟩
          · have := hre (i - len) (by omega)
            rw [List.getElem?_eq_getElem (by omega), Option.bind_eq_some_iff, show len + (i - len) = i from by omega] at this
            obtain ⟨cs', h1, h2⟩ := this
            exact ⟨cs', _, h1, h2⟩
        obtain ⟨cs', y, h1, h2⟩ := this
        obtain ⟨b, rfl⟩ := bytes_in he h2
        rw [hc, Nat.mul_one] at h1
        exact ⟨b, ChangeShapes.cell_of_cells?_one h1⟩
      obtain ⟨B, hB⟩ := Deep.choose_lt (α := UInt8) (p := fun i (b : UInt8) => W.cell? (a.add i) = some (.int .u8 b.toNat)) (n := cap) cell
      have hcl := cell 0 (by omega)
      obtain ⟨b0, hb0⟩ := hcl
      have e0 : a.add 0 = a := by unfold Addr.add; cases a; simp
      rw [e0] at hb0
      have hspot := World.cell?_spot hb0
      have hall : W.cells? 0 a cap = some ((List.range cap).map fun i => .int .u8 (B i).toNat) := by
        unfold World.cells?
        rw [if_pos (Nat.zero_le _)]
        exact ChangeShapes.mapM_range_of cap fun i hi => hB i hi
      obtain ⟨_, c, hblk, hg⟩ := cells_old hall (by omega)
      refine ⟨_, (List.range len).map B, rfl, fun H => ?_, by simp; omega⟩
      have henc : enc (.slice (some a) len cap) = .sl (some ⟨.old a.block, a.off⟩) len (.exact cap) := by
        obtain ⟨ab, ao, asp⟩ := a
        simp only at hspot
        subst hspot
        cases cap with
        | zero => exact absurd rfl h0
        | succ c => cases len <;> rfl
      rw [henc]
      have hg2 : c.getN a.off len = some (cb ((List.range len).map B)) := by
        have key : ∀ (k j : Nat) (l : List AV), c.getN j (k + 0) = c.getN j k := fun _ _ _ => rfl
        have hget := (Cells.getN_get hg).2
        have : ∀ (k o : Nat) (l : List AV), l.length = k → (∀ i, i < k → c.get (o + i) = l[i]?) → c.getN o k = some l := by
          intro k
          induction k with
          | zero => intro o l hl _; rw [List.eq_nil_of_length_eq_zero hl]; rfl
          | succ k ih =>
            intro o l hl h
            cases l with
            | nil => simp at hl
            | cons y l =>
              have h0 := h 0 (by omega)
              simp only [Nat.add_zero, List.getElem?_cons_zero] at h0
              simp only [Cells.getN, h0]
              rw [ih (o + 1) l (by simpa using hl) (fun i hi => by have := h (i + 1) (by omega); rw [show o + 1 + i = o + (i + 1) from by omega, this]; simp)]
        refine this len a.off _ (by simp [cb]) (fun i hi => ?_)
        rw [hget i (by omega)]
        simp only [cb, List.getElem?_map, List.getElem?_range hi, List.getElem?_range (show i < cap by omega), Option.map_some, enc]
      have hlen' : ((List.range len).map B).length = len := by simp
      have := By.old (W := W) (H := H) (bs := (List.range len).map B) a.block a.off (.exact cap) c (hblk H) (by rw [hlen']; exact hg2)
      rw [hlen'] at this
      exact this
end
end Go.Proofs.Ytnfehkjkmlbceaa.Sx

/- The seat's functions are what they were compiled to. -/
namespace Go.Proofs.Ytnfehkjkmlbceaa.Sx
open Go.Proofs
theorem hc3 : compFn Try.prog 3 = some sf3 := by kernel_rfl
theorem hc4 : compFn Try.prog 4 = some sf4 := by kernel_rfl
theorem hc5 : compFn Try.prog 5 = some sf5 := by kernel_rfl
theorem hc6 : compFn Try.prog 6 = some sf6 := by kernel_rfl
theorem hc7 : compFn Try.prog 7 = some sf7 := by kernel_rfl
theorem hc8 : compFn Try.prog 8 = some sf8 := by kernel_rfl
theorem hc9 : compFn Try.prog 9 = some sf9 := by kernel_rfl
theorem hc10 : compFn Try.prog 10 = some sf10 := by kernel_rfl
theorem hc11 : compFn Try.prog 11 = some sf11 := by kernel_rfl
theorem hc12 : compFn Try.prog 12 = some sf12 := by kernel_rfl
theorem hc13 : compFn Try.prog 13 = some sf13 := by kernel_rfl
theorem hc14 : compFn Try.prog 14 = some sf14 := by kernel_rfl
theorem hc15 : compFn Try.prog 15 = some sf15 := by kernel_rfl
theorem hc16 : compFn Try.prog 16 = some sf16 := by kernel_rfl
theorem hc17 : compFn Try.prog 17 = some sf17 := by kernel_rfl
theorem hc18 : compFn Try.prog 18 = some sf18 := by kernel_rfl
theorem hc19 : compFn Try.prog 19 = some sf19 := by kernel_rfl
theorem hc20 : compFn Try.prog 20 = some sf20 := by kernel_rfl
theorem hc21 : compFn Try.prog 21 = some sf21 := by kernel_rfl
theorem hc22 : compFn Try.prog 22 = some sf22 := by kernel_rfl
theorem hc23 : compFn Try.prog 23 = some sf23 := by kernel_rfl
theorem hc24 : compFn Try.prog 24 = some sf24 := by kernel_rfl
theorem hc25 : compFn Try.prog 25 = some sf25 := by kernel_rfl
theorem hc26 : compFn Try.prog 26 = some sf26 := by kernel_rfl
theorem hc27 : compFn Try.prog 27 = some sf27 := by kernel_rfl
theorem hc28 : compFn Try.prog 28 = some sf28 := by kernel_rfl
theorem hc29 : compFn Try.prog 29 = some sf29 := by kernel_rfl
theorem hc30 : compFn Try.prog 30 = some sf30 := by kernel_rfl
theorem hc31 : compFn Try.prog 31 = some sf31 := by kernel_rfl
theorem hc32 : compFn Try.prog 32 = some sf32 := by kernel_rfl
theorem hc33 : compFn Try.prog 33 = some sf33 := by kernel_rfl
theorem hc34 : compFn Try.prog 34 = some sf34 := by kernel_rfl
theorem hc35 : compFn Try.prog 35 = some sf35 := by kernel_rfl
theorem hc36 : compFn Try.prog 36 = some sf36 := by kernel_rfl
theorem hc37 : compFn Try.prog 37 = some sf37 := by kernel_rfl
theorem hc38 : compFn Try.prog 38 = some sf38 := by kernel_rfl
theorem hc39 : compFn Try.prog 39 = some sf39 := by kernel_rfl
theorem hc40 : compFn Try.prog 40 = some sf40 := by kernel_rfl
theorem hc41 : compFn Try.prog 41 = some sf41 := by kernel_rfl
theorem hc42 : compFn Try.prog 42 = some sf42 := by kernel_rfl
theorem hc43 : compFn Try.prog 43 = some sf43 := by kernel_rfl
theorem hc44 : compFn Try.prog 44 = some sf44 := by kernel_rfl
theorem hc45 : compFn Try.prog 45 = some sf45 := by kernel_rfl
theorem hc46 : compFn Try.prog 46 = some sf46 := by kernel_rfl
theorem hc47 : compFn Try.prog 47 = some sf47 := by kernel_rfl
theorem hc48 : compFn Try.prog 48 = some sf48 := by kernel_rfl
theorem hc49 : compFn Try.prog 49 = some sf49 := by kernel_rfl
theorem hc50 : compFn Try.prog 50 = some sf50 := by kernel_rfl
theorem hc51 : compFn Try.prog 51 = some sf51 := by kernel_rfl
def envF : Env := fun f => match f with
  | 3 => some (.code sf3)
  | 4 => some (.code sf4)
  | 5 => some (.code sf5)
  | 6 => some (.code sf6)
  | 7 => some (.code sf7)
  | 8 => some (.code sf8)
  | 9 => some (.code sf9)
  | 10 => some (.code sf10)
  | 11 => some (.code sf11)
  | 12 => some (.code sf12)
  | 13 => some (.code sf13)
  | 14 => some (.code sf14)
  | 15 => some (.code sf15)
  | 16 => some (.code sf16)
  | 17 => some (.code sf17)
  | 18 => some (.code sf18)
  | 19 => some (.code sf19)
  | 20 => some (.code sf20)
  | 21 => some (.code sf21)
  | 22 => some (.code sf22)
  | 23 => some (.code sf23)
  | 24 => some (.code sf24)
  | 25 => some (.code sf25)
  | 26 => some (.code sf26)
  | 27 => some (.code sf27)
  | 28 => some (.code sf28)
  | 29 => some (.code sf29)
  | 30 => some (.code sf30)
  | 31 => some (.code sf31)
  | 32 => some (.code sf32)
  | 33 => some (.code sf33)
  | 34 => some (.code sf34)
  | 35 => some (.code sf35)
  | 36 => some (.code sf36)
  | 37 => some (.code sf37)
  | 38 => some (.code sf38)
  | 39 => some (.code sf39)
  | 40 => some (.code sf40)
  | 41 => some (.code sf41)
  | 42 => some (.code sf42)
  | 43 => some (.code sf43)
  | 44 => some (.code sf44)
  | 45 => some (.code sf45)
  | 46 => some (.code sf46)
  | 47 => some (.code sf47)
  | 48 => some (.code sf48)
  | 49 => some (.code sf49)
  | 50 => some (.code sf50)
  | 51 => some (.code sf51)
  | _ => none
theorem envF_ok (W : World) : EnvOk Try.prog W envF := by
  intro f e h
  unfold envF at h
  split at h
  · cases h; exact hc3
  · cases h; exact hc4
  · cases h; exact hc5
  · cases h; exact hc6
  · cases h; exact hc7
  · cases h; exact hc8
  · cases h; exact hc9
  · cases h; exact hc10
  · cases h; exact hc11
  · cases h; exact hc12
  · cases h; exact hc13
  · cases h; exact hc14
  · cases h; exact hc15
  · cases h; exact hc16
  · cases h; exact hc17
  · cases h; exact hc18
  · cases h; exact hc19
  · cases h; exact hc20
  · cases h; exact hc21
  · cases h; exact hc22
  · cases h; exact hc23
  · cases h; exact hc24
  · cases h; exact hc25
  · cases h; exact hc26
  · cases h; exact hc27
  · cases h; exact hc28
  · cases h; exact hc29
  · cases h; exact hc30
  · cases h; exact hc31
  · cases h; exact hc32
  · cases h; exact hc33
  · cases h; exact hc34
  · cases h; exact hc35
  · cases h; exact hc36
  · cases h; exact hc37
  · cases h; exact hc38
  · cases h; exact hc39
  · cases h; exact hc40
  · cases h; exact hc41
  · cases h; exact hc42
  · cases h; exact hc43
  · cases h; exact hc44
  · cases h; exact hc45
  · cases h; exact hc46
  · cases h; exact hc47
  · cases h; exact hc48
  · cases h; exact hc49
  · cases h; exact hc50
  · cases h; exact hc51
  · cases h
end Go.Proofs.Ytnfehkjkmlbceaa.Sx

/- What is read of the arguments: lists of deeds. -/
namespace Go.Proofs.Ytnfehkjkmlbceaa.Sx
open Go.Proofs
section
variable {W : World} {H : Type} {enc' : TypeId × Value → H} {hd : Bool}
theorem cells36 : Try.prog.cellsOf 36 = 6 := by kernel_rfl
theorem cells33 : Try.prog.cellsOf 33 = 3 := by kernel_rfl
theorem cells34 : Try.prog.cellsOf 34 = 1 := by kernel_rfl
theorem cells3 : Try.prog.cellsOf 3 = 1 := by kernel_rfl
theorem cells5 : Try.prog.cellsOf 5 = 1 := by kernel_rfl
theorem do_in {n : Nat} {cs : List Value} {x : DataW H × List MemPlace} (h : DataW.trod enc' Try.prog W 0 (fun _ => true) hd n 36 cs = some x) : ∃ (d : Do1) (w : AV), cs.map enc = doC d w ∧ OldBy W d.b w := by
  obtain ⟨xs, m, rfl, _, hl, hxl, hf⟩ := DataW.trod_struct Try.underlying36 h
  rw [cells36] at hl
  match cs, hl with
  | [c0, c1, c2, c3, c4, c5], _ =>
    have hx : xs.length = 4 := hxl
    match xs, hx with
    | [x0, x1, x2, x3], _ =>
      have f0 : DataW.trod enc' Try.prog W 0 (fun _ => true) hd m 3 (List.take (Try.prog.cellsOf 3) (List.drop 0 [c0, c1, c2, c3, c4, c5])) = some x0 := hf 0 _ rfl
      rw [cells3] at f0
      have f1 : DataW.trod enc' Try.prog W 0 (fun _ => true) hd m 3 (List.take (Try.prog.cellsOf 3) (List.drop 1 [c0, c1, c2, c3, c4, c5])) = some x1 := hf 1 _ rfl
      rw [cells3] at f1
      have f2 : DataW.trod enc' Try.prog W 0 (fun _ => true) hd m 33 (List.take (Try.prog.cellsOf 33) (List.drop 2 [c0, c1, c2, c3, c4, c5])) = some x2 := hf 2 _ rfl
      rw [cells33] at f2
      have f3 : DataW.trod enc' Try.prog W 0 (fun _ => true) hd m 34 (List.take (Try.prog.cellsOf 34) (List.drop 5 [c0, c1, c2, c3, c4, c5])) = some x3 := hf 3 _ rfl
      rw [cells34] at f3
      simp only [List.drop_zero, List.drop_succ_cons, List.take_succ_cons, List.take_zero] at f0 f1 f2 f3
      obtain ⟨k, e0, _, _⟩ := DataW.trod_int Try.underlying3 f0
      obtain ⟨n', e1, _, _⟩ := DataW.trod_int Try.underlying3 f1
      obtain ⟨ys, m2, _, _, _, hyl, hg⟩ := DataW.trod_struct Try.underlying33 f2
      have hy : ys.length = 3 := hyl
      match ys, hy with
      | [y0, y1, y2], _ =>
        have g0 : DataW.trod enc' Try.prog W 0 (fun _ => true) hd m2 3 (List.take (Try.prog.cellsOf 3) (List.drop 0 [c2, c3, c4])) = some y0 := hg 0 _ rfl
        rw [cells3] at g0
        have g1 : DataW.trod enc' Try.prog W 0 (fun _ => true) hd m2 3 (List.take (Try.prog.cellsOf 3) (List.drop 1 [c2, c3, c4])) = some y1 := hg 1 _ rfl
        rw [cells3] at g1
        have g2 : DataW.trod enc' Try.prog W 0 (fun _ => true) hd m2 3 (List.take (Try.prog.cellsOf 3) (List.drop 2 [c2, c3, c4])) = some y2 := hg 2 _ rfl
        rw [cells3] at g2
        simp only [List.drop_zero, List.drop_succ_cons, List.take_succ_cons, List.take_zero] at g0 g1 g2
        obtain ⟨t1, e2, _, _⟩ := DataW.trod_int Try.underlying3 g0
        obtain ⟨t2, e3, _, _⟩ := DataW.trod_int Try.underlying3 g1
        obtain ⟨t3, e4, _, _⟩ := DataW.trod_int Try.underlying3 g2
        obtain ⟨v, bs, e5, hv, _⟩ := by_old Try.underlying34 Try.underlying5 cells5 f3
        simp only [List.cons.injEq, and_true] at e0 e1 e2 e3 e4 e5
        subst e0 e1 e2 e3 e4 e5
        exact ⟨⟨k, n', (t1, t2, t3), bs⟩, enc c5, rfl, hv⟩
theorem dos_in {base : Nat} {v : Value} {d : DataW H} {ps : List MemPlace} (hv : Value.okWide Try.prog W .any base 22 v) (h : DataW.Trod enc' Try.prog W 0 (fun _ => true) hd 22 v d ps) : ∃ av ds, VR ⟨fun _ => none, fun _ => 0⟩ av v ∧ Dos W ds av := by
  obtain ⟨a0, len0, cap0, rfl⟩ := WideShapes.okWide_slice Try.underlying22 hv
  obtain ⟨n, h⟩ := h
  rcases DataW.trod_slice Try.underlying22 h with ⟨hc, _⟩ | ⟨a, len, cap, elems, rest, m, _, hc, _, _, hlc, hm, hlen, hel, _, _⟩
  · simp only [Value.cells, List.cons.injEq, Value.slice.injEq, and_true] at hc
    obtain ⟨rfl, rfl, rfl⟩ := hc
    exact ⟨.sl none 0 (.exact 0), [], .slN 0 0, by simp, rfl, fun i hi => by simp at hi⟩
  · simp only [Value.cells, List.cons.injEq, Value.slice.injEq, and_true] at hc
    obtain ⟨rfl, rfl, rfl⟩ := hc
    rw [cells36] at hel
    by_cases h0 : len0 = 0
    · subst h0
      exact ⟨.emp, [], .emp a cap0, by simp, rfl, fun i hi => by simp at hi⟩
    · have each : ∀ i, i < len0 → ∃ (dw : Do1 × AV), ∃ cs', W.cells? 0 (a.add (i * 6)) 6 = some cs' ∧ cs'.map enc = doC dw.1 dw.2 ∧ OldBy W dw.1.b dw.2 := fun i hi => by
        have := hel i hi
        rw [List.getElem?_eq_getElem (by omega), Option.bind_eq_some_iff] at this
        obtain ⟨cs', h1, h2⟩ := this
        obtain ⟨d, w, h3, h4⟩ := do_in h2
        exact ⟨(d, w), cs', h1, h3, h4⟩
      haveI : Inhabited (Do1 × AV) := ⟨(⟨0, 0, (0, 0, 0), []⟩, .unk)⟩
      obtain ⟨F, hF⟩ := Deep.choose_lt each
      obtain ⟨cs0, hc0, _, _⟩ := hF 0 (by omega)
      rw [Nat.zero_mul] at hc0
      obtain ⟨hsp, _⟩ := cells_old hc0 (by omega)
      have e0 : a.add 0 = a := by unfold Addr.add; cases a; simp
      rw [e0] at hsp
      obtain ⟨ab, ao, asp⟩ := a
      simp only at hsp
      subst hsp
      refine ⟨.sl (some ⟨.old ab, ao⟩) len0 (.exact cap0), (List.range len0).map fun i => (F i).1, .sl ⟨rfl, rfl, rfl⟩ rfl, ?_, ?_, fun i hi => ?_⟩
      · have : maxLen ≤ 9223372036854775807 := by decide
        simp; omega
      · simp [lenV]
      · have hi' : i < len0 := by simpa using hi
        obtain ⟨cs', h1, h2, h3⟩ := hF i hi'
        obtain ⟨hsp', c, hb, hg⟩ := cells_old h1 (by omega)
        have hoff : ((⟨ab, ao, none⟩ : Addr).add (i * 6)).off = ao + i * 6 ∧ ((⟨ab, ao, none⟩ : Addr).add (i * 6)).block = ab := by
          unfold Addr.add; split
          · rename_i e; rw [e]; exact ⟨rfl, rfl⟩
          · exact ⟨rfl, rfl⟩
        rw [hoff.1, h2] at hg
        rw [hoff.2] at hb
        have hir : (0 : Int) ≤ i ∧ (i : Int) < len0 := by omega
        have hgi : ((List.range len0).map fun i => (F i).1)[i] = (F i).1 := by simp
        rw [hgi]
        refine ⟨.ptr (some ⟨.old ab, ao + i * 6⟩), (F i).2, ?_, fun H => ?_, h3⟩
        · simp only [iaddrV, Int.toNat_natCast]
          rw [if_pos hir]
        · simp only [loadV, hb, hg]; rfl
end
open Go.RowKit Go.WideShapes Go.ChangeShapes
theorem Try.own' : ownKnob Try.prog.godebug = none := by kernel_rfl
theorem Try.laidOut' : laidOutB Try.prog = true := by kernel_rfl
theorem envT : EnvT envF := by constructor <;> rfl
end Go.Proofs.Ytnfehkjkmlbceaa.Sx

/- A store that is none. -/
namespace Go.Proofs.Ytnfehkjkmlbceaa.Sx
open HP
section
variable {W : World} {E : Env} {H : Heap} {Γ : List HP}
theorem n_put (hE : EnvT E) (h : Holds H Γ) (x : T3) : ∃ H', go W E 19 [.ptr none, .agg (c3 x)] H = some (.tup [.int .i64 0, .int .i64 1], H') ∧ Holds H' Γ := by
  apply Ends.out
  have his := fun H => c_is_nil (W := W) (E := E) (H := H) hE.f38
  rw [go_code hE.f19 (by simp [sf19])]
  simp only [sf19, c3, his, ↓sxp, sxq, ↓reduceIte, Nat.reduceBEq, Nat.reduceLT, evP, evX, evR, blkOf, evA, storeA, Nat.reduceEqDiff, resL, resV, oneOrTup, Int.reduceEq, Int.reduceLT, Int.reduceLE, Int.reduceNeg, Int.reduceAdd, Int.reduceSub, Int.reduceMul, Int.reduceToNat, Nat.reduceAdd, noUnk, AV.cells, reduceCtorEq, Nat.reduceLeDiff, Cells.get, Cells.getN, Nat.reduceMul, ↓bnd_assoc]
  exact Ends.ret ⟨rfl, h.push.tail⟩
theorem n_draw (hE : EnvT E) (n : Int) : go W E 20 [.ptr none, .int .i64 n] H = some (.tup [.int .i64 0, .int .i64 1], H) := by
  have his := fun H => c_is_nil (W := W) (E := E) (H := H) hE.f38
  rw [go_code hE.f20 (by simp [sf20])]
  simp only [sf20, his, ↓sxp, sxq, ↓reduceIte, Nat.reduceBEq, Nat.reduceLT, evP, evX, evR, blkOf, evA, storeA, Nat.reduceEqDiff, resL, resV, oneOrTup, Int.reduceEq, Int.reduceLT, Int.reduceLE, Int.reduceNeg, Int.reduceAdd, Int.reduceSub, Int.reduceMul, Int.reduceToNat, Nat.reduceAdd, noUnk, AV.cells, reduceCtorEq, Nat.reduceLeDiff, Cells.get, Cells.getN, Nat.reduceMul, ↓bnd_assoc]
theorem n_text (hE : EnvT E) (v : AV) : go W E 21 [.ptr none, v] H = some (.tup [.int .i64 0, .int .i64 1], H) := by
  have his := fun H => c_is_nil (W := W) (E := E) (H := H) hE.f38
  rw [go_code hE.f21 (by simp [sf21])]
  simp only [sf21, his, ↓sxp, sxq, ↓reduceIte, Nat.reduceBEq, Nat.reduceLT, evP, evX, evR, blkOf, evA, storeA, Nat.reduceEqDiff, resL, resV, oneOrTup, Int.reduceEq, Int.reduceLT, Int.reduceLE, Int.reduceNeg, Int.reduceAdd, Int.reduceSub, Int.reduceMul, Int.reduceToNat, Nat.reduceAdd, noUnk, AV.cells, reduceCtorEq, Nat.reduceLeDiff, Cells.get, Cells.getN, Nat.reduceMul, ↓bnd_assoc]
theorem n_len (hE : EnvT E) : go W E 12 [.ptr none] H = some (.int .i64 0, H) := by
  have his := fun H => c_is_nil (W := W) (E := E) (H := H) hE.f38
  rw [go_code hE.f12 (by simp [sf12])]
  simp only [sf12, his, ↓sxp, sxq, ↓reduceIte, Nat.reduceBEq, Nat.reduceLT, evP, evX, evR, blkOf, evA, storeA, Nat.reduceEqDiff, resL, resV, oneOrTup, Int.reduceEq, Int.reduceLT, Int.reduceLE, Int.reduceNeg, Int.reduceAdd, Int.reduceSub, Int.reduceMul, Int.reduceToNat, Nat.reduceAdd, noUnk, AV.cells, reduceCtorEq, Nat.reduceLeDiff, Cells.get, Cells.getN, Nat.reduceMul, ↓bnd_assoc]
theorem n_size (hE : EnvT E) (h : Holds H Γ) (n : Int) : ∃ H', go W E 17 [.ptr none, .int .i64 n] H = some (.int .i64 0, H') ∧ Holds H' Γ := by
  apply Ends.out
  have his := fun H => c_is_nil (W := W) (E := E) (H := H) hE.f38
  rw [go_code hE.f17 (by simp [sf17])]
  simp only [sf17, his, ↓sxp, sxq, ↓reduceIte, Nat.reduceBEq, Nat.reduceLT, evP, evX, evR, blkOf, evA, storeA, Nat.reduceEqDiff, resL, resV, oneOrTup, Int.reduceEq, Int.reduceLT, Int.reduceLE, Int.reduceNeg, Int.reduceAdd, Int.reduceSub, Int.reduceMul, Int.reduceToNat, Nat.reduceAdd, noUnk, AV.cells, reduceCtorEq, Nat.reduceLeDiff, Cells.get, Cells.getN, Nat.reduceMul, ↓bnd_assoc]
  exact Ends.ret ⟨rfl, h.push.tail⟩
theorem n_all (hE : EnvT E) : go W E 13 [.ptr none] H = some (.fn 39 [] [.ptr (some ⟨.own H.next, 0⟩)], H.push (.cells (.lst [.ptr none]) 25 none)) := by
  rw [go_code hE.f13 (by simp [sf13])]
  simp only [sf13, ↓sxp, sxq, ↓reduceIte, Nat.reduceBEq, Nat.reduceLT, evP, evX, evR, blkOf, evA, storeA, Nat.reduceEqDiff, resL, resV, oneOrTup, Int.reduceEq, Int.reduceLT, Int.reduceLE, Int.reduceNeg, Int.reduceAdd, Int.reduceSub, Int.reduceMul, Int.reduceToNat, Nat.reduceAdd, noUnk, AV.cells, reduceCtorEq, Nat.reduceLeDiff, Cells.get, Cells.getN, Nat.reduceMul, ↓bnd_assoc]
theorem Fin.range0 {β : Type} {Q : β → Prop} {k : Lv × Fr × Heap → Option β} {bx : Nat} {tm : Tm} {g : SX} {ps : List Nat} {asg body : SC} {df : List Nat} (hE : EnvT E)
    (hg : evX tm g = .fn 39 [] [.ptr (some ⟨.own bx, 0⟩)]) (h : Holds H (blk bx [.ptr none] 25 :: Γ))
    (hk : ∀ d H', Holds H' (mark d :: blk bx [.ptr none] 25 :: Γ) → Fin Q (k (.normal, ⟨tm, d :: df, none⟩, H'))) :
    Fin Q (bnd (run W E (.rangeFunc g ps asg body) ⟨tm, df, none⟩ H) k) := by
  have h1 := h.pusho (o := .deferred true) rfl
  have h2 := h1.pusho (o := .loop .ready none tm ps asg body H.next) rfl
  rw [run_step, step_range (d := H.next) (H1 := H.push (.deferred true)) (df := H.next :: df) (h := 39) (first := []) (cap := [.ptr (some ⟨.own bx, 0⟩)]) W E _ _ _ _ _ _ _ hg rfl]
  have hbx := (h2.ord [2]).get
  have h3 : Holds _ (ready (H.push (.deferred true)).next tm ps asg body H.next :: mark H.next :: blk bx [.ptr none] 25 :: Γ) := h2
  generalize hl : (H.push (.deferred true)).next = l at *
  generalize hH : (H.push (.deferred true)).push (.loop .ready none tm ps asg body H.next) = H2 at *
  generalize hd : H.next = d at *
  have hgo : go W E 39 ([] ++ [.yld l] ++ [.ptr (some ⟨.own bx, 0⟩)]) H2 = some (.tup [], H2) := by
    rw [go_code hE.f39 (by simp [sf39])]
    simp only [sf39, ↓hbx, n_len hE, run_loop, lp39_0, ↓sxp, sxq, ↓reduceIte, Nat.reduceBEq, Nat.reduceLT, evP, evX, evR, blkOf, evA, storeA, Nat.reduceEqDiff, resL, resV, oneOrTup, Int.reduceEq, Int.reduceLT, Int.reduceLE, Int.reduceNeg, Int.reduceAdd, Int.reduceSub, Int.reduceMul, Int.reduceToNat, Nat.reduceAdd, noUnk, AV.cells, reduceCtorEq, Nat.reduceLeDiff, Cells.get, Cells.getN, Nat.reduceMul, ↓bnd_assoc]
  have e' : callS W E (run W E) 39 ([] ++ [.yld l] ++ [.ptr (some ⟨.own bx, 0⟩)]) H2 = some (.tup [], H2) := hgo
  rw [e', bnd_some]
  have h4 := h3.seto (o' := .loop .exhausted none tm ps asg body d) rfl
  have : rangeEnd ⟨tm, df, none⟩ l (d :: df) H2 = some (.normal, ⟨tm, d :: df, none⟩, H2.setAt l (.loop .exhausted none tm ps asg body d)) := by
    simp only [rangeEnd, h3.geto]
    simp
  rw [this, bnd_some]
  exact hk d _ h4.tail
end
end Go.Proofs.Ytnfehkjkmlbceaa.Sx

/- The plain law of TermOnce. -/
namespace Go.Proofs.Ytnfehkjkmlbceaa.Sx
end Go.Proofs.Ytnfehkjkmlbceaa.Sx

/- TermOnce: the loop of deeds. -/
namespace Go.Proofs.Ytnfehkjkmlbceaa.Sx
open HP
section
variable {W : World} {E : Env} {H : Heap} {Γ : List HP}
end
end Go.Proofs.Ytnfehkjkmlbceaa.Sx

/- TermOnce: the range. -/
namespace Go.Proofs.Ytnfehkjkmlbceaa.Sx
open HP
section
variable {W : World} {E : Env} {H : Heap} {Γ : List HP}
theorem round_fin {o : Option (Bool × Heap)} {Γ' : List HP} {R : Heap → Prop} (h : Fin (fun r : Bool × Heap => r.1 = true ∧ Holds r.2 Γ') o) : ∃ H', (o = some (true, H') ∧ Holds H' Γ') ∨ (o = some (false, H') ∧ R H') := by
  obtain ⟨⟨b, H'⟩, e, hb, hh⟩ := h
  simp only at hb hh
  subst hb
  exact ⟨H', .inl ⟨e, hh⟩⟩
end
end Go.Proofs.Ytnfehkjkmlbceaa.Sx

/- TermOnce, whole: in the second reading. -/
namespace Go.Proofs.Ytnfehkjkmlbceaa.Sx
open HP
section
variable {W : World} {E : Env}
end
end Go.Proofs.Ytnfehkjkmlbceaa.Sx

/- What is known: can, opened. -/
namespace Go.Proofs.Ytnfehkjkmlbceaa.Sx
open HP
/-- The functions on what is known. -/
structure EnvK (E : Env) : Prop where
  t : EnvT E
  f22 : E 22 = some (.code sf22)
  f23 : E 23 = some (.code sf23)
  f24 : E 24 = some (.code sf24)
  f25 : E 25 = some (.code sf25)
  f26 : E 26 = some (.code sf26)
  f27 : E 27 = some (.code sf27)
  f28 : E 28 = some (.code sf28)
  f29 : E 29 = some (.code sf29)
  f30 : E 30 = some (.code sf30)
  f31 : E 31 = some (.code sf31)
  f32 : E 32 = some (.code sf32)
  f33 : E 33 = some (.code sf33)
  f34 : E 34 = some (.code sf34)
  f45 : E 45 = some (.code sf45)
  f46 : E 46 = some (.code sf46)
  f49 : E 49 = some (.code sf49)
  f50 : E 50 = some (.code sf50)
abbrev bls (l : List Bool) : List AV := l.map AV.bool
abbrev knC (n : Nat) (vl : AV) (jh jm : Nat) : List AV := [vl, .sl (some ⟨.own jh, 0⟩) n (.exact n), .sl (some ⟨.own jm, 0⟩) n (.exact n), .bool true]
def knI (k : Nat) (L : List T3) (hs ms : List Bool) (vl : AV) (jh jm : Nat) : HP := HP.all [HP.pure (hs.length = L.length ∧ ms.length = L.length), blk k (knC L.length vl jh jm) 89, row 33 3 (flat3 L) vl, blk jh (bls hs) 4, blk jm (bls ms) 4]
/-- A wrapped term is wrapped to a public one. -/
def W4 (L : List T3) : Prop := ∀ (i : Nat) (x : T3), L[i]? = some x → x.1 = 4 → ∃ y, L[x.2.1.toNat]? = some y ∧ y.1 = 2
section
variable {W : World} {E : Env} {H : Heap} {Γ : List HP}
theorem knI_open {k : Nat} {L : List T3} {hs ms : List Bool} {vl : AV} {jh jm : Nat} (h : Holds H (knI k L hs ms vl jh jm :: Γ)) : hs.length = L.length ∧ ms.length = L.length ∧ Holds H (blk k (knC L.length vl jh jm) 89 :: row 33 3 (flat3 L) vl :: blk jh (bls hs) 4 :: blk jm (bls ms) 4 :: Γ) := by
  have h2 : Holds H (HP.pure (hs.length = L.length ∧ ms.length = L.length) :: blk k (knC L.length vl jh jm) 89 :: row 33 3 (flat3 L) vl :: blk jh (bls hs) 4 :: blk jm (bls ms) 4 :: Γ) := h.opn
  exact ⟨h2.pure.1.1, h2.pure.1.2, h2.pure.2⟩
theorem knI_shut {k : Nat} {L : List T3} {hs ms : List Bool} {vl : AV} {jh jm : Nat} (h1 : hs.length = L.length) (h2 : ms.length = L.length) (h : Holds H (blk k (knC L.length vl jh jm) 89 :: row 33 3 (flat3 L) vl :: blk jh (bls hs) 4 :: blk jm (bls ms) 4 :: Γ)) : Holds H (knI k L hs ms vl jh jm :: Γ) :=
  Holds.cls [HP.pure (hs.length = L.length ∧ ms.length = L.length), blk k (knC L.length vl jh jm) 89, row 33 3 (flat3 L) vl, blk jh (bls hs) 4, blk jm (bls ms) 4] (Holds.pure' ⟨h1, h2⟩ h)
def canM (L : List T3) (hs ms : List Bool) (n : Nat) : Bool :=
  let x := L.getD n (0, 0, 0)
  if x.1 = 9 then true
  else if x.1 = 2 ∨ x.1 = 3 ∨ x.1 = 6 ∨ x.1 = 7 ∨ x.1 = 10 then hs.getD n false || ms.getD x.2.1.toNat false
  else if x.1 = 4 ∨ x.1 = 5 ∨ x.1 = 8 then hs.getD n false || (ms.getD x.2.1.toNat false && ms.getD x.2.2.toNat false)
  else hs.getD n false
theorem bls_get {l : List Bool} {n : Nat} (h : n < l.length) : (bls l)[n]? = some (.bool (l.getD n false)) := by
  simp [List.getElem?_eq_getElem h, List.getD_eq_getElem?_getD]
theorem k_can (hE : EnvK E) {k : Nat} {L : List T3} {hs ms : List Bool} {vl : AV} {jh jm : Nat} (h : Holds H (knI k L hs ms vl jh jm :: Γ)) (hw : WFL L) {n : Nat} (hn : n < L.length) :
    ∃ H', go W E 49 [.ptr (some ⟨.own k, 0⟩), .int .i64 n] H = some (.bool (canM L hs ms n), H') ∧ Holds H' (knI k L hs ms vl jh jm :: Γ) := by
  apply Ends.out
  obtain ⟨l1, l2, h1⟩ := knI_open h
  obtain ⟨j, l, c, rfl, hg⟩ := (h1.ord [1]).row_get (by omega) (n := L.length) (flat3_len _) (by omega)
  have hx : L[n]? = some L[n] := List.getElem?_eq_getElem hn
  have hg3 := getN3 hx
  obtain ⟨w1, w2⟩ := hw n _ hx
  have hcm : L.getD n (0, 0, 0) = L[n] := by simp [List.getD_eq_getElem?_getD, hx]
  unfold canM
  rw [hcm]
  generalize L[n] = x at *
  obtain ⟨kd, u, w⟩ := x
  have gk := h1.get
  have hn0 : (0 : Int) ≤ n ∧ (n : Int) < L.length := by omega
  have hhn := bls_get (show n < hs.length by omega)
  simp only [c3] at hg3
  simp only at w1 w2
  rw [go_code hE.f49 (by simp [sf49])]
  simp only [sf49, ↓gk, ↓hg, ↓hg3, hn0, and_self, Int.toNat_natCast, ↓sxp, sxq, ↓reduceIte, Nat.reduceBEq, Nat.reduceLT, evP, evX, evR, blkOf, evA, storeA, Nat.reduceEqDiff, resL, resV, oneOrTup, Int.reduceEq, Int.reduceLT, Int.reduceLE, Int.reduceNeg, Int.reduceAdd, Int.reduceSub, Int.reduceMul, Int.reduceToNat, Nat.reduceAdd, noUnk, AV.cells, reduceCtorEq, Nat.reduceLeDiff, Cells.get, Cells.getN, Nat.reduceMul, ↓bnd_assoc]
  refine Ends.write [.int .i64 kd, .int .i64 u, .int .i64 w] h1.push rfl (by simp) rfl fun H2 h2 => ?_
  have g2 := h2.get
  have gk2 := (h2.ord [1]).get
  have gh2 := (h2.ord [3]).get
  have gm2 := (h2.ord [4]).get
  have e0 := knI_shut l1 l2 h2.tail
  by_cases k9 : kd = 9
  · subst k9
    simp only [↓g2, ↓sxp, sxq, ↓reduceIte, Nat.reduceBEq, Nat.reduceLT, evP, evX, evR, blkOf, evA, storeA, Nat.reduceEqDiff, resL, resV, oneOrTup, Int.reduceEq, Int.reduceLT, Int.reduceLE, Int.reduceNeg, Int.reduceAdd, Int.reduceSub, Int.reduceMul, Int.reduceToNat, Nat.reduceAdd, noUnk, AV.cells, reduceCtorEq, Nat.reduceLeDiff, Cells.get, Cells.getN, Nat.reduceMul, ↓bnd_assoc]
    exact Ends.ret ⟨by simp, e0⟩
  by_cases ka : kd = 2 ∨ kd = 3 ∨ kd = 6 ∨ kd = 7 ∨ kd = 10
  · obtain ⟨u0, u1⟩ := w1 (by rcases ka with e | e | e | e | e <;> omega) k9
    have hu0 : 0 ≤ u ∧ u < L.length := by omega
    have hmu := bls_get (show u.toNat < ms.length by omega)
    have e1 := knI_shut l1 l2 (h2.bump 18).tail
    rcases ka with rfl | rfl | rfl | rfl | rfl
    all_goals
      cases hb : hs.getD n false
      all_goals
        rw [hb] at hhn
        simp only [↓g2, ↓gk2, ↓gh2, ↓gm2, hhn, hmu, hn0, hu0, and_self, Int.toNat_natCast, ↓sxp, sxq, ↓reduceIte, Nat.reduceBEq, Nat.reduceLT, evP, evX, evR, blkOf, evA, storeA, Nat.reduceEqDiff, resL, resV, oneOrTup, Int.reduceEq, Int.reduceLT, Int.reduceLE, Int.reduceNeg, Int.reduceAdd, Int.reduceSub, Int.reduceMul, Int.reduceToNat, Nat.reduceAdd, noUnk, AV.cells, reduceCtorEq, Nat.reduceLeDiff, Cells.get, Cells.getN, Nat.reduceMul, ↓bnd_assoc]
        exact Ends.ret ⟨by simp, e1⟩
  have n2 : ¬ kd = 2 := fun e => ka (.inl e)
  have n3 : ¬ kd = 3 := fun e => ka (.inr (.inl e))
  have n6 : ¬ kd = 6 := fun e => ka (.inr (.inr (.inl e)))
  have n7 : ¬ kd = 7 := fun e => ka (.inr (.inr (.inr (.inl e))))
  have n10 : ¬ kd = 10 := fun e => ka (.inr (.inr (.inr (.inr e))))
  by_cases kb : kd = 4 ∨ kd = 5 ∨ kd = 8
  · obtain ⟨u0, u1⟩ := w1 (by rcases kb with e | e | e <;> omega) k9
    obtain ⟨v0, v1⟩ := w2 kb
    have hu0 : 0 ≤ u ∧ u < L.length := by omega
    have hv0 : 0 ≤ w ∧ w < L.length := by omega
    have hmu := bls_get (show u.toNat < ms.length by omega)
    have hmw := bls_get (show w.toNat < ms.length by omega)
    have e1 := knI_shut l1 l2 (h2.bump 28).tail
    rcases kb with rfl | rfl | rfl
    all_goals
      cases hb : hs.getD n false
      · rw [hb] at hhn
        cases hc : ms.getD u.toNat false
        all_goals
          rw [hc] at hmu
          simp only [↓g2, ↓gk2, ↓gh2, ↓gm2, hhn, hmu, hmw, hn0, hu0, hv0, and_self, Int.toNat_natCast, ↓sxp, sxq, ↓reduceIte, Nat.reduceBEq, Nat.reduceLT, evP, evX, evR, blkOf, evA, storeA, Nat.reduceEqDiff, resL, resV, oneOrTup, Int.reduceEq, Int.reduceLT, Int.reduceLE, Int.reduceNeg, Int.reduceAdd, Int.reduceSub, Int.reduceMul, Int.reduceToNat, Nat.reduceAdd, noUnk, AV.cells, reduceCtorEq, Nat.reduceLeDiff, Cells.get, Cells.getN, Nat.reduceMul, ↓bnd_assoc]
          exact Ends.ret ⟨by simp, e1⟩
      · rw [hb] at hhn
        simp only [↓g2, ↓gk2, ↓gh2, ↓gm2, hhn, hmu, hmw, hn0, hu0, hv0, and_self, Int.toNat_natCast, ↓sxp, sxq, ↓reduceIte, Nat.reduceBEq, Nat.reduceLT, evP, evX, evR, blkOf, evA, storeA, Nat.reduceEqDiff, resL, resV, oneOrTup, Int.reduceEq, Int.reduceLT, Int.reduceLE, Int.reduceNeg, Int.reduceAdd, Int.reduceSub, Int.reduceMul, Int.reduceToNat, Nat.reduceAdd, noUnk, AV.cells, reduceCtorEq, Nat.reduceLeDiff, Cells.get, Cells.getN, Nat.reduceMul, ↓bnd_assoc]
        exact Ends.ret ⟨by simp, e1⟩
  have n4 : ¬ kd = 4 := fun e => kb (.inl e)
  have n5 : ¬ kd = 5 := fun e => kb (.inr (.inl e))
  have n8 : ¬ kd = 8 := fun e => kb (.inr (.inr e))
  simp only [↓g2, ↓gk2, ↓gh2, ↓gm2, hhn, hn0, and_self, Int.toNat_natCast, k9, n2, n3, n6, n7, n10, n4, n5, n8, ↓sxp, sxq, ↓reduceIte, Nat.reduceBEq, Nat.reduceLT, evP, evX, evR, blkOf, evA, storeA, Nat.reduceEqDiff, resL, resV, oneOrTup, Int.reduceEq, Int.reduceLT, Int.reduceLE, Int.reduceNeg, Int.reduceAdd, Int.reduceSub, Int.reduceMul, Int.reduceToNat, Nat.reduceAdd, noUnk, AV.cells, reduceCtorEq, Nat.reduceLeDiff, Cells.get, Cells.getN, Nat.reduceMul, ↓bnd_assoc]
  exact Ends.ret ⟨by simp, e0⟩
end
end Go.Proofs.Ytnfehkjkmlbceaa.Sx

/- What is known: opened, a round. -/
namespace Go.Proofs.Ytnfehkjkmlbceaa.Sx
open HP
section
variable {W : World} {E : Env} {H : Heap} {Γ : List HP}
def opM (L : List T3) (ms : List Bool) (n : Nat) : Int × Bool :=
  let x := L.getD n (0, 0, 0)
  if x.1 = 4 then (x.2.2, ms.getD (L.getD x.2.1.toNat (0, 0, 0)).2.1.toNat false)
  else if x.1 = 5 then (x.2.2, ms.getD x.2.1.toNat false)
  else if x.1 = 8 then (x.2.2, true)
  else (0, false)
theorem k_opened (hE : EnvK E) {k : Nat} {L : List T3} {hs ms : List Bool} {vl : AV} {jh jm : Nat} (h : Holds H (knI k L hs ms vl jh jm :: Γ)) (hw : WFL L) (h4 : W4 L) {n : Nat} (hn : n < L.length) :
    ∃ H', go W E 50 [.ptr (some ⟨.own k, 0⟩), .int .i64 n] H = some (.tup [.int .i64 (opM L ms n).1, .bool (opM L ms n).2], H') ∧ Holds H' (knI k L hs ms vl jh jm :: Γ) := by
  apply Ends.out
  obtain ⟨l1, l2, h1⟩ := knI_open h
  obtain ⟨j, l, c, rfl, hg⟩ := (h1.ord [1]).row_get (by omega) (n := L.length) (flat3_len _) (by omega)
  have hx : L[n]? = some L[n] := List.getElem?_eq_getElem hn
  have hg3 := getN3 hx
  obtain ⟨w1, w2⟩ := hw n _ hx
  have h4' := h4 n _ hx
  have hcm : L.getD n (0, 0, 0) = L[n] := by simp [List.getD_eq_getElem?_getD, hx]
  unfold opM
  rw [hcm]
  generalize L[n] = x at *
  obtain ⟨kd, u, w⟩ := x
  have gk := h1.get
  have hn0 : (0 : Int) ≤ n ∧ (n : Int) < L.length := by omega
  simp only [c3] at hg3
  simp only at w1 w2 h4'
  rw [go_code hE.f50 (by simp [sf50])]
  simp only [sf50, ↓gk, ↓hg, ↓hg3, hn0, and_self, Int.toNat_natCast, ↓sxp, sxq, ↓reduceIte, Nat.reduceBEq, Nat.reduceLT, evP, evX, evR, blkOf, evA, storeA, Nat.reduceEqDiff, resL, resV, oneOrTup, Int.reduceEq, Int.reduceLT, Int.reduceLE, Int.reduceNeg, Int.reduceAdd, Int.reduceSub, Int.reduceMul, Int.reduceToNat, Nat.reduceAdd, noUnk, AV.cells, reduceCtorEq, Nat.reduceLeDiff, Cells.get, Cells.getN, Nat.reduceMul, ↓bnd_assoc]
  refine Ends.write [.int .i64 kd, .int .i64 u, .int .i64 w] h1.push rfl (by simp) rfl fun H2 h2 => ?_
  have g2 := h2.get
  have gk2 := (h2.ord [1]).get
  have gm2 := (h2.ord [4]).get
  obtain ⟨j2, l2', c2, e2, hgr2⟩ := (h2.ord [2]).row_get (by omega) (n := L.length) (flat3_len _) (by omega)
  cases e2
  have e0 := knI_shut l1 l2 h2.tail
  by_cases k4 : kd = 4
  · subst k4
    obtain ⟨y, hy, hy2⟩ := h4' rfl
    obtain ⟨u0, u1⟩ := w1 (by omega) (by omega)
    have hu0 : 0 ≤ u ∧ u < L.length := by omega
    obtain ⟨_, hf2, _⟩ := flat3_get hy
    obtain ⟨y0, y1⟩ := (hw _ _ hy).1 (by omega) (by omega)
    have hy0 : 0 ≤ y.2.1 ∧ y.2.1 < L.length := by omega
    have hgd : L.getD u.toNat (0, 0, 0) = y := by simp [List.getD_eq_getElem?_getD, hy]
    have hmu := bls_get (show y.2.1.toNat < ms.length by omega)
    have e1 := knI_shut l1 l2 (h2.bump 19).tail
    simp only [↓g2, ↓gk2, ↓gm2, ↓hgr2, hf2, hmu, hu0, hy0, and_self, ↓sxp, sxq, ↓reduceIte, Nat.reduceBEq, Nat.reduceLT, evP, evX, evR, blkOf, evA, storeA, Nat.reduceEqDiff, resL, resV, oneOrTup, Int.reduceEq, Int.reduceLT, Int.reduceLE, Int.reduceNeg, Int.reduceAdd, Int.reduceSub, Int.reduceMul, Int.reduceToNat, Nat.reduceAdd, noUnk, AV.cells, reduceCtorEq, Nat.reduceLeDiff, Cells.get, Cells.getN, Nat.reduceMul, ↓bnd_assoc]
    exact Ends.ret ⟨by simp [List.getD_eq_getElem?_getD, hy], e1⟩
  by_cases k5 : kd = 5
  · subst k5
    obtain ⟨u0, u1⟩ := w1 (by omega) (by omega)
    have hu0 : 0 ≤ u ∧ u < L.length := by omega
    have hmu := bls_get (show u.toNat < ms.length by omega)
    have e1 := knI_shut l1 l2 (h2.bump 12).tail
    simp only [↓g2, ↓gk2, ↓gm2, hmu, hu0, and_self, ↓sxp, sxq, ↓reduceIte, Nat.reduceBEq, Nat.reduceLT, evP, evX, evR, blkOf, evA, storeA, Nat.reduceEqDiff, resL, resV, oneOrTup, Int.reduceEq, Int.reduceLT, Int.reduceLE, Int.reduceNeg, Int.reduceAdd, Int.reduceSub, Int.reduceMul, Int.reduceToNat, Nat.reduceAdd, noUnk, AV.cells, reduceCtorEq, Nat.reduceLeDiff, Cells.get, Cells.getN, Nat.reduceMul, ↓bnd_assoc]
    exact Ends.ret ⟨by simp, e1⟩
  by_cases k8 : kd = 8
  · subst k8
    simp only [↓g2, ↓sxp, sxq, ↓reduceIte, Nat.reduceBEq, Nat.reduceLT, evP, evX, evR, blkOf, evA, storeA, Nat.reduceEqDiff, resL, resV, oneOrTup, Int.reduceEq, Int.reduceLT, Int.reduceLE, Int.reduceNeg, Int.reduceAdd, Int.reduceSub, Int.reduceMul, Int.reduceToNat, Nat.reduceAdd, noUnk, AV.cells, reduceCtorEq, Nat.reduceLeDiff, Cells.get, Cells.getN, Nat.reduceMul, ↓bnd_assoc]
    exact Ends.ret ⟨by simp, e0⟩
  simp only [↓g2, k4, k5, k8, ↓sxp, sxq, ↓reduceIte, Nat.reduceBEq, Nat.reduceLT, evP, evX, evR, blkOf, evA, storeA, Nat.reduceEqDiff, resL, resV, oneOrTup, Int.reduceEq, Int.reduceLT, Int.reduceLE, Int.reduceNeg, Int.reduceAdd, Int.reduceSub, Int.reduceMul, Int.reduceToNat, Nat.reduceAdd, noUnk, AV.cells, reduceCtorEq, Nat.reduceLeDiff, Cells.get, Cells.getN, Nat.reduceMul, ↓bnd_assoc]
  exact Ends.ret ⟨by simp, e0⟩
/-- What can be made, worked out in order, from place i on. -/
def mkFrom (L : List T3) (hs : List Bool) : Nat → Nat → List Bool → List Bool
  | 0, _, ms => ms
  | m + 1, i, ms => mkFrom L hs m (i + 1) (ms.set i (canM L hs ms i))
theorem mkFrom_len (L : List T3) (hs : List Bool) : ∀ (m i : Nat) (ms : List Bool), (mkFrom L hs m i ms).length = ms.length := by
  intro m
  induction m with
  | zero => intro i ms; rfl
  | succ m ih => intro i ms; rw [mkFrom, ih]; simp
theorem bls_set (l : List Bool) (i : Nat) (b : Bool) : (bls l).set i (.bool b) = bls (l.set i b) := List.map_set.symm
theorem round_loop1 (hE : EnvK E) {k : Nat} {L : List T3} {hs : List Bool} {vl : AV} {jh jm : Nat} {df : List Nat} (hw : WFL L) (hb : L.length < 65536) : ∀ (m i : Nat) (A : Tm) (H : Heap) (ms : List Bool), i + m = L.length → getX A 0 = .ptr (some ⟨.own k, 0⟩) → getX A 3 = .bool false → getX A 12 = .int .i64 L.length → getX A 13 = .int .i64 i → Holds H (knI k L hs ms vl jh jm :: Γ) →
    ∃ lv A' H', run W E (.loop lp46_0) ⟨A, df, none⟩ H = some (lv, ⟨A', df, none⟩, H') ∧ (lv = .exit 0 ∧ getX A' 0 = .ptr (some ⟨.own k, 0⟩) ∧ getX A' 3 = .bool false ∧ Holds H' (knI k L hs (mkFrom L hs m i ms) vl jh jm :: Γ)) := by
  have hlp : ∀ f H, run W E lp46_0 f H = run W E lp46_0 f H := fun _ _ => rfl
  conv at hlp => enter [f, H, 2]; unfold lp46_0
  intro m
  induction m with
  | zero =>
    intro i A H ms him a0 a3 a12 a13 h
    have : i = L.length := by omega
    subst this
    have hlt : ¬ (L.length : Int) < L.length := by omega
    rw [run_loop]
    simp only [hlp, a12, a13, hlt, ↓sxp, sxq, ↓reduceIte, Nat.reduceBEq, Nat.reduceLT, evP, evX, evR, blkOf, evA, storeA, Nat.reduceEqDiff, resL, resV, oneOrTup, Int.reduceEq, Int.reduceLT, Int.reduceLE, Int.reduceNeg, Int.reduceAdd, Int.reduceSub, Int.reduceMul, Int.reduceToNat, Nat.reduceAdd, noUnk, AV.cells, reduceCtorEq, Nat.reduceLeDiff, Cells.get, Cells.getN, Nat.reduceMul, ↓bnd_assoc]
    exact ⟨_, _, _, rfl, rfl, by simp only [a0, ↓sxp, sxq, ↓reduceIte, Nat.reduceBEq, Nat.reduceLT, evP, evX, evR, blkOf, evA, storeA, Nat.reduceEqDiff, resL, resV, oneOrTup, Int.reduceEq, Int.reduceLT, Int.reduceLE, Int.reduceNeg, Int.reduceAdd, Int.reduceSub, Int.reduceMul, Int.reduceToNat, Nat.reduceAdd, noUnk, AV.cells, reduceCtorEq, Nat.reduceLeDiff, Cells.get, Cells.getN, Nat.reduceMul, ↓bnd_assoc], by simp only [a3, ↓sxp, sxq, ↓reduceIte, Nat.reduceBEq, Nat.reduceLT, evP, evX, evR, blkOf, evA, storeA, Nat.reduceEqDiff, resL, resV, oneOrTup, Int.reduceEq, Int.reduceLT, Int.reduceLE, Int.reduceNeg, Int.reduceAdd, Int.reduceSub, Int.reduceMul, Int.reduceToNat, Nat.reduceAdd, noUnk, AV.cells, reduceCtorEq, Nat.reduceLeDiff, Cells.get, Cells.getN, Nat.reduceMul, ↓bnd_assoc], h⟩
  | succ m ih =>
    intro i A H ms him a0 a3 a12 a13 h
    have hlt : (i : Int) < L.length := by omega
    have hi0 : (0 : Int) ≤ i ∧ (i : Int) < L.length := by omega
    have hwr : IntKind.i64.wrap ((i : Int) + 1) = ((i + 1 : Nat) : Int) := by rw [w64 (by omega)]; simp
    apply Fin.ex3
    rw [run_loop]
    simp only [hlp, a0, a12, a13, hlt, ↓sxp, sxq, ↓reduceIte, Nat.reduceBEq, Nat.reduceLT, evP, evX, evR, blkOf, evA, storeA, Nat.reduceEqDiff, resL, resV, oneOrTup, Int.reduceEq, Int.reduceLT, Int.reduceLE, Int.reduceNeg, Int.reduceAdd, Int.reduceSub, Int.reduceMul, Int.reduceToNat, Nat.reduceAdd, noUnk, AV.cells, reduceCtorEq, Nat.reduceLeDiff, Cells.get, Cells.getN, Nat.reduceMul, ↓bnd_assoc]
    have gk0 := (knI_open (h.bump 10)).2.2.get
    refine Fin.call (k_can hE (h.bump 10) hw (by omega)) fun H2 h2 => ?_
    obtain ⟨l1, l2, h3⟩ := knI_open h2
    have gk2 := h3.get
    simp only [a0, ↓gk0, ↓gk2, hi0, and_self, Int.toNat_natCast, ↓sxp, sxq, ↓reduceIte, Nat.reduceBEq, Nat.reduceLT, evP, evX, evR, blkOf, evA, storeA, Nat.reduceEqDiff, resL, resV, oneOrTup, Int.reduceEq, Int.reduceLT, Int.reduceLE, Int.reduceNeg, Int.reduceAdd, Int.reduceSub, Int.reduceMul, Int.reduceToNat, Nat.reduceAdd, noUnk, AV.cells, reduceCtorEq, Nat.reduceLeDiff, Cells.get, Cells.getN, Nat.reduceMul, ↓bnd_assoc]
    refine Fin.write (bls (ms.set i (canM L hs ms i))) (h3.ord [3]) (by simp only [Cells.setN, Cells.set, bls_set]) (by simp; omega) rfl fun H4 h4 => ?_
    simp only [a13, hwr, ↓sxp, sxq, ↓reduceIte, Nat.reduceBEq, Nat.reduceLT, evP, evX, evR, blkOf, evA, storeA, Nat.reduceEqDiff, resL, resV, oneOrTup, Int.reduceEq, Int.reduceLT, Int.reduceLE, Int.reduceNeg, Int.reduceAdd, Int.reduceSub, Int.reduceMul, Int.reduceToNat, Nat.reduceAdd, noUnk, AV.cells, reduceCtorEq, Nat.reduceLeDiff, Cells.get, Cells.getN, Nat.reduceMul, ↓bnd_assoc]
    exact Fin.of3 (ih (i + 1) _ _ (ms.set i (canM L hs ms i)) (by omega) (by simp only [a0, ↓sxp, sxq, ↓reduceIte, Nat.reduceBEq, Nat.reduceLT, evP, evX, evR, blkOf, evA, storeA, Nat.reduceEqDiff, resL, resV, oneOrTup, Int.reduceEq, Int.reduceLT, Int.reduceLE, Int.reduceNeg, Int.reduceAdd, Int.reduceSub, Int.reduceMul, Int.reduceToNat, Nat.reduceAdd, noUnk, AV.cells, reduceCtorEq, Nat.reduceLeDiff, Cells.get, Cells.getN, Nat.reduceMul, ↓bnd_assoc]) (by simp only [a3, ↓sxp, sxq, ↓reduceIte, Nat.reduceBEq, Nat.reduceLT, evP, evX, evR, blkOf, evA, storeA, Nat.reduceEqDiff, resL, resV, oneOrTup, Int.reduceEq, Int.reduceLT, Int.reduceLE, Int.reduceNeg, Int.reduceAdd, Int.reduceSub, Int.reduceMul, Int.reduceToNat, Nat.reduceAdd, noUnk, AV.cells, reduceCtorEq, Nat.reduceLeDiff, Cells.get, Cells.getN, Nat.reduceMul, ↓bnd_assoc]) (by simp only [a12, ↓sxp, sxq, ↓reduceIte, Nat.reduceBEq, Nat.reduceLT, evP, evX, evR, blkOf, evA, storeA, Nat.reduceEqDiff, resL, resV, oneOrTup, Int.reduceEq, Int.reduceLT, Int.reduceLE, Int.reduceNeg, Int.reduceAdd, Int.reduceSub, Int.reduceMul, Int.reduceToNat, Nat.reduceAdd, noUnk, AV.cells, reduceCtorEq, Nat.reduceLeDiff, Cells.get, Cells.getN, Nat.reduceMul, ↓bnd_assoc]) (by simp only [↓sxp, sxq, ↓reduceIte, Nat.reduceBEq, Nat.reduceLT, evP, evX, evR, blkOf, evA, storeA, Nat.reduceEqDiff, resL, resV, oneOrTup, Int.reduceEq, Int.reduceLT, Int.reduceLE, Int.reduceNeg, Int.reduceAdd, Int.reduceSub, Int.reduceMul, Int.reduceToNat, Nat.reduceAdd, noUnk, AV.cells, reduceCtorEq, Nat.reduceLeDiff, Cells.get, Cells.getN, Nat.reduceMul, ↓bnd_assoc]) (knI_shut l1 (by simp; exact l2) (h4.ord [1, 1, 1]))) fun _ _ _ h => h
/-- What is opened, one behind the other, from place i on. -/
def swFrom (L : List T3) (ms : List Bool) : Nat → Nat → List Bool → Bool → List Bool × Bool
  | 0, _, hs, f => (hs, f)
  | m + 1, i, hs, f => if (hs.getD i false && (opM L ms i).2 && !(hs.getD (opM L ms i).1.toNat false)) = true then swFrom L ms m (i + 1) (hs.set (opM L ms i).1.toNat true) true else swFrom L ms m (i + 1) hs f
theorem swFrom_len (L : List T3) (ms : List Bool) : ∀ (m i : Nat) (hs : List Bool) (f : Bool), (swFrom L ms m i hs f).1.length = hs.length := by
  intro m
  induction m with
  | zero => intro i hs f; rfl
  | succ m ih =>
    intro i hs f
    rw [swFrom]
    split
    · rw [ih]; simp
    · exact ih _ _ _
theorem op_in {L : List T3} {ms : List Bool} {n : Nat} (hw : WFL L) (hn : n < L.length) (h : (opM L ms n).2 = true) : 0 ≤ (opM L ms n).1 ∧ (opM L ms n).1 < L.length := by
  have hx : L[n]? = some L[n] := List.getElem?_eq_getElem hn
  obtain ⟨w1, w2⟩ := hw n _ hx
  have hcm : L.getD n (0, 0, 0) = L[n] := by simp [List.getD_eq_getElem?_getD, hx]
  unfold opM at h ⊢
  rw [hcm] at h ⊢
  generalize L[n] = x at *
  simp only at h ⊢
  split
  · rename_i e; have := w2 (.inl e); simp only; omega
  · split
    · rename_i e; have := w2 (.inr (.inl e)); simp only; omega
    · split
      · rename_i e; have := w2 (.inr (.inr e)); simp only; omega
      · rename_i e1 e2 e3
        simp [e1, e2, e3] at h
theorem round_loop2 (hE : EnvK E) {k : Nat} {L : List T3} {ms : List Bool} {vl : AV} {jh jm : Nat} {df : List Nat} (hw : WFL L) (hw4 : W4 L) (hb : L.length < 65536) : ∀ (m i : Nat) (A : Tm) (H : Heap) (hs : List Bool) (f : Bool), i + m = L.length → getX A 0 = .ptr (some ⟨.own k, 0⟩) → getX A 3 = .bool f → getX A 30 = .int .i64 L.length → getX A 31 = .int .i64 i → Holds H (knI k L hs ms vl jh jm :: Γ) →
    ∃ lv A' H', run W E (.loop lp46_1) ⟨A, df, none⟩ H = some (lv, ⟨A', df, none⟩, H') ∧ (lv = .exit 2 ∧ getX A' 3 = .bool (swFrom L ms m i hs f).2 ∧ Holds H' (knI k L (swFrom L ms m i hs f).1 ms vl jh jm :: Γ)) := by
  have hlp : ∀ f H, run W E lp46_1 f H = run W E lp46_1 f H := fun _ _ => rfl
  conv at hlp => enter [f, H, 2]; unfold lp46_1
  intro m
  induction m with
  | zero =>
    intro i A H hs f him a0 a3 a30 a31 h
    have : i = L.length := by omega
    subst this
    have hlt : ¬ (L.length : Int) < L.length := by omega
    rw [run_loop]
    simp only [hlp, a30, a31, hlt, ↓sxp, sxq, ↓reduceIte, Nat.reduceBEq, Nat.reduceLT, evP, evX, evR, blkOf, evA, storeA, Nat.reduceEqDiff, resL, resV, oneOrTup, Int.reduceEq, Int.reduceLT, Int.reduceLE, Int.reduceNeg, Int.reduceAdd, Int.reduceSub, Int.reduceMul, Int.reduceToNat, Nat.reduceAdd, noUnk, AV.cells, reduceCtorEq, Nat.reduceLeDiff, Cells.get, Cells.getN, Nat.reduceMul, ↓bnd_assoc]
    exact ⟨_, _, _, rfl, rfl, by simp only [a3, swFrom, ↓sxp, sxq, ↓reduceIte, Nat.reduceBEq, Nat.reduceLT, evP, evX, evR, blkOf, evA, storeA, Nat.reduceEqDiff, resL, resV, oneOrTup, Int.reduceEq, Int.reduceLT, Int.reduceLE, Int.reduceNeg, Int.reduceAdd, Int.reduceSub, Int.reduceMul, Int.reduceToNat, Nat.reduceAdd, noUnk, AV.cells, reduceCtorEq, Nat.reduceLeDiff, Cells.get, Cells.getN, Nat.reduceMul, ↓bnd_assoc], h⟩
  | succ m ih =>
    intro i A H hs f him a0 a3 a30 a31 h
    have hlt : (i : Int) < L.length := by omega
    have hi0 : (0 : Int) ≤ i ∧ (i : Int) < L.length := by omega
    have hwr : IntKind.i64.wrap ((i : Int) + 1) = ((i + 1 : Nat) : Int) := by rw [w64 (by omega)]; simp
    obtain ⟨l1, l2, h1⟩ := knI_open h
    have gk := h1.get
    have gh := (h1.ord [2]).get
    have hhi := bls_get (show i < hs.length by omega)
    apply Fin.ex3
    rw [run_loop, swFrom]
    cases hb1 : hs.getD i false with
    | false =>
      rw [hb1] at hhi
      simp only [hlp, a0, a30, a31, hlt, hi0, and_self, ↓gk, ↓gh, hhi, hwr, Int.toNat_natCast, ↓sxp, sxq, ↓reduceIte, Nat.reduceBEq, Nat.reduceLT, evP, evX, evR, blkOf, evA, storeA, Nat.reduceEqDiff, resL, resV, oneOrTup, Int.reduceEq, Int.reduceLT, Int.reduceLE, Int.reduceNeg, Int.reduceAdd, Int.reduceSub, Int.reduceMul, Int.reduceToNat, Nat.reduceAdd, noUnk, AV.cells, reduceCtorEq, Nat.reduceLeDiff, Cells.get, Cells.getN, Nat.reduceMul, ↓bnd_assoc]
      exact Fin.of3 (ih (i + 1) _ _ hs f (by omega) (by simp only [a0, ↓sxp, sxq, ↓reduceIte, Nat.reduceBEq, Nat.reduceLT, evP, evX, evR, blkOf, evA, storeA, Nat.reduceEqDiff, resL, resV, oneOrTup, Int.reduceEq, Int.reduceLT, Int.reduceLE, Int.reduceNeg, Int.reduceAdd, Int.reduceSub, Int.reduceMul, Int.reduceToNat, Nat.reduceAdd, noUnk, AV.cells, reduceCtorEq, Nat.reduceLeDiff, Cells.get, Cells.getN, Nat.reduceMul, ↓bnd_assoc]) (by simp only [a3, ↓sxp, sxq, ↓reduceIte, Nat.reduceBEq, Nat.reduceLT, evP, evX, evR, blkOf, evA, storeA, Nat.reduceEqDiff, resL, resV, oneOrTup, Int.reduceEq, Int.reduceLT, Int.reduceLE, Int.reduceNeg, Int.reduceAdd, Int.reduceSub, Int.reduceMul, Int.reduceToNat, Nat.reduceAdd, noUnk, AV.cells, reduceCtorEq, Nat.reduceLeDiff, Cells.get, Cells.getN, Nat.reduceMul, ↓bnd_assoc]) (by simp only [a30, ↓sxp, sxq, ↓reduceIte, Nat.reduceBEq, Nat.reduceLT, evP, evX, evR, blkOf, evA, storeA, Nat.reduceEqDiff, resL, resV, oneOrTup, Int.reduceEq, Int.reduceLT, Int.reduceLE, Int.reduceNeg, Int.reduceAdd, Int.reduceSub, Int.reduceMul, Int.reduceToNat, Nat.reduceAdd, noUnk, AV.cells, reduceCtorEq, Nat.reduceLeDiff, Cells.get, Cells.getN, Nat.reduceMul, ↓bnd_assoc]) (by simp only [↓sxp, sxq, ↓reduceIte, Nat.reduceBEq, Nat.reduceLT, evP, evX, evR, blkOf, evA, storeA, Nat.reduceEqDiff, resL, resV, oneOrTup, Int.reduceEq, Int.reduceLT, Int.reduceLE, Int.reduceNeg, Int.reduceAdd, Int.reduceSub, Int.reduceMul, Int.reduceToNat, Nat.reduceAdd, noUnk, AV.cells, reduceCtorEq, Nat.reduceLeDiff, Cells.get, Cells.getN, Nat.reduceMul, ↓bnd_assoc]) h) fun _ _ _ h => h
    | true =>
      rw [hb1] at hhi
      simp only [hlp, a0, a30, a31, hlt, hi0, and_self, ↓gk, ↓gh, hhi, Int.toNat_natCast, ↓sxp, sxq, ↓reduceIte, Nat.reduceBEq, Nat.reduceLT, evP, evX, evR, blkOf, evA, storeA, Nat.reduceEqDiff, resL, resV, oneOrTup, Int.reduceEq, Int.reduceLT, Int.reduceLE, Int.reduceNeg, Int.reduceAdd, Int.reduceSub, Int.reduceMul, Int.reduceToNat, Nat.reduceAdd, noUnk, AV.cells, reduceCtorEq, Nat.reduceLeDiff, Cells.get, Cells.getN, Nat.reduceMul, ↓bnd_assoc]
      refine Fin.call (k_opened hE h hw hw4 (by omega)) fun H2 h2 => ?_
      have hin := op_in (ms := ms) hw (show i < L.length by omega)
      generalize opM L ms i = o at *
      obtain ⟨b, ok⟩ := o
      simp only at hin
      cases ok with
      | false =>
        simp only [a31, hwr, ↓sxp, sxq, ↓reduceIte, Nat.reduceBEq, Nat.reduceLT, evP, evX, evR, blkOf, evA, storeA, Nat.reduceEqDiff, resL, resV, oneOrTup, Int.reduceEq, Int.reduceLT, Int.reduceLE, Int.reduceNeg, Int.reduceAdd, Int.reduceSub, Int.reduceMul, Int.reduceToNat, Nat.reduceAdd, noUnk, AV.cells, reduceCtorEq, Nat.reduceLeDiff, Cells.get, Cells.getN, Nat.reduceMul, ↓bnd_assoc]
        exact Fin.of3 (ih (i + 1) _ _ hs f (by omega) (by simp only [a0, ↓sxp, sxq, ↓reduceIte, Nat.reduceBEq, Nat.reduceLT, evP, evX, evR, blkOf, evA, storeA, Nat.reduceEqDiff, resL, resV, oneOrTup, Int.reduceEq, Int.reduceLT, Int.reduceLE, Int.reduceNeg, Int.reduceAdd, Int.reduceSub, Int.reduceMul, Int.reduceToNat, Nat.reduceAdd, noUnk, AV.cells, reduceCtorEq, Nat.reduceLeDiff, Cells.get, Cells.getN, Nat.reduceMul, ↓bnd_assoc]) (by simp only [a3, ↓sxp, sxq, ↓reduceIte, Nat.reduceBEq, Nat.reduceLT, evP, evX, evR, blkOf, evA, storeA, Nat.reduceEqDiff, resL, resV, oneOrTup, Int.reduceEq, Int.reduceLT, Int.reduceLE, Int.reduceNeg, Int.reduceAdd, Int.reduceSub, Int.reduceMul, Int.reduceToNat, Nat.reduceAdd, noUnk, AV.cells, reduceCtorEq, Nat.reduceLeDiff, Cells.get, Cells.getN, Nat.reduceMul, ↓bnd_assoc]) (by simp only [a30, ↓sxp, sxq, ↓reduceIte, Nat.reduceBEq, Nat.reduceLT, evP, evX, evR, blkOf, evA, storeA, Nat.reduceEqDiff, resL, resV, oneOrTup, Int.reduceEq, Int.reduceLT, Int.reduceLE, Int.reduceNeg, Int.reduceAdd, Int.reduceSub, Int.reduceMul, Int.reduceToNat, Nat.reduceAdd, noUnk, AV.cells, reduceCtorEq, Nat.reduceLeDiff, Cells.get, Cells.getN, Nat.reduceMul, ↓bnd_assoc]) (by simp only [↓sxp, sxq, ↓reduceIte, Nat.reduceBEq, Nat.reduceLT, evP, evX, evR, blkOf, evA, storeA, Nat.reduceEqDiff, resL, resV, oneOrTup, Int.reduceEq, Int.reduceLT, Int.reduceLE, Int.reduceNeg, Int.reduceAdd, Int.reduceSub, Int.reduceMul, Int.reduceToNat, Nat.reduceAdd, noUnk, AV.cells, reduceCtorEq, Nat.reduceLeDiff, Cells.get, Cells.getN, Nat.reduceMul, ↓bnd_assoc]) h2) fun _ _ _ h => h
      | true =>
        have hb0 := hin rfl
        obtain ⟨_, _, h3⟩ := knI_open h2
        have gk2 := h3.get
        have gh2 := (h3.ord [2]).get
        have hhb := bls_get (show b.toNat < hs.length by omega)
        cases hb2 : hs.getD b.toNat false with
        | true =>
          rw [hb2] at hhb
          simp only [a0, a31, hwr, ↓gk2, ↓gh2, hhb, hb0, and_self, ↓sxp, sxq, ↓reduceIte, Nat.reduceBEq, Nat.reduceLT, evP, evX, evR, blkOf, evA, storeA, Nat.reduceEqDiff, resL, resV, oneOrTup, Int.reduceEq, Int.reduceLT, Int.reduceLE, Int.reduceNeg, Int.reduceAdd, Int.reduceSub, Int.reduceMul, Int.reduceToNat, Nat.reduceAdd, noUnk, AV.cells, reduceCtorEq, Nat.reduceLeDiff, Cells.get, Cells.getN, Nat.reduceMul, ↓bnd_assoc]
          exact Fin.of3 (ih (i + 1) _ _ hs f (by omega) (by simp only [a0, ↓sxp, sxq, ↓reduceIte, Nat.reduceBEq, Nat.reduceLT, evP, evX, evR, blkOf, evA, storeA, Nat.reduceEqDiff, resL, resV, oneOrTup, Int.reduceEq, Int.reduceLT, Int.reduceLE, Int.reduceNeg, Int.reduceAdd, Int.reduceSub, Int.reduceMul, Int.reduceToNat, Nat.reduceAdd, noUnk, AV.cells, reduceCtorEq, Nat.reduceLeDiff, Cells.get, Cells.getN, Nat.reduceMul, ↓bnd_assoc]) (by simp only [a3, ↓sxp, sxq, ↓reduceIte, Nat.reduceBEq, Nat.reduceLT, evP, evX, evR, blkOf, evA, storeA, Nat.reduceEqDiff, resL, resV, oneOrTup, Int.reduceEq, Int.reduceLT, Int.reduceLE, Int.reduceNeg, Int.reduceAdd, Int.reduceSub, Int.reduceMul, Int.reduceToNat, Nat.reduceAdd, noUnk, AV.cells, reduceCtorEq, Nat.reduceLeDiff, Cells.get, Cells.getN, Nat.reduceMul, ↓bnd_assoc]) (by simp only [a30, ↓sxp, sxq, ↓reduceIte, Nat.reduceBEq, Nat.reduceLT, evP, evX, evR, blkOf, evA, storeA, Nat.reduceEqDiff, resL, resV, oneOrTup, Int.reduceEq, Int.reduceLT, Int.reduceLE, Int.reduceNeg, Int.reduceAdd, Int.reduceSub, Int.reduceMul, Int.reduceToNat, Nat.reduceAdd, noUnk, AV.cells, reduceCtorEq, Nat.reduceLeDiff, Cells.get, Cells.getN, Nat.reduceMul, ↓bnd_assoc]) (by simp only [↓sxp, sxq, ↓reduceIte, Nat.reduceBEq, Nat.reduceLT, evP, evX, evR, blkOf, evA, storeA, Nat.reduceEqDiff, resL, resV, oneOrTup, Int.reduceEq, Int.reduceLT, Int.reduceLE, Int.reduceNeg, Int.reduceAdd, Int.reduceSub, Int.reduceMul, Int.reduceToNat, Nat.reduceAdd, noUnk, AV.cells, reduceCtorEq, Nat.reduceLeDiff, Cells.get, Cells.getN, Nat.reduceMul, ↓bnd_assoc]) h2) fun _ _ _ h => h
        | false =>
          rw [hb2] at hhb
          simp only [a0, a31, hwr, ↓gk2, ↓gh2, hhb, hb0, and_self, ↓sxp, sxq, ↓reduceIte, Nat.reduceBEq, Nat.reduceLT, evP, evX, evR, blkOf, evA, storeA, Nat.reduceEqDiff, resL, resV, oneOrTup, Int.reduceEq, Int.reduceLT, Int.reduceLE, Int.reduceNeg, Int.reduceAdd, Int.reduceSub, Int.reduceMul, Int.reduceToNat, Nat.reduceAdd, noUnk, AV.cells, reduceCtorEq, Nat.reduceLeDiff, Cells.get, Cells.getN, Nat.reduceMul, ↓bnd_assoc]
          refine Fin.write (bls (hs.set b.toNat true)) (h3.ord [2]) (by simp only [Cells.setN, Cells.set, bls_set]) (by simp; omega) rfl fun H4 h4 => ?_
          exact Fin.of3 (ih (i + 1) _ _ (hs.set b.toNat true) true (by omega) (by simp only [a0, ↓sxp, sxq, ↓reduceIte, Nat.reduceBEq, Nat.reduceLT, evP, evX, evR, blkOf, evA, storeA, Nat.reduceEqDiff, resL, resV, oneOrTup, Int.reduceEq, Int.reduceLT, Int.reduceLE, Int.reduceNeg, Int.reduceAdd, Int.reduceSub, Int.reduceMul, Int.reduceToNat, Nat.reduceAdd, noUnk, AV.cells, reduceCtorEq, Nat.reduceLeDiff, Cells.get, Cells.getN, Nat.reduceMul, ↓bnd_assoc]) (by simp only [↓sxp, sxq, ↓reduceIte, Nat.reduceBEq, Nat.reduceLT, evP, evX, evR, blkOf, evA, storeA, Nat.reduceEqDiff, resL, resV, oneOrTup, Int.reduceEq, Int.reduceLT, Int.reduceLE, Int.reduceNeg, Int.reduceAdd, Int.reduceSub, Int.reduceMul, Int.reduceToNat, Nat.reduceAdd, noUnk, AV.cells, reduceCtorEq, Nat.reduceLeDiff, Cells.get, Cells.getN, Nat.reduceMul, ↓bnd_assoc]) (by simp only [a30, ↓sxp, sxq, ↓reduceIte, Nat.reduceBEq, Nat.reduceLT, evP, evX, evR, blkOf, evA, storeA, Nat.reduceEqDiff, resL, resV, oneOrTup, Int.reduceEq, Int.reduceLT, Int.reduceLE, Int.reduceNeg, Int.reduceAdd, Int.reduceSub, Int.reduceMul, Int.reduceToNat, Nat.reduceAdd, noUnk, AV.cells, reduceCtorEq, Nat.reduceLeDiff, Cells.get, Cells.getN, Nat.reduceMul, ↓bnd_assoc]) (by simp only [↓sxp, sxq, ↓reduceIte, Nat.reduceBEq, Nat.reduceLT, evP, evX, evR, blkOf, evA, storeA, Nat.reduceEqDiff, resL, resV, oneOrTup, Int.reduceEq, Int.reduceLT, Int.reduceLE, Int.reduceNeg, Int.reduceAdd, Int.reduceSub, Int.reduceMul, Int.reduceToNat, Nat.reduceAdd, noUnk, AV.cells, reduceCtorEq, Nat.reduceLeDiff, Cells.get, Cells.getN, Nat.reduceMul, ↓bnd_assoc]) (knI_shut (by simp; exact l1) l2 (h4.ord [1, 1]))) fun _ _ _ h => h
def roundM (L : List T3) (hs ms : List Bool) : List Bool × List Bool × Bool :=
  let ms' := mkFrom L hs L.length 0 ms
  ((swFrom L ms' L.length 0 hs false).1, ms', (swFrom L ms' L.length 0 hs false).2)
theorem k_round (hE : EnvK E) {k : Nat} {L : List T3} {hs ms : List Bool} {vl : AV} {jh jm : Nat} (h : Holds H (knI k L hs ms vl jh jm :: Γ)) (hw : WFL L) (hw4 : W4 L) (hb : L.length < 65536) :
    ∃ H', go W E 46 [.ptr (some ⟨.own k, 0⟩)] H = some (.bool (roundM L hs ms).2.2, H') ∧ Holds H' (knI k L (roundM L hs ms).1 (roundM L hs ms).2.1 vl jh jm :: Γ) := by
  apply Ends.out
  obtain ⟨l1, l2, h1⟩ := knI_open h
  obtain ⟨al, cl, rfl⟩ := (h1.ord [1]).row_len (by omega) (n := L.length) (flat3_len _)
  have gk := h1.get
  rw [go_code hE.f46 (by simp [sf46])]
  simp only [sf46, ↓gk, ↓sxp, sxq, ↓reduceIte, Nat.reduceBEq, Nat.reduceLT, evP, evX, evR, blkOf, evA, storeA, Nat.reduceEqDiff, resL, resV, oneOrTup, Int.reduceEq, Int.reduceLT, Int.reduceLE, Int.reduceNeg, Int.reduceAdd, Int.reduceSub, Int.reduceMul, Int.reduceToNat, Nat.reduceAdd, noUnk, AV.cells, reduceCtorEq, Nat.reduceLeDiff, Cells.get, Cells.getN, Nat.reduceMul, ↓bnd_assoc]
  refine Ends.loop (round_loop1 hE hw hb L.length 0 _ _ ms (by omega) (by simp only [↓sxp, sxq, ↓reduceIte, Nat.reduceBEq, Nat.reduceLT, evP, evX, evR, blkOf, evA, storeA, Nat.reduceEqDiff, resL, resV, oneOrTup, Int.reduceEq, Int.reduceLT, Int.reduceLE, Int.reduceNeg, Int.reduceAdd, Int.reduceSub, Int.reduceMul, Int.reduceToNat, Nat.reduceAdd, noUnk, AV.cells, reduceCtorEq, Nat.reduceLeDiff, Cells.get, Cells.getN, Nat.reduceMul, ↓bnd_assoc]) (by simp only [↓sxp, sxq, ↓reduceIte, Nat.reduceBEq, Nat.reduceLT, evP, evX, evR, blkOf, evA, storeA, Nat.reduceEqDiff, resL, resV, oneOrTup, Int.reduceEq, Int.reduceLT, Int.reduceLE, Int.reduceNeg, Int.reduceAdd, Int.reduceSub, Int.reduceMul, Int.reduceToNat, Nat.reduceAdd, noUnk, AV.cells, reduceCtorEq, Nat.reduceLeDiff, Cells.get, Cells.getN, Nat.reduceMul, ↓bnd_assoc]) (by simp only [↓sxp, sxq, ↓reduceIte, Nat.reduceBEq, Nat.reduceLT, evP, evX, evR, blkOf, evA, storeA, Nat.reduceEqDiff, resL, resV, oneOrTup, Int.reduceEq, Int.reduceLT, Int.reduceLE, Int.reduceNeg, Int.reduceAdd, Int.reduceSub, Int.reduceMul, Int.reduceToNat, Nat.reduceAdd, noUnk, AV.cells, reduceCtorEq, Nat.reduceLeDiff, Cells.get, Cells.getN, Nat.reduceMul, ↓bnd_assoc]) (by simp only [↓sxp, sxq, ↓reduceIte, Nat.reduceBEq, Nat.reduceLT, evP, evX, evR, blkOf, evA, storeA, Nat.reduceEqDiff, resL, resV, oneOrTup, Int.reduceEq, Int.reduceLT, Int.reduceLE, Int.reduceNeg, Int.reduceAdd, Int.reduceSub, Int.reduceMul, Int.reduceToNat, Nat.reduceAdd, noUnk, AV.cells, reduceCtorEq, Nat.reduceLeDiff, Cells.get, Cells.getN, Nat.reduceMul, ↓bnd_assoc]; rfl) h) fun lv A' H' ⟨hlv, a0, a3, h2⟩ => ?_
  subst hlv
  obtain ⟨_, _, h3⟩ := knI_open h2
  have gk2 := h3.get
  simp only [a0, ↓gk2, ↓sxp, sxq, ↓reduceIte, Nat.reduceBEq, Nat.reduceLT, evP, evX, evR, blkOf, evA, storeA, Nat.reduceEqDiff, resL, resV, oneOrTup, Int.reduceEq, Int.reduceLT, Int.reduceLE, Int.reduceNeg, Int.reduceAdd, Int.reduceSub, Int.reduceMul, Int.reduceToNat, Nat.reduceAdd, noUnk, AV.cells, reduceCtorEq, Nat.reduceLeDiff, Cells.get, Cells.getN, Nat.reduceMul, ↓bnd_assoc]
  refine Ends.loop (round_loop2 hE hw hw4 hb L.length 0 _ _ hs false (by omega) (by simp only [a0, ↓sxp, sxq, ↓reduceIte, Nat.reduceBEq, Nat.reduceLT, evP, evX, evR, blkOf, evA, storeA, Nat.reduceEqDiff, resL, resV, oneOrTup, Int.reduceEq, Int.reduceLT, Int.reduceLE, Int.reduceNeg, Int.reduceAdd, Int.reduceSub, Int.reduceMul, Int.reduceToNat, Nat.reduceAdd, noUnk, AV.cells, reduceCtorEq, Nat.reduceLeDiff, Cells.get, Cells.getN, Nat.reduceMul, ↓bnd_assoc]) (by simp only [a3, ↓sxp, sxq, ↓reduceIte, Nat.reduceBEq, Nat.reduceLT, evP, evX, evR, blkOf, evA, storeA, Nat.reduceEqDiff, resL, resV, oneOrTup, Int.reduceEq, Int.reduceLT, Int.reduceLE, Int.reduceNeg, Int.reduceAdd, Int.reduceSub, Int.reduceMul, Int.reduceToNat, Nat.reduceAdd, noUnk, AV.cells, reduceCtorEq, Nat.reduceLeDiff, Cells.get, Cells.getN, Nat.reduceMul, ↓bnd_assoc]) (by simp only [↓sxp, sxq, ↓reduceIte, Nat.reduceBEq, Nat.reduceLT, evP, evX, evR, blkOf, evA, storeA, Nat.reduceEqDiff, resL, resV, oneOrTup, Int.reduceEq, Int.reduceLT, Int.reduceLE, Int.reduceNeg, Int.reduceAdd, Int.reduceSub, Int.reduceMul, Int.reduceToNat, Nat.reduceAdd, noUnk, AV.cells, reduceCtorEq, Nat.reduceLeDiff, Cells.get, Cells.getN, Nat.reduceMul, ↓bnd_assoc]) (by simp only [↓sxp, sxq, ↓reduceIte, Nat.reduceBEq, Nat.reduceLT, evP, evX, evR, blkOf, evA, storeA, Nat.reduceEqDiff, resL, resV, oneOrTup, Int.reduceEq, Int.reduceLT, Int.reduceLE, Int.reduceNeg, Int.reduceAdd, Int.reduceSub, Int.reduceMul, Int.reduceToNat, Nat.reduceAdd, noUnk, AV.cells, reduceCtorEq, Nat.reduceLeDiff, Cells.get, Cells.getN, Nat.reduceMul, ↓bnd_assoc]; rfl) h2) fun lv A' H' ⟨hlv, a3, h4⟩ => ?_
  subst hlv
  simp only [a3, ↓sxp, sxq, ↓reduceIte, Nat.reduceBEq, Nat.reduceLT, evP, evX, evR, blkOf, evA, storeA, Nat.reduceEqDiff, resL, resV, oneOrTup, Int.reduceEq, Int.reduceLT, Int.reduceLE, Int.reduceNeg, Int.reduceAdd, Int.reduceSub, Int.reduceMul, Int.reduceToNat, Nat.reduceAdd, noUnk, AV.cells, reduceCtorEq, Nat.reduceLeDiff, Cells.get, Cells.getN, Nat.reduceMul, ↓bnd_assoc]
  exact Ends.ret ⟨rfl, h4⟩
end
end Go.Proofs.Ytnfehkjkmlbceaa.Sx

/- Lists of numbers that can be read; More. -/
namespace Go.Proofs.Ytnfehkjkmlbceaa.Sx
open HP
/-- A list of numbers that can be read. -/
inductive Is (W : World) (H : Heap) (l : List Int) : AV → List Nat → Prop
  | nil (h : l = []) : Is W H l (.sl none 0 (.exact 0)) []
  | emp (h : l = []) : Is W H l .emp []
  | old (r off : Nat) (cap : Cap) (c : Cells) (hb : blkOf W H (.old r) = some c) (hg : c.getN off l.length = some (ints l)) : Is W H l (.sl (some ⟨.old r, off⟩) l.length cap) []
  | own (j : Nat) (t : TypeId) (cap : Cap) (hb : H.get j = some (.cells (.lst (ints l)) t none)) : Is W H l (.sl (some ⟨.own j, 0⟩) l.length cap) [j]
  | row (j k : Nat) (t : TypeId) (cap : Cap) (hb : H.get j = some (.cells (.lst (ints l)) t (some k))) : Is W H l (.sl (some ⟨.own j, 0⟩) l.length cap) [j, k]
section
variable {W : World} {E : Env} {H : Heap} {Γ : List HP}
theorem Is.keep {l : List Int} {v : AV} {ids : List Nat} (h : Is W H l v ids) (hwf : HWf H) {fp : List Nat} {H' : Heap} (k : Keep fp H H') (hd : ∀ i ∈ ids, i ∉ fp) : Is W H' l v ids := by
  cases h with
  | nil h => exact .nil h
  | emp h => exact .emp h
  | old r off cap c hb hg => exact .old r off cap c hb hg
  | own j t cap hb => exact .own j t cap (k.get hwf hb (hd j (by simp)) (fun l' e => by cases e))
  | row j k' t cap hb => exact .row j k' t cap (k.get hwf hb (hd j (by simp)) (fun l' e => by cases e; exact hd k' (by simp)))
def isP (W : World) (l : List Int) (v : AV) : HP := ⟨fun H fp => Is W H l v fp, fun hw h i hi => by
    cases h with
    | nil _ => cases hi
    | emp _ => cases hi
    | old _ _ _ _ _ _ => cases hi
    | own j t cap hb => simp at hi; subst hi; exact hw.lt hb
    | row j k t cap hb =>
      simp at hi
      rcases hi with rfl | rfl
      · exact hw.lt hb
      · exact hw.line_lt hb, fun hw h k hd => h.keep hw k hd⟩
theorem Holds.is_get {l : List Int} {v : AV} (h : Holds H (isP W l v :: Γ)) : ∃ ids, Is W H l v ids := by
  obtain ⟨fp, f, g, a, b⟩ := h.a
  exact ⟨f, a⟩
theorem Is.len {l : List Int} {v : AV} {ids : List Nat} (h : Is W H l v ids) : lenV v = some (.int .i64 l.length) := by
  cases h with
  | nil h => subst h; rfl
  | emp h => subst h; rfl
  | _ => rfl
theorem Is.at {l : List Int} {v : AV} {ids : List Nat} (h : Is W H l v ids) {i : Nat} (hi : i < l.length) : ∃ p, iaddrV 1 v (.int .i64 (i : Int)) = some p ∧ loadV W H none p = some (.int .i64 l[i]) := by
  have hcb : (ints l)[i]? = some (.int .i64 l[i]) := by simp [List.getElem?_eq_getElem hi]
  have h0 : (0 : Int) ≤ i ∧ (i : Int) < l.length := by omega
  cases h with
  | nil h => subst h; simp at hi
  | emp h => subst h; simp at hi
  | old r off cap c hb hg =>
    refine ⟨_, by simp only [iaddrV]; rw [if_pos h0], ?_⟩
    simp only [loadV, hb, Int.toNat_natCast, Nat.mul_one]
    rw [getN_one hg hi, hcb]
  | own j t cap hb =>
    refine ⟨_, by simp only [iaddrV]; rw [if_pos h0], ?_⟩
    simp only [loadV, blkOf, hb, Int.toNat_natCast, Nat.mul_one, Nat.zero_add, Cells.get, hcb]
  | row j k t cap hb =>
    refine ⟨_, by simp only [iaddrV]; rw [if_pos h0], ?_⟩
    simp only [loadV, blkOf, hb, Int.toNat_natCast, Nat.mul_one, Nat.zero_add, Cells.get, hcb]
def inR (n : Nat) (l : List Int) : Bool := l.all fun x => decide (0 ≤ x) && decide (x < n)
theorem k_at (hE : EnvK E) {k : Nat} {L : List T3} {hs ms : List Bool} {vl : AV} {jh jm : Nat} (h : Holds H (knI k L hs ms vl jh jm :: Γ)) (n : Int) :
    go W E 45 [.ptr (some ⟨.own k, 0⟩), .int .i64 n] H = some (.bool (decide (0 ≤ n) && decide (n < L.length)), H) := by
  obtain ⟨l1, l2, h1⟩ := knI_open h
  obtain ⟨al, cl, rfl⟩ := (h1.ord [1]).row_len (by omega) (n := L.length) (flat3_len _)
  have gk := h1.get
  rw [go_code hE.f45 (by simp [sf45])]
  by_cases h0 : 0 ≤ n
  · simp only [sf45, ↓gk, h0, ↓sxp, sxq, ↓reduceIte, Nat.reduceBEq, Nat.reduceLT, evP, evX, evR, blkOf, evA, storeA, Nat.reduceEqDiff, resL, resV, oneOrTup, Int.reduceEq, Int.reduceLT, Int.reduceLE, Int.reduceNeg, Int.reduceAdd, Int.reduceSub, Int.reduceMul, Int.reduceToNat, Nat.reduceAdd, noUnk, AV.cells, reduceCtorEq, Nat.reduceLeDiff, Cells.get, Cells.getN, Nat.reduceMul, ↓bnd_assoc]
  · simp only [sf45, ↓gk, h0, ↓sxp, sxq, ↓reduceIte, Nat.reduceBEq, Nat.reduceLT, evP, evX, evR, blkOf, evA, storeA, Nat.reduceEqDiff, resL, resV, oneOrTup, Int.reduceEq, Int.reduceLT, Int.reduceLE, Int.reduceNeg, Int.reduceAdd, Int.reduceSub, Int.reduceMul, Int.reduceToNat, Nat.reduceAdd, noUnk, AV.cells, reduceCtorEq, Nat.reduceLeDiff, Cells.get, Cells.getN, Nat.reduceMul, ↓bnd_assoc]
theorem more_loop0 (hE : EnvK E) {k : Nat} {L : List T3} {hs ms : List Bool} {vl : AV} {jh jm : Nat} {df : List Nat} {g : List Int} {gv : AV} (hb : g.length < 65536) : ∀ (m i : Nat) (A : Tm) (H : Heap), i + m = g.length → getX A 0 = .ptr (some ⟨.own k, 0⟩) → getX A 1 = gv → getX A 18 = gv → getX A 19 = .int .i64 g.length → getX A 20 = .int .i64 i → Holds H (knI k L hs ms vl jh jm :: isP W g gv :: Γ) →
    ∃ lv A' H', run W E (.loop lp33_0) ⟨A, df, none⟩ H = some (lv, ⟨A', df, none⟩, H') ∧ (H' = H ∧ ((lv = .exit 0 ∧ inR L.length (g.drop i) = true ∧ getX A' 0 = .ptr (some ⟨.own k, 0⟩) ∧ getX A' 1 = gv) ∨ (lv = .ret ∧ inR L.length (g.drop i) = false ∧ getX A' 4 = .int .i64 2))) := by
  have hlp : ∀ f H, run W E lp33_0 f H = run W E lp33_0 f H := fun _ _ => rfl
  conv at hlp => enter [f, H, 2]; unfold lp33_0
  intro m
  induction m with
  | zero =>
    intro i A H him a0 a1 a18 a19 a20 h
    have : i = g.length := by omega
    subst this
    have hlt : ¬ (g.length : Int) < g.length := by omega
    rw [run_loop]
    simp only [hlp, a19, a20, hlt, ↓sxp, sxq, ↓reduceIte, Nat.reduceBEq, Nat.reduceLT, evP, evX, evR, blkOf, evA, storeA, Nat.reduceEqDiff, resL, resV, oneOrTup, Int.reduceEq, Int.reduceLT, Int.reduceLE, Int.reduceNeg, Int.reduceAdd, Int.reduceSub, Int.reduceMul, Int.reduceToNat, Nat.reduceAdd, noUnk, AV.cells, reduceCtorEq, Nat.reduceLeDiff, Cells.get, Cells.getN, Nat.reduceMul, ↓bnd_assoc]
    exact ⟨_, _, _, rfl, rfl, .inl ⟨rfl, by simp [inR], by simp only [a0, ↓sxp, sxq, ↓reduceIte, Nat.reduceBEq, Nat.reduceLT, evP, evX, evR, blkOf, evA, storeA, Nat.reduceEqDiff, resL, resV, oneOrTup, Int.reduceEq, Int.reduceLT, Int.reduceLE, Int.reduceNeg, Int.reduceAdd, Int.reduceSub, Int.reduceMul, Int.reduceToNat, Nat.reduceAdd, noUnk, AV.cells, reduceCtorEq, Nat.reduceLeDiff, Cells.get, Cells.getN, Nat.reduceMul, ↓bnd_assoc], by simp only [a1, ↓sxp, sxq, ↓reduceIte, Nat.reduceBEq, Nat.reduceLT, evP, evX, evR, blkOf, evA, storeA, Nat.reduceEqDiff, resL, resV, oneOrTup, Int.reduceEq, Int.reduceLT, Int.reduceLE, Int.reduceNeg, Int.reduceAdd, Int.reduceSub, Int.reduceMul, Int.reduceToNat, Nat.reduceAdd, noUnk, AV.cells, reduceCtorEq, Nat.reduceLeDiff, Cells.get, Cells.getN, Nat.reduceMul, ↓bnd_assoc]⟩⟩
  | succ m ih =>
    intro i A H him a0 a1 a18 a19 a20 h
    have hlt : (i : Int) < g.length := by omega
    have hwr : IntKind.i64.wrap ((i : Int) + 1) = ((i + 1 : Nat) : Int) := by rw [w64 (by omega)]; simp
    obtain ⟨ids, his⟩ := (h.ord [1]).is_get
    obtain ⟨p, e1, e2⟩ := his.at (i := i) (by omega)
    have hat := k_at (W := W) hE h g[i]
    rw [run_loop, List.drop_eq_getElem_cons (show i < g.length by omega)]
    generalize g[i] = n at *
    cases hc : (decide (0 ≤ n) && decide (n < (L.length : Int))) with
    | true =>
      rw [hc] at hat
      simp only [hlp, a0, a18, a19, a20, hlt, e1, e2, hat, hwr, ↓sxp, sxq, ↓reduceIte, Nat.reduceBEq, Nat.reduceLT, evP, evX, evR, blkOf, evA, storeA, Nat.reduceEqDiff, resL, resV, oneOrTup, Int.reduceEq, Int.reduceLT, Int.reduceLE, Int.reduceNeg, Int.reduceAdd, Int.reduceSub, Int.reduceMul, Int.reduceToNat, Nat.reduceAdd, noUnk, AV.cells, reduceCtorEq, Nat.reduceLeDiff, Cells.get, Cells.getN, Nat.reduceMul, ↓bnd_assoc]
      refine loop_mono (ih (i + 1) _ _ (by omega) (by simp only [a0, ↓sxp, sxq, ↓reduceIte, Nat.reduceBEq, Nat.reduceLT, evP, evX, evR, blkOf, evA, storeA, Nat.reduceEqDiff, resL, resV, oneOrTup, Int.reduceEq, Int.reduceLT, Int.reduceLE, Int.reduceNeg, Int.reduceAdd, Int.reduceSub, Int.reduceMul, Int.reduceToNat, Nat.reduceAdd, noUnk, AV.cells, reduceCtorEq, Nat.reduceLeDiff, Cells.get, Cells.getN, Nat.reduceMul, ↓bnd_assoc]) (by simp only [a1, ↓sxp, sxq, ↓reduceIte, Nat.reduceBEq, Nat.reduceLT, evP, evX, evR, blkOf, evA, storeA, Nat.reduceEqDiff, resL, resV, oneOrTup, Int.reduceEq, Int.reduceLT, Int.reduceLE, Int.reduceNeg, Int.reduceAdd, Int.reduceSub, Int.reduceMul, Int.reduceToNat, Nat.reduceAdd, noUnk, AV.cells, reduceCtorEq, Nat.reduceLeDiff, Cells.get, Cells.getN, Nat.reduceMul, ↓bnd_assoc]) (by simp only [a18, ↓sxp, sxq, ↓reduceIte, Nat.reduceBEq, Nat.reduceLT, evP, evX, evR, blkOf, evA, storeA, Nat.reduceEqDiff, resL, resV, oneOrTup, Int.reduceEq, Int.reduceLT, Int.reduceLE, Int.reduceNeg, Int.reduceAdd, Int.reduceSub, Int.reduceMul, Int.reduceToNat, Nat.reduceAdd, noUnk, AV.cells, reduceCtorEq, Nat.reduceLeDiff, Cells.get, Cells.getN, Nat.reduceMul, ↓bnd_assoc]) (by simp only [a19, ↓sxp, sxq, ↓reduceIte, Nat.reduceBEq, Nat.reduceLT, evP, evX, evR, blkOf, evA, storeA, Nat.reduceEqDiff, resL, resV, oneOrTup, Int.reduceEq, Int.reduceLT, Int.reduceLE, Int.reduceNeg, Int.reduceAdd, Int.reduceSub, Int.reduceMul, Int.reduceToNat, Nat.reduceAdd, noUnk, AV.cells, reduceCtorEq, Nat.reduceLeDiff, Cells.get, Cells.getN, Nat.reduceMul, ↓bnd_assoc]) (by simp only [↓sxp, sxq, ↓reduceIte, Nat.reduceBEq, Nat.reduceLT, evP, evX, evR, blkOf, evA, storeA, Nat.reduceEqDiff, resL, resV, oneOrTup, Int.reduceEq, Int.reduceLT, Int.reduceLE, Int.reduceNeg, Int.reduceAdd, Int.reduceSub, Int.reduceMul, Int.reduceToNat, Nat.reduceAdd, noUnk, AV.cells, reduceCtorEq, Nat.reduceLeDiff, Cells.get, Cells.getN, Nat.reduceMul, ↓bnd_assoc]) h) fun lv A' H' ⟨hh, hr⟩ => ⟨hh, ?_⟩
      simpa [inR, hc] using hr
    | false =>
      rw [hc] at hat
      simp only [hlp, a0, a18, a19, a20, hlt, e1, e2, hat, hwr, ↓sxp, sxq, ↓reduceIte, Nat.reduceBEq, Nat.reduceLT, evP, evX, evR, blkOf, evA, storeA, Nat.reduceEqDiff, resL, resV, oneOrTup, Int.reduceEq, Int.reduceLT, Int.reduceLE, Int.reduceNeg, Int.reduceAdd, Int.reduceSub, Int.reduceMul, Int.reduceToNat, Nat.reduceAdd, noUnk, AV.cells, reduceCtorEq, Nat.reduceLeDiff, Cells.get, Cells.getN, Nat.reduceMul, ↓bnd_assoc]
      exact ⟨_, _, _, rfl, rfl, .inr ⟨rfl, by simp only [inR, List.all_cons, hc, Bool.false_and], by simp only [↓sxp, sxq, ↓reduceIte, Nat.reduceBEq, Nat.reduceLT, evP, evX, evR, blkOf, evA, storeA, Nat.reduceEqDiff, resL, resV, oneOrTup, Int.reduceEq, Int.reduceLT, Int.reduceLE, Int.reduceNeg, Int.reduceAdd, Int.reduceSub, Int.reduceMul, Int.reduceToNat, Nat.reduceAdd, noUnk, AV.cells, reduceCtorEq, Nat.reduceLeDiff, Cells.get, Cells.getN, Nat.reduceMul, ↓bnd_assoc]⟩⟩
def setAll (hs : List Bool) (g : List Int) : List Bool := g.foldl (fun hs n => hs.set n.toNat true) hs
theorem setAll_len (g : List Int) : ∀ hs : List Bool, (setAll hs g).length = hs.length := by
  induction g with
  | nil => intro hs; rfl
  | cons n g ih => intro hs; show (setAll _ g).length = _; rw [ih]; simp
theorem more_loop1 (hE : EnvK E) {k : Nat} {L : List T3} {ms : List Bool} {vl : AV} {jh jm : Nat} {df : List Nat} {g : List Int} {gv : AV} (hb : g.length < 65536) : ∀ (m i : Nat) (A : Tm) (H : Heap) (hs : List Bool), inR L.length (g.drop i) = true → i + m = g.length → getX A 0 = .ptr (some ⟨.own k, 0⟩) → getX A 29 = gv → getX A 30 = .int .i64 g.length → getX A 31 = .int .i64 i → Holds H (knI k L hs ms vl jh jm :: isP W g gv :: Γ) →
    ∃ lv A' H', run W E (.loop lp33_1) ⟨A, df, none⟩ H = some (lv, ⟨A', df, none⟩, H') ∧ (lv = .exit 2 ∧ getX A' 0 = .ptr (some ⟨.own k, 0⟩) ∧ Holds H' (knI k L (setAll hs (g.drop i)) ms vl jh jm :: isP W g gv :: Γ)) := by
  have hlp : ∀ f H, run W E lp33_1 f H = run W E lp33_1 f H := fun _ _ => rfl
  conv at hlp => enter [f, H, 2]; unfold lp33_1
  intro m
  induction m with
  | zero =>
    intro i A H hs hin him a0 a29 a30 a31 h
    have : i = g.length := by omega
    subst this
    have hlt : ¬ (g.length : Int) < g.length := by omega
    rw [run_loop]
    simp only [hlp, a30, a31, hlt, ↓sxp, sxq, ↓reduceIte, Nat.reduceBEq, Nat.reduceLT, evP, evX, evR, blkOf, evA, storeA, Nat.reduceEqDiff, resL, resV, oneOrTup, Int.reduceEq, Int.reduceLT, Int.reduceLE, Int.reduceNeg, Int.reduceAdd, Int.reduceSub, Int.reduceMul, Int.reduceToNat, Nat.reduceAdd, noUnk, AV.cells, reduceCtorEq, Nat.reduceLeDiff, Cells.get, Cells.getN, Nat.reduceMul, ↓bnd_assoc]
    exact ⟨_, _, _, rfl, rfl, by simp only [a0, ↓sxp, sxq, ↓reduceIte, Nat.reduceBEq, Nat.reduceLT, evP, evX, evR, blkOf, evA, storeA, Nat.reduceEqDiff, resL, resV, oneOrTup, Int.reduceEq, Int.reduceLT, Int.reduceLE, Int.reduceNeg, Int.reduceAdd, Int.reduceSub, Int.reduceMul, Int.reduceToNat, Nat.reduceAdd, noUnk, AV.cells, reduceCtorEq, Nat.reduceLeDiff, Cells.get, Cells.getN, Nat.reduceMul, ↓bnd_assoc], by rw [List.drop_length]; exact h⟩
  | succ m ih =>
    intro i A H hs hin him a0 a29 a30 a31 h
    have hlt : (i : Int) < g.length := by omega
    have hwr : IntKind.i64.wrap ((i : Int) + 1) = ((i + 1 : Nat) : Int) := by rw [w64 (by omega)]; simp
    obtain ⟨ids, his⟩ := (h.ord [1]).is_get
    obtain ⟨p, e1, e2⟩ := his.at (i := i) (by omega)
    obtain ⟨l1, l2, h1⟩ := knI_open h
    have gk := h1.get
    rw [List.drop_eq_getElem_cons (show i < g.length by omega)] at hin ⊢
    have hin2 : (0 ≤ g[i] ∧ g[i] < L.length) ∧ inR L.length (g.drop (i + 1)) = true := by have h := hin; simp only [inR, List.all_cons, Bool.and_eq_true, decide_eq_true_eq] at h; exact h
    obtain ⟨hn0, hin3⟩ := hin2
    generalize g[i] = n at *
    apply Fin.ex3
    rw [run_loop]
    simp only [hlp, a0, a29, a30, a31, hlt, e1, e2, ↓gk, hn0, and_self, hwr, ↓sxp, sxq, ↓reduceIte, Nat.reduceBEq, Nat.reduceLT, evP, evX, evR, blkOf, evA, storeA, Nat.reduceEqDiff, resL, resV, oneOrTup, Int.reduceEq, Int.reduceLT, Int.reduceLE, Int.reduceNeg, Int.reduceAdd, Int.reduceSub, Int.reduceMul, Int.reduceToNat, Nat.reduceAdd, noUnk, AV.cells, reduceCtorEq, Nat.reduceLeDiff, Cells.get, Cells.getN, Nat.reduceMul, ↓bnd_assoc]
    refine Fin.write (bls (hs.set n.toNat true)) (h1.ord [2]) (by simp only [Cells.setN, Cells.set, bls_set]) (by simp; omega) rfl fun H4 h4 => ?_
    exact Fin.of3 (ih (i + 1) _ _ (hs.set n.toNat true) hin3 (by omega) (by simp only [a0, ↓sxp, sxq, ↓reduceIte, Nat.reduceBEq, Nat.reduceLT, evP, evX, evR, blkOf, evA, storeA, Nat.reduceEqDiff, resL, resV, oneOrTup, Int.reduceEq, Int.reduceLT, Int.reduceLE, Int.reduceNeg, Int.reduceAdd, Int.reduceSub, Int.reduceMul, Int.reduceToNat, Nat.reduceAdd, noUnk, AV.cells, reduceCtorEq, Nat.reduceLeDiff, Cells.get, Cells.getN, Nat.reduceMul, ↓bnd_assoc]) (by simp only [a29, ↓sxp, sxq, ↓reduceIte, Nat.reduceBEq, Nat.reduceLT, evP, evX, evR, blkOf, evA, storeA, Nat.reduceEqDiff, resL, resV, oneOrTup, Int.reduceEq, Int.reduceLT, Int.reduceLE, Int.reduceNeg, Int.reduceAdd, Int.reduceSub, Int.reduceMul, Int.reduceToNat, Nat.reduceAdd, noUnk, AV.cells, reduceCtorEq, Nat.reduceLeDiff, Cells.get, Cells.getN, Nat.reduceMul, ↓bnd_assoc]) (by simp only [a30, ↓sxp, sxq, ↓reduceIte, Nat.reduceBEq, Nat.reduceLT, evP, evX, evR, blkOf, evA, storeA, Nat.reduceEqDiff, resL, resV, oneOrTup, Int.reduceEq, Int.reduceLT, Int.reduceLE, Int.reduceNeg, Int.reduceAdd, Int.reduceSub, Int.reduceMul, Int.reduceToNat, Nat.reduceAdd, noUnk, AV.cells, reduceCtorEq, Nat.reduceLeDiff, Cells.get, Cells.getN, Nat.reduceMul, ↓bnd_assoc]) (by simp only [↓sxp, sxq, ↓reduceIte, Nat.reduceBEq, Nat.reduceLT, evP, evX, evR, blkOf, evA, storeA, Nat.reduceEqDiff, resL, resV, oneOrTup, Int.reduceEq, Int.reduceLT, Int.reduceLE, Int.reduceNeg, Int.reduceAdd, Int.reduceSub, Int.reduceMul, Int.reduceToNat, Nat.reduceAdd, noUnk, AV.cells, reduceCtorEq, Nat.reduceLeDiff, Cells.get, Cells.getN, Nat.reduceMul, ↓bnd_assoc]) (knI_shut (by simp; exact l1) l2 (h4.ord [1, 1]))) fun _ _ _ h => h
/-- Rounds, till there is nothing new. -/
inductive Rounds (L : List T3) : List Bool → List Bool → List Bool → List Bool → Prop
  | stop {hs ms : List Bool} (h : (roundM L hs ms).2.2 = false) : Rounds L hs ms (roundM L hs ms).1 (roundM L hs ms).2.1
  | more {hs ms hs' ms' : List Bool} (h : (roundM L hs ms).2.2 = true) (r : Rounds L (roundM L hs ms).1 (roundM L hs ms).2.1 hs' ms') : Rounds L hs ms hs' ms'
def falses (l : List Bool) : Nat := l.count false
theorem falses_set {l : List Bool} {i : Nat} (h : l.getD i false = false) (hi : i < l.length) : falses (l.set i true) + 1 = falses l := by
  have hx : l[i] = false := by rw [List.getD_eq_getElem?_getD, List.getElem?_eq_getElem hi] at h; exact h
  have h0 : 0 < falses l := List.count_pos_iff.2 (hx ▸ List.getElem_mem hi)
  unfold falses at *
  rw [List.count_set hi, hx]
  simp
  omega
theorem sw_falses {L : List T3} {ms : List Bool} (hw : WFL L) : ∀ (m i : Nat) (hs : List Bool) (f : Bool), i + m = L.length → hs.length = L.length → falses (swFrom L ms m i hs f).1 ≤ falses hs ∧ (f = false → (swFrom L ms m i hs f).2 = true → falses (swFrom L ms m i hs f).1 < falses hs) := by
  intro m
  induction m with
  | zero => intro i hs f _ _; simp [swFrom]
  | succ m ih =>
    intro i hs f him hl
    rw [swFrom]
    split
    · rename_i hc
      simp only [Bool.and_eq_true, Bool.not_eq_true'] at hc
      obtain ⟨⟨c1, c2⟩, c3⟩ := hc
      have hin := op_in hw (show i < L.length by omega) c2
      have hf := falses_set c3 (by omega)
      have := (ih (i + 1) (hs.set (opM L ms i).1.toNat true) true (by omega) (by simp; exact hl)).1
      exact ⟨by omega, fun _ _ => by omega⟩
    · exact ih (i + 1) hs f (by omega) hl
theorem more_loop2 (hE : EnvK E) {k : Nat} {L : List T3} {vl : AV} {jh jm : Nat} {df : List Nat} (hw : WFL L) (hw4 : W4 L) (hb : L.length < 65536) : ∀ (c : Nat) (A : Tm) (H : Heap) (hs ms : List Bool), falses hs = c → getX A 0 = .ptr (some ⟨.own k, 0⟩) → Holds H (knI k L hs ms vl jh jm :: Γ) →
    ∃ lv A' H', run W E (.loop lp33_2) ⟨A, df, none⟩ H = some (lv, ⟨A', df, none⟩, H') ∧ (lv = .exit 4 ∧ ∃ hs' ms', Rounds L hs ms hs' ms' ∧ Holds H' (knI k L hs' ms' vl jh jm :: Γ)) := by
  have hlp : ∀ f H, run W E lp33_2 f H = run W E lp33_2 f H := fun _ _ => rfl
  conv at hlp => enter [f, H, 2]; unfold lp33_2
  intro c
  induction c using Nat.strongRecOn with
  | ind c ih =>
    intro A H hs ms hc a0 h
    obtain ⟨l1, l2, _⟩ := knI_open h
    apply Fin.ex3
    rw [run_loop]
    simp only [hlp, a0, ↓sxp, sxq, ↓reduceIte, Nat.reduceBEq, Nat.reduceLT, evP, evX, evR, blkOf, evA, storeA, Nat.reduceEqDiff, resL, resV, oneOrTup, Int.reduceEq, Int.reduceLT, Int.reduceLE, Int.reduceNeg, Int.reduceAdd, Int.reduceSub, Int.reduceMul, Int.reduceToNat, Nat.reduceAdd, noUnk, AV.cells, reduceCtorEq, Nat.reduceLeDiff, Cells.get, Cells.getN, Nat.reduceMul, ↓bnd_assoc]
    refine Fin.call (k_round hE h hw hw4 hb) fun H2 h2 => ?_
    cases hf : (roundM L hs ms).2.2 with
    | false =>
      simp only [↓sxp, sxq, ↓reduceIte, Nat.reduceBEq, Nat.reduceLT, evP, evX, evR, blkOf, evA, storeA, Nat.reduceEqDiff, resL, resV, oneOrTup, Int.reduceEq, Int.reduceLT, Int.reduceLE, Int.reduceNeg, Int.reduceAdd, Int.reduceSub, Int.reduceMul, Int.reduceToNat, Nat.reduceAdd, noUnk, AV.cells, reduceCtorEq, Nat.reduceLeDiff, Cells.get, Cells.getN, Nat.reduceMul, ↓bnd_assoc]
      exact Fin.end3 ⟨rfl, _, _, .stop hf, h2⟩
    | true =>
      have hlt : falses (roundM L hs ms).1 < falses hs := (sw_falses (ms := mkFrom L hs L.length 0 ms) hw L.length 0 hs false (by omega) l1).2 rfl hf
      simp only [↓sxp, sxq, ↓reduceIte, Nat.reduceBEq, Nat.reduceLT, evP, evX, evR, blkOf, evA, storeA, Nat.reduceEqDiff, resL, resV, oneOrTup, Int.reduceEq, Int.reduceLT, Int.reduceLE, Int.reduceNeg, Int.reduceAdd, Int.reduceSub, Int.reduceMul, Int.reduceToNat, Nat.reduceAdd, noUnk, AV.cells, reduceCtorEq, Nat.reduceLeDiff, Cells.get, Cells.getN, Nat.reduceMul, ↓bnd_assoc]
      exact Fin.of3 (ih _ (by omega) _ _ _ _ rfl (by simp only [a0, ↓sxp, sxq, ↓reduceIte, Nat.reduceBEq, Nat.reduceLT, evP, evX, evR, blkOf, evA, storeA, Nat.reduceEqDiff, resL, resV, oneOrTup, Int.reduceEq, Int.reduceLT, Int.reduceLE, Int.reduceNeg, Int.reduceAdd, Int.reduceSub, Int.reduceMul, Int.reduceToNat, Nat.reduceAdd, noUnk, AV.cells, reduceCtorEq, Nat.reduceLeDiff, Cells.get, Cells.getN, Nat.reduceMul, ↓bnd_assoc]) h2) fun _ _ _ ⟨e, hs', ms', r, q⟩ => ⟨e, hs', ms', .more hf r, q⟩
theorem k_more (hE : EnvK E) {k : Nat} {L : List T3} {hs ms : List Bool} {vl : AV} {jh jm : Nat} {g : List Int} {gv : AV} (h : Holds H (knI k L hs ms vl jh jm :: isP W g gv :: Γ)) (hw : WFL L) (hw4 : W4 L) (hb : L.length < 65536) (hg : g.length < 65536) :
    (inR L.length g = false → ∃ H', go W E 33 [.ptr (some ⟨.own k, 0⟩), gv] H = some (.int .i64 2, H') ∧ Holds H' (knI k L hs ms vl jh jm :: isP W g gv :: Γ)) ∧
    (inR L.length g = true → ∃ hs' ms', Rounds L (setAll hs g) ms hs' ms' ∧ ∃ H', go W E 33 [.ptr (some ⟨.own k, 0⟩), gv] H = some (.int .i64 0, H') ∧ Holds H' (knI k L hs' ms' vl jh jm :: isP W g gv :: Γ)) := by
  obtain ⟨ids, his⟩ := (h.ord [1]).is_get
  have hl := his.len
  obtain ⟨l1, l2, h1⟩ := knI_open h
  have gk := h1.get
  constructor
  · intro hin
    apply Ends.out
    rw [go_code hE.f33 (by simp [sf33])]
    simp only [sf33, ↓gk, hl, ↓sxp, sxq, ↓reduceIte, Nat.reduceBEq, Nat.reduceLT, evP, evX, evR, blkOf, evA, storeA, Nat.reduceEqDiff, resL, resV, oneOrTup, Int.reduceEq, Int.reduceLT, Int.reduceLE, Int.reduceNeg, Int.reduceAdd, Int.reduceSub, Int.reduceMul, Int.reduceToNat, Nat.reduceAdd, noUnk, AV.cells, reduceCtorEq, Nat.reduceLeDiff, Cells.get, Cells.getN, Nat.reduceMul, ↓bnd_assoc]
    refine Ends.loop (more_loop0 (k := k) hE hg g.length 0 _ _ (by omega) (by simp only [↓sxp, sxq, ↓reduceIte, Nat.reduceBEq, Nat.reduceLT, evP, evX, evR, blkOf, evA, storeA, Nat.reduceEqDiff, resL, resV, oneOrTup, Int.reduceEq, Int.reduceLT, Int.reduceLE, Int.reduceNeg, Int.reduceAdd, Int.reduceSub, Int.reduceMul, Int.reduceToNat, Nat.reduceAdd, noUnk, AV.cells, reduceCtorEq, Nat.reduceLeDiff, Cells.get, Cells.getN, Nat.reduceMul, ↓bnd_assoc]) (by simp only [↓sxp, sxq, ↓reduceIte, Nat.reduceBEq, Nat.reduceLT, evP, evX, evR, blkOf, evA, storeA, Nat.reduceEqDiff, resL, resV, oneOrTup, Int.reduceEq, Int.reduceLT, Int.reduceLE, Int.reduceNeg, Int.reduceAdd, Int.reduceSub, Int.reduceMul, Int.reduceToNat, Nat.reduceAdd, noUnk, AV.cells, reduceCtorEq, Nat.reduceLeDiff, Cells.get, Cells.getN, Nat.reduceMul, ↓bnd_assoc]) (by simp only [↓sxp, sxq, ↓reduceIte, Nat.reduceBEq, Nat.reduceLT, evP, evX, evR, blkOf, evA, storeA, Nat.reduceEqDiff, resL, resV, oneOrTup, Int.reduceEq, Int.reduceLT, Int.reduceLE, Int.reduceNeg, Int.reduceAdd, Int.reduceSub, Int.reduceMul, Int.reduceToNat, Nat.reduceAdd, noUnk, AV.cells, reduceCtorEq, Nat.reduceLeDiff, Cells.get, Cells.getN, Nat.reduceMul, ↓bnd_assoc]) (by simp only [↓sxp, sxq, ↓reduceIte, Nat.reduceBEq, Nat.reduceLT, evP, evX, evR, blkOf, evA, storeA, Nat.reduceEqDiff, resL, resV, oneOrTup, Int.reduceEq, Int.reduceLT, Int.reduceLE, Int.reduceNeg, Int.reduceAdd, Int.reduceSub, Int.reduceMul, Int.reduceToNat, Nat.reduceAdd, noUnk, AV.cells, reduceCtorEq, Nat.reduceLeDiff, Cells.get, Cells.getN, Nat.reduceMul, ↓bnd_assoc]) (by simp only [↓sxp, sxq, ↓reduceIte, Nat.reduceBEq, Nat.reduceLT, evP, evX, evR, blkOf, evA, storeA, Nat.reduceEqDiff, resL, resV, oneOrTup, Int.reduceEq, Int.reduceLT, Int.reduceLE, Int.reduceNeg, Int.reduceAdd, Int.reduceSub, Int.reduceMul, Int.reduceToNat, Nat.reduceAdd, noUnk, AV.cells, reduceCtorEq, Nat.reduceLeDiff, Cells.get, Cells.getN, Nat.reduceMul, ↓bnd_assoc]; rfl) h) fun lv A' H' ⟨hh, hr⟩ => ?_
    subst hh
    rw [List.drop_zero] at hr
    rcases hr with ⟨rfl, hr, _⟩ | ⟨rfl, hr, a4⟩
    · rw [hin] at hr; cases hr
    · simp only [a4, ↓sxp, sxq, ↓reduceIte, Nat.reduceBEq, Nat.reduceLT, evP, evX, evR, blkOf, evA, storeA, Nat.reduceEqDiff, resL, resV, oneOrTup, Int.reduceEq, Int.reduceLT, Int.reduceLE, Int.reduceNeg, Int.reduceAdd, Int.reduceSub, Int.reduceMul, Int.reduceToNat, Nat.reduceAdd, noUnk, AV.cells, reduceCtorEq, Nat.reduceLeDiff, Cells.get, Cells.getN, Nat.reduceMul, ↓bnd_assoc]
      exact Ends.ret ⟨rfl, h⟩
  · intro hin
    suffices Fin (fun r : AV × Heap => r.1 = .int .i64 0 ∧ ∃ hs' ms', Rounds L (setAll hs g) ms hs' ms' ∧ Holds r.2 (knI k L hs' ms' vl jh jm :: isP W g gv :: Γ)) (go W E 33 [.ptr (some ⟨.own k, 0⟩), gv] H) by
      obtain ⟨⟨r, H'⟩, e, hr, hs', ms', hR, hq⟩ := this
      simp only at hr hq
      subst hr
      exact ⟨hs', ms', hR, H', e, hq⟩
    rw [go_code hE.f33 (by simp [sf33])]
    simp only [sf33, ↓gk, hl, ↓sxp, sxq, ↓reduceIte, Nat.reduceBEq, Nat.reduceLT, evP, evX, evR, blkOf, evA, storeA, Nat.reduceEqDiff, resL, resV, oneOrTup, Int.reduceEq, Int.reduceLT, Int.reduceLE, Int.reduceNeg, Int.reduceAdd, Int.reduceSub, Int.reduceMul, Int.reduceToNat, Nat.reduceAdd, noUnk, AV.cells, reduceCtorEq, Nat.reduceLeDiff, Cells.get, Cells.getN, Nat.reduceMul, ↓bnd_assoc]
    refine Fin.loop (more_loop0 (k := k) hE hg g.length 0 _ _ (by omega) (by simp only [↓sxp, sxq, ↓reduceIte, Nat.reduceBEq, Nat.reduceLT, evP, evX, evR, blkOf, evA, storeA, Nat.reduceEqDiff, resL, resV, oneOrTup, Int.reduceEq, Int.reduceLT, Int.reduceLE, Int.reduceNeg, Int.reduceAdd, Int.reduceSub, Int.reduceMul, Int.reduceToNat, Nat.reduceAdd, noUnk, AV.cells, reduceCtorEq, Nat.reduceLeDiff, Cells.get, Cells.getN, Nat.reduceMul, ↓bnd_assoc]) (by simp only [↓sxp, sxq, ↓reduceIte, Nat.reduceBEq, Nat.reduceLT, evP, evX, evR, blkOf, evA, storeA, Nat.reduceEqDiff, resL, resV, oneOrTup, Int.reduceEq, Int.reduceLT, Int.reduceLE, Int.reduceNeg, Int.reduceAdd, Int.reduceSub, Int.reduceMul, Int.reduceToNat, Nat.reduceAdd, noUnk, AV.cells, reduceCtorEq, Nat.reduceLeDiff, Cells.get, Cells.getN, Nat.reduceMul, ↓bnd_assoc]) (by simp only [↓sxp, sxq, ↓reduceIte, Nat.reduceBEq, Nat.reduceLT, evP, evX, evR, blkOf, evA, storeA, Nat.reduceEqDiff, resL, resV, oneOrTup, Int.reduceEq, Int.reduceLT, Int.reduceLE, Int.reduceNeg, Int.reduceAdd, Int.reduceSub, Int.reduceMul, Int.reduceToNat, Nat.reduceAdd, noUnk, AV.cells, reduceCtorEq, Nat.reduceLeDiff, Cells.get, Cells.getN, Nat.reduceMul, ↓bnd_assoc]) (by simp only [↓sxp, sxq, ↓reduceIte, Nat.reduceBEq, Nat.reduceLT, evP, evX, evR, blkOf, evA, storeA, Nat.reduceEqDiff, resL, resV, oneOrTup, Int.reduceEq, Int.reduceLT, Int.reduceLE, Int.reduceNeg, Int.reduceAdd, Int.reduceSub, Int.reduceMul, Int.reduceToNat, Nat.reduceAdd, noUnk, AV.cells, reduceCtorEq, Nat.reduceLeDiff, Cells.get, Cells.getN, Nat.reduceMul, ↓bnd_assoc]) (by simp only [↓sxp, sxq, ↓reduceIte, Nat.reduceBEq, Nat.reduceLT, evP, evX, evR, blkOf, evA, storeA, Nat.reduceEqDiff, resL, resV, oneOrTup, Int.reduceEq, Int.reduceLT, Int.reduceLE, Int.reduceNeg, Int.reduceAdd, Int.reduceSub, Int.reduceMul, Int.reduceToNat, Nat.reduceAdd, noUnk, AV.cells, reduceCtorEq, Nat.reduceLeDiff, Cells.get, Cells.getN, Nat.reduceMul, ↓bnd_assoc]; rfl) h) fun lv A' H' ⟨hh, hr⟩ => ?_
    subst hh
    rw [List.drop_zero] at hr
    rcases hr with ⟨rfl, hr, a0, a1⟩ | ⟨rfl, hr, a4⟩
    · simp only [a1, hl, ↓sxp, sxq, ↓reduceIte, Nat.reduceBEq, Nat.reduceLT, evP, evX, evR, blkOf, evA, storeA, Nat.reduceEqDiff, resL, resV, oneOrTup, Int.reduceEq, Int.reduceLT, Int.reduceLE, Int.reduceNeg, Int.reduceAdd, Int.reduceSub, Int.reduceMul, Int.reduceToNat, Nat.reduceAdd, noUnk, AV.cells, reduceCtorEq, Nat.reduceLeDiff, Cells.get, Cells.getN, Nat.reduceMul, ↓bnd_assoc]
      refine Fin.loop (more_loop1 (k := k) hE hg g.length 0 _ _ hs (by rw [List.drop_zero]; exact hin) (by omega) (by simp only [a0, ↓sxp, sxq, ↓reduceIte, Nat.reduceBEq, Nat.reduceLT, evP, evX, evR, blkOf, evA, storeA, Nat.reduceEqDiff, resL, resV, oneOrTup, Int.reduceEq, Int.reduceLT, Int.reduceLE, Int.reduceNeg, Int.reduceAdd, Int.reduceSub, Int.reduceMul, Int.reduceToNat, Nat.reduceAdd, noUnk, AV.cells, reduceCtorEq, Nat.reduceLeDiff, Cells.get, Cells.getN, Nat.reduceMul, ↓bnd_assoc]) (by simp only [↓sxp, sxq, ↓reduceIte, Nat.reduceBEq, Nat.reduceLT, evP, evX, evR, blkOf, evA, storeA, Nat.reduceEqDiff, resL, resV, oneOrTup, Int.reduceEq, Int.reduceLT, Int.reduceLE, Int.reduceNeg, Int.reduceAdd, Int.reduceSub, Int.reduceMul, Int.reduceToNat, Nat.reduceAdd, noUnk, AV.cells, reduceCtorEq, Nat.reduceLeDiff, Cells.get, Cells.getN, Nat.reduceMul, ↓bnd_assoc]) (by simp only [↓sxp, sxq, ↓reduceIte, Nat.reduceBEq, Nat.reduceLT, evP, evX, evR, blkOf, evA, storeA, Nat.reduceEqDiff, resL, resV, oneOrTup, Int.reduceEq, Int.reduceLT, Int.reduceLE, Int.reduceNeg, Int.reduceAdd, Int.reduceSub, Int.reduceMul, Int.reduceToNat, Nat.reduceAdd, noUnk, AV.cells, reduceCtorEq, Nat.reduceLeDiff, Cells.get, Cells.getN, Nat.reduceMul, ↓bnd_assoc]) (by simp only [↓sxp, sxq, ↓reduceIte, Nat.reduceBEq, Nat.reduceLT, evP, evX, evR, blkOf, evA, storeA, Nat.reduceEqDiff, resL, resV, oneOrTup, Int.reduceEq, Int.reduceLT, Int.reduceLE, Int.reduceNeg, Int.reduceAdd, Int.reduceSub, Int.reduceMul, Int.reduceToNat, Nat.reduceAdd, noUnk, AV.cells, reduceCtorEq, Nat.reduceLeDiff, Cells.get, Cells.getN, Nat.reduceMul, ↓bnd_assoc]; rfl) h) fun lv A2 H2 ⟨hlv, b0, h2⟩ => ?_
      subst hlv
      rw [List.drop_zero] at h2
      simp only [↓sxp, sxq, ↓reduceIte, Nat.reduceBEq, Nat.reduceLT, evP, evX, evR, blkOf, evA, storeA, Nat.reduceEqDiff, resL, resV, oneOrTup, Int.reduceEq, Int.reduceLT, Int.reduceLE, Int.reduceNeg, Int.reduceAdd, Int.reduceSub, Int.reduceMul, Int.reduceToNat, Nat.reduceAdd, noUnk, AV.cells, reduceCtorEq, Nat.reduceLeDiff, Cells.get, Cells.getN, Nat.reduceMul, ↓bnd_assoc]
      refine Fin.loop (more_loop2 hE hw hw4 hb _ _ _ _ _ rfl b0 h2) fun lv A3 H3 ⟨hlv, hs', ms', hR, h3⟩ => ?_
      subst hlv
      simp only [↓sxp, sxq, ↓reduceIte, Nat.reduceBEq, Nat.reduceLT, evP, evX, evR, blkOf, evA, storeA, Nat.reduceEqDiff, resL, resV, oneOrTup, Int.reduceEq, Int.reduceLT, Int.reduceLE, Int.reduceNeg, Int.reduceAdd, Int.reduceSub, Int.reduceMul, Int.reduceToNat, Nat.reduceAdd, noUnk, AV.cells, reduceCtorEq, Nat.reduceLeDiff, Cells.get, Cells.getN, Nat.reduceMul, ↓bnd_assoc]
      exact Fin.ret ⟨rfl, hs', ms', hR, h3⟩
    · rw [hin] at hr; cases hr
end
end Go.Proofs.Ytnfehkjkmlbceaa.Sx

/- From. -/
namespace Go.Proofs.Ytnfehkjkmlbceaa.Sx
open HP
section
variable {W : World} {E : Env} {H : Heap} {Γ : List HP}
theorem mksl_bools {A : Tm} {id n : Nat} {x y : SX} (hx : evX A x = .int .i64 (n : Int)) (hy : evX A y = .int .i64 (n : Int)) (hn : n < 256) :
    evA A id (.mksl 4 1 1 [.bool false] x y) = some (.cells (.lst (bls (List.replicate n false))) 4 none, .sl (some ⟨.own id, 0⟩) n (.exact n)) := by
  simp only [evA, hx, hy, List.length_cons, List.length_nil]
  rw [if_pos ⟨by omega, by omega, by omega, by omega, trivial, by omega⟩]
  simp only [Int.toNat_natCast, mkCells, List.length_cons, List.length_nil]
  rw [if_pos (by omega)]
  simp [zerosL]
def fromK (k : Nat) (L : List T3) (i : Nat) : HP := HP.ex fun vl => HP.all [blk k [vl, .sl none 0 (.exact 0), .sl none 0 (.exact 0), .bool true] 89, row 33 3 (flat3 (L.take i)) vl]
theorem fromK_open {k i : Nat} {L : List T3} (h : Holds H (fromK k L i :: Γ)) : ∃ vl, Holds H (blk k [vl, .sl none 0 (.exact 0), .sl none 0 (.exact 0), .bool true] 89 :: row 33 3 (flat3 (L.take i)) vl :: Γ) := by
  obtain ⟨vl, h⟩ := h.ex
  exact ⟨vl, h.opn⟩
theorem fromK_shut {k i : Nat} {L : List T3} {vl : AV} (h : Holds H (blk k [vl, .sl none 0 (.exact 0), .sl none 0 (.exact 0), .bool true] 89 :: row 33 3 (flat3 (L.take i)) vl :: Γ)) : Holds H (fromK k L i :: Γ) :=
  Holds.ex' vl (Holds.cls [blk k [vl, .sl none 0 (.exact 0), .sl none 0 (.exact 0), .bool true] 89, row 33 3 (flat3 (L.take i)) vl] h)
theorem from_round {p bx bk k : Nat} {S : MS} {l d : Nat} {tm : Tm} (hL : S.L.length < 65536) (a8 : getX tm 8 = .ptr (some ⟨.own bk, 0⟩)) (i : Nat) (x : T3) (hx : S.L[i]? = some x) :
    RoundOk W E p bx S l d tm [25, 26] ra23_0 rb23_0 (fun i => fromK k S.L i :: blk bk [.ptr (some ⟨.own k, 0⟩)] 55 :: Γ) (fun _ => [HP.pure False]) i x := by
  intro H h
  have hi : i < S.L.length := (List.getElem?_eq_some_iff.1 hx).1
  have htk : S.L.take (i + 1) = S.L.take i ++ [x] := by
    rw [List.take_succ_eq_append_getElem hi]
    congr 2
    rw [List.getElem?_eq_getElem hi] at hx; exact Option.some.inj hx
  have hlt : (S.L.take i).length = i := by rw [List.length_take]; omega
  obtain ⟨kd, u, w⟩ := x
  have hc3 : c3 (kd, u, w) = [.int .i64 kd, .int .i64 u, .int .i64 w] := rfl
  have hra : ∀ f H, run W E ra23_0 f H = run W E ra23_0 f H := fun _ _ => rfl
  conv at hra => enter [f, H, 2]; unfold ra23_0
  have hrbd : ∀ f H, run W E rb23_0 f H = run W E rb23_0 f H := fun _ _ => rfl
  conv at hrbd => enter [f, H, 2]; unfold rb23_0
  rw [yld_eq h rfl]
  rw [hc3]
  have q1 := h.push (c := [.int .i64 0, .int .i64 0, .int .i64 0]) (t := 33)
  obtain ⟨wr1, q2⟩ := q1.writeN (off := 0) (c' := [.int .i64 kd, .int .i64 u, .int .i64 w]) (vs := [.int .i64 kd, .int .i64 u, .int .i64 w]) rfl (by simp) rfl
  obtain ⟨hrb, q3⟩ := rnd_b (ex := run W E) (q2.ord [1])
  simp only [hra, putsT_cons, putsT_nil, wr1, hrb, ↓sxp, sxq, ↓reduceIte, Nat.reduceBEq, Nat.reduceLT, evP, evX, evR, blkOf, evA, storeA, Nat.reduceEqDiff, resL, resV, oneOrTup, Int.reduceEq, Int.reduceLT, Int.reduceLE, Int.reduceNeg, Int.reduceAdd, Int.reduceSub, Int.reduceMul, Int.reduceToNat, Nat.reduceAdd, noUnk, AV.cells, reduceCtorEq, Nat.reduceLeDiff, Cells.get, Cells.getN, Nat.reduceMul, ↓bnd_assoc]
  generalize H.next = bt at *
  generalize (H.push (.cells (.lst [.int .i64 0, .int .i64 0, .int .i64 0]) 33 none)).setAt bt (.cells (.lst [.int .i64 kd, .int .i64 u, .int .i64 w]) 33 none) = H1 at *
  generalize H1.setAt l (.loop .busy none tm [25, 26] ra23_0 rb23_0 d) = H2 at *
  have r1 : Holds H2 (busy l tm [25, 26] ra23_0 rb23_0 d :: blk bt [.int .i64 kd, .int .i64 u, .int .i64 w] 33 :: mark d :: storeP W p S :: blk bx [.ptr (some ⟨.own p, 0⟩)] 25 :: fromK k S.L i :: blk bk [.ptr (some ⟨.own k, 0⟩)] 55 :: Γ) := q3
  obtain ⟨vl, r2⟩ := fromK_open (r1.ord [5])
  have r3 := (r2.bump1 11 6).lay (c := c3 (kd, u, w)) (t := 33)
  have gt := (r2.ord [3]).get
  have gk := r2.get
  have gb := (r2.ord [7]).get
  have gt3 := (r3.ord [4]).get
  have gk3 := (r3.ord [1]).get
  have gb3 := (r3.ord [8]).get
  have g3 := r3.get
  have gbb := ((r2.bump 11).ord [7]).get
  obtain ⟨al, cl, rfl⟩ := (r2.ord [1]).row_len (by omega) (n := i) (by rw [flat3_len, hlt])
  refine round_fin ?_
  rw [hc3] at r3 gt3 gk3 gb3 g3
  simp only [hrbd, a8, ↓gt, ↓gk, ↓gb, ↓gt3, ↓gk3, ↓gb3, ↓sxp, sxq, ↓reduceIte, Nat.reduceBEq, Nat.reduceLT, evP, evX, evR, blkOf, evA, storeA, Nat.reduceEqDiff, resL, resV, oneOrTup, Int.reduceEq, Int.reduceLT, Int.reduceLE, Int.reduceNeg, Int.reduceAdd, Int.reduceSub, Int.reduceMul, Int.reduceToNat, Nat.reduceAdd, noUnk, AV.cells, reduceCtorEq, Nat.reduceLeDiff, Cells.get, Cells.getN, Nat.reduceMul, ↓bnd_assoc]
  refine Fin.app (r3.ord [2]) (by omega) (by simp only [srcA, blkOf, g3, Nat.one_mul]; rfl) (by omega) (new := c3 (kd, u, w)) (n := i) rfl rfl (by rw [flat3_len, hlt]) (by omega) fun v' H6 h6 => ?_
  obtain ⟨ay, cy, hv⟩ := h6.row_len (by omega) (n := i + 1) (by rw [flat3_app, flat3_len]; simp; omega)
  subst hv
  have gk6 := (h6.ord [2]).get
  have gb6 := (h6.ord [8]).get
  simp only [a8, ↓gk6, ↓gb6, ↓gbb, ↓sxp, sxq, ↓reduceIte, Nat.reduceBEq, Nat.reduceLT, evP, evX, evR, blkOf, evA, storeA, Nat.reduceEqDiff, resL, resV, oneOrTup, Int.reduceEq, Int.reduceLT, Int.reduceLE, Int.reduceNeg, Int.reduceAdd, Int.reduceSub, Int.reduceMul, Int.reduceToNat, Nat.reduceAdd, noUnk, AV.cells, reduceCtorEq, Nat.reduceLeDiff, Cells.get, Cells.getN, Nat.reduceMul, ↓bnd_assoc]
  refine Fin.write [.sl ay (i + 1) cy, .sl none 0 (.exact 0), .sl none 0 (.exact 0), .bool true] (h6.ord [2]) rfl (by simp) rfl fun H7 h7 => ?_
  rw [flat3_app, ← htk] at h7
  obtain ⟨hre, h8⟩ := rnd_n (h7.ord [3])
  rw [hre]
  exact Fin.ret ⟨rfl, ((fromK_shut ((h8.ord [1, 1]).rm 3)).rm 2).ord [1, 1, 1, 1, 0]⟩
theorem n_from (hE : EnvK E) (h : Holds H Γ) (v : AV) : ∃ H', go W E 23 [.ptr none, v] H = some (.tup [.ptr none, .int .i64 1], H') ∧ Holds H' Γ := by
  apply Ends.out
  rw [go_code hE.f23 (by simp [sf23])]
  simp only [sf23, ↓sxp, sxq, ↓reduceIte, Nat.reduceBEq, Nat.reduceLT, evP, evX, evR, blkOf, evA, storeA, Nat.reduceEqDiff, resL, resV, oneOrTup, Int.reduceEq, Int.reduceLT, Int.reduceLE, Int.reduceNeg, Int.reduceAdd, Int.reduceSub, Int.reduceMul, Int.reduceToNat, Nat.reduceAdd, noUnk, AV.cells, reduceCtorEq, Nat.reduceLeDiff, Cells.get, Cells.getN, Nat.reduceMul, ↓bnd_assoc]
  refine Ends.call (n_put hE.t h (0, 0, 0)) fun H2 h2 => ?_
  simp only [↓sxp, sxq, ↓reduceIte, Nat.reduceBEq, Nat.reduceLT, evP, evX, evR, blkOf, evA, storeA, Nat.reduceEqDiff, resL, resV, oneOrTup, Int.reduceEq, Int.reduceLT, Int.reduceLE, Int.reduceNeg, Int.reduceAdd, Int.reduceSub, Int.reduceMul, Int.reduceToNat, Nat.reduceAdd, noUnk, AV.cells, reduceCtorEq, Nat.reduceLeDiff, Cells.get, Cells.getN, Nat.reduceMul, ↓bnd_assoc]
  exact Ends.ret ⟨rfl, h2⟩
theorem put_zero (S : MS) : putM S (0, 0, 0) = (0, 2, S) := by
  simp [putM, mayM]
abbrev zeros (n : Nat) : List Bool := List.replicate n false
theorem k_from (hE : EnvK E) {p : Nat} {S : MS} {g : List Int} {gv : AV} (h : Holds H (storeP W p S :: isP W g gv :: Γ)) (hw : WFL S.L) (hw4 : W4 S.L) (hb : S.L.length < 256) (hg : g.length < 65536) :
    (inR S.L.length g = false → ∃ H', go W E 23 [.ptr (some ⟨.own p, 0⟩), gv] H = some (.tup [.ptr none, .int .i64 2], H') ∧ Holds H' (storeP W p S :: isP W g gv :: Γ)) ∧
    (inR S.L.length g = true → ∃ x : Nat × AV × Nat × Nat × List Bool × List Bool, ∃ H', go W E 23 [.ptr (some ⟨.own p, 0⟩), gv] H = some (.tup [.ptr (some ⟨.own x.1, 0⟩), .int .i64 0], H') ∧ Holds H' (HP.pure (Rounds S.L (setAll (zeros S.L.length) g) (zeros S.L.length) x.2.2.2.2.1 x.2.2.2.2.2) :: knI x.1 S.L x.2.2.2.2.1 x.2.2.2.2.2 x.2.1 x.2.2.1 x.2.2.2.1 :: storeP W p S :: isP W g gv :: Γ)) := by
  suffices key : Fin (fun r : AV × Heap => (inR S.L.length g = false ∧ r.1 = .tup [.ptr none, .int .i64 2] ∧ Holds r.2 (storeP W p S :: isP W g gv :: Γ)) ∨
      (inR S.L.length g = true ∧ ∃ x : Nat × AV × Nat × Nat × List Bool × List Bool, r.1 = .tup [.ptr (some ⟨.own x.1, 0⟩), .int .i64 0] ∧ Holds r.2 (HP.pure (Rounds S.L (setAll (zeros S.L.length) g) (zeros S.L.length) x.2.2.2.2.1 x.2.2.2.2.2) :: knI x.1 S.L x.2.2.2.2.1 x.2.2.2.2.2 x.2.1 x.2.2.1 x.2.2.2.1 :: storeP W p S :: isP W g gv :: Γ))) (go W E 23 [.ptr (some ⟨.own p, 0⟩), gv] H) by
    obtain ⟨⟨r, H'⟩, e, hr⟩ := key
    simp only at hr
    rcases hr with ⟨c, rfl, q⟩ | ⟨c, x, rfl, q⟩
    · exact ⟨fun _ => ⟨H', e, q⟩, fun c' => by rw [c] at c'; cases c'⟩
    · exact ⟨fun c' => (by rw [c] at c'; cases c'), fun _ => ⟨x, H', e, q⟩⟩
  rw [go_code hE.f23 (by simp [sf23])]
  simp only [sf23, ↓sxp, sxq, ↓reduceIte, Nat.reduceBEq, Nat.reduceLT, evP, evX, evR, blkOf, evA, storeA, Nat.reduceEqDiff, resL, resV, oneOrTup, Int.reduceEq, Int.reduceLT, Int.reduceLE, Int.reduceNeg, Int.reduceAdd, Int.reduceSub, Int.reduceMul, Int.reduceToNat, Nat.reduceAdd, noUnk, AV.cells, reduceCtorEq, Nat.reduceLeDiff, Cells.get, Cells.getN, Nat.reduceMul, ↓bnd_assoc]
  refine Fin.call (s_put hE.t h (0, 0, 0) (by omega)) fun H2 h2 => ?_
  rw [put_zero] at h2 ⊢
  simp only [↓sxp, sxq, ↓reduceIte, Nat.reduceBEq, Nat.reduceLT, evP, evX, evR, blkOf, evA, storeA, Nat.reduceEqDiff, resL, resV, oneOrTup, Int.reduceEq, Int.reduceLT, Int.reduceLE, Int.reduceNeg, Int.reduceAdd, Int.reduceSub, Int.reduceMul, Int.reduceToNat, Nat.reduceAdd, noUnk, AV.cells, reduceCtorEq, Nat.reduceLeDiff, Cells.get, Cells.getN, Nat.reduceMul, ↓bnd_assoc]
  have q3 := (h2.push (c := [.sl none 0 (.exact 0), .sl none 0 (.exact 0), .sl none 0 (.exact 0), .bool true]) (t := 89)).push (c := [.ptr none]) (t := 55)
  simp only [push_next] at q3
  generalize H2.next = k at *
  refine Fin.write [.ptr (some ⟨.own k, 0⟩)] q3 rfl (by simp) rfl fun H4 h4 => ?_
  generalize k + 1 = bk at *
  have h4' : Holds H4 (blk k [.sl none 0 (.exact 0), .sl none 0 (.exact 0), .sl none 0 (.exact 0), .bool true] 89 :: blk bk [.ptr (some ⟨.own k, 0⟩)] 55 :: storeP W p S :: isP W g gv :: Γ) := h4.ord [1]
  have h5 := h4'.push (c := [.ptr (some ⟨.own p, 0⟩)]) (t := 25)
  simp only [s_all hE.t, ↓sxp, sxq, ↓reduceIte, Nat.reduceBEq, Nat.reduceLT, evP, evX, evR, blkOf, evA, storeA, Nat.reduceEqDiff, resL, resV, oneOrTup, Int.reduceEq, Int.reduceLT, Int.reduceLE, Int.reduceNeg, Int.reduceAdd, Int.reduceSub, Int.reduceMul, Int.reduceToNat, Nat.reduceAdd, noUnk, AV.cells, reduceCtorEq, Nat.reduceLeDiff, Cells.get, Cells.getN, Nat.reduceMul, ↓bnd_assoc]
  have h6 := (fromK_shut (k := k) (L := S.L) (i := 0) (((h5.ord [1]).row_nil (ty := 33) (es := 3)).ord [1])).ord [3, 1]
  refine Fin.range (bx := H4.next) (fun i => fromK k S.L i :: blk bk [.ptr (some ⟨.own k, 0⟩)] 55 :: isP W g gv :: Γ) (fun _ => [HP.pure False]) hE.t (by omega) (by simp only [↓sxp, sxq, ↓reduceIte, Nat.reduceBEq, Nat.reduceLT, evP, evX, evR, blkOf, evA, storeA, Nat.reduceEqDiff, resL, resV, oneOrTup, Int.reduceEq, Int.reduceLT, Int.reduceLE, Int.reduceNeg, Int.reduceAdd, Int.reduceSub, Int.reduceMul, Int.reduceToNat, Nat.reduceAdd, noUnk, AV.cells, reduceCtorEq, Nat.reduceLeDiff, Cells.get, Cells.getN, Nat.reduceMul, ↓bnd_assoc]) h6 (fun l d i x hx => from_round (by omega) (by simp only [↓sxp, sxq, ↓reduceIte, Nat.reduceBEq, Nat.reduceLT, evP, evX, evR, blkOf, evA, storeA, Nat.reduceEqDiff, resL, resV, oneOrTup, Int.reduceEq, Int.reduceLT, Int.reduceLE, Int.reduceNeg, Int.reduceAdd, Int.reduceSub, Int.reduceMul, Int.reduceToNat, Nat.reduceAdd, noUnk, AV.cells, reduceCtorEq, Nat.reduceLeDiff, Cells.get, Cells.getN, Nat.reduceMul, ↓bnd_assoc]) i x hx) ?_ ?_
  · intro d H7 h7
    obtain ⟨vl, h8⟩ := fromK_open (h7.ord [3])
    rw [List.take_length] at h8
    obtain ⟨al, cl, rfl⟩ := (h8.ord [1]).row_len (by omega) (n := S.L.length) (flat3_len _)
    have gk8 := h8.get
    have gb8 := (h8.ord [5]).get
    have gk8b := (h8.bump 20).get
    have gb8b := ((h8.bump 20).ord [5]).get
    have h9 := (h8.bump2 20 7 13).lay (c := bls (zeros S.L.length)) (t := 4)
    have gk9 := (h9.ord [2]).get
    have gb9 := (h9.ord [7]).get
    simp only [↓gk8, ↓gb8, ↓gk8b, ↓gb8b, ↓mksl_bools (n := S.L.length), hb, ↓gk9, ↓gb9, ↓sxp, sxq, ↓reduceIte, Nat.reduceBEq, Nat.reduceLT, evP, evX, evR, blkOf, evA, storeA, Nat.reduceEqDiff, resL, resV, oneOrTup, Int.reduceEq, Int.reduceLT, Int.reduceLE, Int.reduceNeg, Int.reduceAdd, Int.reduceSub, Int.reduceMul, Int.reduceToNat, Nat.reduceAdd, noUnk, AV.cells, reduceCtorEq, Nat.reduceLeDiff, Cells.get, Cells.getN, Nat.reduceMul, ↓bnd_assoc]
    refine Fin.write [.sl al S.L.length cl, .sl (some ⟨.own (H7.next + 7), 0⟩) S.L.length (.exact S.L.length), .sl none 0 (.exact 0), .bool true] (h9.ord [2]) rfl (by simp) rfl fun H10 h10 => ?_
    have gk10 := h10.get
    have gb10 := (h10.ord [7]).get
    have h11 := (h10.ord [2]).lay (c := bls (zeros S.L.length)) (t := 4)
    have gk11 := (h11.ord [1]).get
    have gb11 := (h11.ord [7]).get
    simp only [↓gb8b, ↓gk10, ↓gb10, ↓gk11, ↓gb11, ↓mksl_bools (n := S.L.length), hb, ↓sxp, sxq, ↓reduceIte, Nat.reduceBEq, Nat.reduceLT, evP, evX, evR, blkOf, evA, storeA, Nat.reduceEqDiff, resL, resV, oneOrTup, Int.reduceEq, Int.reduceLT, Int.reduceLE, Int.reduceNeg, Int.reduceAdd, Int.reduceSub, Int.reduceMul, Int.reduceToNat, Nat.reduceAdd, noUnk, AV.cells, reduceCtorEq, Nat.reduceLeDiff, Cells.get, Cells.getN, Nat.reduceMul, ↓bnd_assoc]
    refine Fin.write [.sl al S.L.length cl, .sl (some ⟨.own (H7.next + 7), 0⟩) S.L.length (.exact S.L.length), .sl (some ⟨.own (H7.next + 13), 0⟩) S.L.length (.exact S.L.length), .bool true] (h11.ord [1]) rfl (by simp) rfl fun H12 h12 => ?_
    generalize H7.next + 7 = jh at *
    generalize H7.next + 13 = jm at *
    have h13 := (knI_shut (hs := zeros S.L.length) (ms := zeros S.L.length) (L := S.L) (k := k) (vl := .sl al S.L.length cl) (jh := jh) (jm := jm) (by simp) (by simp) (h12.ord [0, 2, 1])).ord [0, 4]
    have gb12 := (h12.ord [7]).get
    obtain ⟨m1, m2⟩ := k_more hE h13 hw hw4 (by omega) hg
    simp only [↓gb12, ↓sxp, sxq, ↓reduceIte, Nat.reduceBEq, Nat.reduceLT, evP, evX, evR, blkOf, evA, storeA, Nat.reduceEqDiff, resL, resV, oneOrTup, Int.reduceEq, Int.reduceLT, Int.reduceLE, Int.reduceNeg, Int.reduceAdd, Int.reduceSub, Int.reduceMul, Int.reduceToNat, Nat.reduceAdd, noUnk, AV.cells, reduceCtorEq, Nat.reduceLeDiff, Cells.get, Cells.getN, Nat.reduceMul, ↓bnd_assoc]
    cases hin : inR S.L.length g with
    | false =>
      refine Fin.call (m1 hin) fun H14 h14 => ?_
      have gd := (h14.ord [2]).geto
      simp only [↓finish_one gd, ↓sxp, sxq, ↓reduceIte, Nat.reduceBEq, Nat.reduceLT, evP, evX, evR, blkOf, evA, storeA, Nat.reduceEqDiff, resL, resV, oneOrTup, Int.reduceEq, Int.reduceLT, Int.reduceLE, Int.reduceNeg, Int.reduceAdd, Int.reduceSub, Int.reduceMul, Int.reduceToNat, Nat.reduceAdd, noUnk, AV.cells, reduceCtorEq, Nat.reduceLeDiff, Cells.get, Cells.getN, Nat.reduceMul, ↓bnd_assoc]
      exact Fin.ret (.inl ⟨rfl, (((((h14.ord [2]).seto (o' := .deferred false) rfl).tail.rm 4).rm 3).tail).ord [1]⟩)
    | true =>
      obtain ⟨hs', ms', hR, e⟩ := m2 hin
      refine Fin.call e fun H14 h14 => ?_
      have gb14 := (h14.ord [5]).get
      have gd := (h14.ord [2]).geto
      simp only [↓gb14, ↓finish_one gd, ↓sxp, sxq, ↓reduceIte, Nat.reduceBEq, Nat.reduceLT, evP, evX, evR, blkOf, evA, storeA, Nat.reduceEqDiff, resL, resV, oneOrTup, Int.reduceEq, Int.reduceLT, Int.reduceLE, Int.reduceNeg, Int.reduceAdd, Int.reduceSub, Int.reduceMul, Int.reduceToNat, Nat.reduceAdd, noUnk, AV.cells, reduceCtorEq, Nat.reduceLeDiff, Cells.get, Cells.getN, Nat.reduceMul, ↓bnd_assoc]
      exact Fin.ret (.inr ⟨⟨k, .sl al S.L.length cl, jh, jm, hs', ms'⟩, rfl, Holds.pure' hR ((((((h14.ord [2]).seto (o' := .deferred false) rfl).tail.rm 4).rm 3)).ord [0, 1])⟩)
  · intro y d H7 hy h7
    exact absurd (h7.ord [3]).pure.1 id
end
end Go.Proofs.Ytnfehkjkmlbceaa.Sx

/- Has, Can, Count, List, Ints, right, Opens. -/
namespace Go.Proofs.Ytnfehkjkmlbceaa.Sx
open HP
section
variable {W : World} {E : Env} {H : Heap} {Γ : List HP}
def hasK (hs : List Bool) (n : Int) : Bool := decide (0 ≤ n) && decide (n < hs.length) && hs.getD n.toNat false
theorem k_has (hE : EnvK E) {k : Nat} {L : List T3} {hs ms : List Bool} {vl : AV} {jh jm : Nat} (h : Holds H (knI k L hs ms vl jh jm :: Γ)) (n : Int) :
    go W E 28 [.ptr (some ⟨.own k, 0⟩), .int .i64 n] H = some (.bool (hasK hs n), H) := by
  have hat := k_at (W := W) hE h n
  obtain ⟨l1, l2, h1⟩ := knI_open h
  have gk := h1.get
  have gh := (h1.ord [2]).get
  unfold hasK
  rw [l1]
  rw [go_code hE.f28 (by simp [sf28])]
  cases hc : (decide (0 ≤ n) && decide (n < (L.length : Int))) with
  | false =>
    rw [hc] at hat
    simp only [sf28, hat, ↓sxp, sxq, ↓reduceIte, Nat.reduceBEq, Nat.reduceLT, evP, evX, evR, blkOf, evA, storeA, Nat.reduceEqDiff, resL, resV, oneOrTup, Int.reduceEq, Int.reduceLT, Int.reduceLE, Int.reduceNeg, Int.reduceAdd, Int.reduceSub, Int.reduceMul, Int.reduceToNat, Nat.reduceAdd, noUnk, AV.cells, reduceCtorEq, Nat.reduceLeDiff, Cells.get, Cells.getN, Nat.reduceMul, ↓bnd_assoc]
  | true =>
    rw [hc] at hat
    have hn : 0 ≤ n ∧ n < L.length := by simpa using hc
    have hx := bls_get (show n.toNat < hs.length by omega)
    simp only [sf28, hat, ↓gk, ↓gh, hn, and_self, hx, ↓sxp, sxq, ↓reduceIte, Nat.reduceBEq, Nat.reduceLT, evP, evX, evR, blkOf, evA, storeA, Nat.reduceEqDiff, resL, resV, oneOrTup, Int.reduceEq, Int.reduceLT, Int.reduceLE, Int.reduceNeg, Int.reduceAdd, Int.reduceSub, Int.reduceMul, Int.reduceToNat, Nat.reduceAdd, noUnk, AV.cells, reduceCtorEq, Nat.reduceLeDiff, Cells.get, Cells.getN, Nat.reduceMul, ↓bnd_assoc]
theorem k_canp (hE : EnvK E) {k : Nat} {L : List T3} {hs ms : List Bool} {vl : AV} {jh jm : Nat} (h : Holds H (knI k L hs ms vl jh jm :: Γ)) (n : Int) :
    go W E 29 [.ptr (some ⟨.own k, 0⟩), .int .i64 n] H = some (.bool (hasK ms n), H) := by
  have hat := k_at (W := W) hE h n
  obtain ⟨l1, l2, h1⟩ := knI_open h
  have gk := h1.get
  have gh := (h1.ord [3]).get
  unfold hasK
  rw [l2]
  rw [go_code hE.f29 (by simp [sf29])]
  cases hc : (decide (0 ≤ n) && decide (n < (L.length : Int))) with
  | false =>
    rw [hc] at hat
    simp only [sf29, hat, ↓sxp, sxq, ↓reduceIte, Nat.reduceBEq, Nat.reduceLT, evP, evX, evR, blkOf, evA, storeA, Nat.reduceEqDiff, resL, resV, oneOrTup, Int.reduceEq, Int.reduceLT, Int.reduceLE, Int.reduceNeg, Int.reduceAdd, Int.reduceSub, Int.reduceMul, Int.reduceToNat, Nat.reduceAdd, noUnk, AV.cells, reduceCtorEq, Nat.reduceLeDiff, Cells.get, Cells.getN, Nat.reduceMul, ↓bnd_assoc]
  | true =>
    rw [hc] at hat
    have hn : 0 ≤ n ∧ n < L.length := by simpa using hc
    have hx := bls_get (show n.toNat < ms.length by omega)
    simp only [sf29, hat, ↓gk, ↓gh, hn, and_self, hx, ↓sxp, sxq, ↓reduceIte, Nat.reduceBEq, Nat.reduceLT, evP, evX, evR, blkOf, evA, storeA, Nat.reduceEqDiff, resL, resV, oneOrTup, Int.reduceEq, Int.reduceLT, Int.reduceLE, Int.reduceNeg, Int.reduceAdd, Int.reduceSub, Int.reduceMul, Int.reduceToNat, Nat.reduceAdd, noUnk, AV.cells, reduceCtorEq, Nat.reduceLeDiff, Cells.get, Cells.getN, Nat.reduceMul, ↓bnd_assoc]
theorem n_at (hE : EnvK E) (n : Int) : go W E 45 [.ptr none, .int .i64 n] H = some (.bool false, H) := by
  rw [go_code hE.f45 (by simp [sf45])]
  simp only [sf45, ↓sxp, sxq, ↓reduceIte, Nat.reduceBEq, Nat.reduceLT, evP, evX, evR, blkOf, evA, storeA, Nat.reduceEqDiff, resL, resV, oneOrTup, Int.reduceEq, Int.reduceLT, Int.reduceLE, Int.reduceNeg, Int.reduceAdd, Int.reduceSub, Int.reduceMul, Int.reduceToNat, Nat.reduceAdd, noUnk, AV.cells, reduceCtorEq, Nat.reduceLeDiff, Cells.get, Cells.getN, Nat.reduceMul, ↓bnd_assoc]
theorem n_has (hE : EnvK E) (n : Int) : go W E 28 [.ptr none, .int .i64 n] H = some (.bool false, H) := by
  rw [go_code hE.f28 (by simp [sf28])]
  simp only [sf28, n_at hE, ↓sxp, sxq, ↓reduceIte, Nat.reduceBEq, Nat.reduceLT, evP, evX, evR, blkOf, evA, storeA, Nat.reduceEqDiff, resL, resV, oneOrTup, Int.reduceEq, Int.reduceLT, Int.reduceLE, Int.reduceNeg, Int.reduceAdd, Int.reduceSub, Int.reduceMul, Int.reduceToNat, Nat.reduceAdd, noUnk, AV.cells, reduceCtorEq, Nat.reduceLeDiff, Cells.get, Cells.getN, Nat.reduceMul, ↓bnd_assoc]
theorem n_canp (hE : EnvK E) (n : Int) : go W E 29 [.ptr none, .int .i64 n] H = some (.bool false, H) := by
  rw [go_code hE.f29 (by simp [sf29])]
  simp only [sf29, n_at hE, ↓sxp, sxq, ↓reduceIte, Nat.reduceBEq, Nat.reduceLT, evP, evX, evR, blkOf, evA, storeA, Nat.reduceEqDiff, resL, resV, oneOrTup, Int.reduceEq, Int.reduceLT, Int.reduceLE, Int.reduceNeg, Int.reduceAdd, Int.reduceSub, Int.reduceMul, Int.reduceToNat, Nat.reduceAdd, noUnk, AV.cells, reduceCtorEq, Nat.reduceLeDiff, Cells.get, Cells.getN, Nat.reduceMul, ↓bnd_assoc]
theorem n_count (hE : EnvK E) : go W E 30 [.ptr none] H = some (.tup [.int .i64 0, .int .i64 0], H) := by
  rw [go_code hE.f30 (by simp [sf30])]
  simp only [sf30, ↓sxp, sxq, ↓reduceIte, Nat.reduceBEq, Nat.reduceLT, evP, evX, evR, blkOf, evA, storeA, Nat.reduceEqDiff, resL, resV, oneOrTup, Int.reduceEq, Int.reduceLT, Int.reduceLE, Int.reduceNeg, Int.reduceAdd, Int.reduceSub, Int.reduceMul, Int.reduceToNat, Nat.reduceAdd, noUnk, AV.cells, reduceCtorEq, Nat.reduceLeDiff, Cells.get, Cells.getN, Nat.reduceMul, ↓bnd_assoc]
theorem n_list (hE : EnvK E) : go W E 32 [.ptr none] H = some (.sl none 0 (.exact 0), H) := by
  rw [go_code hE.f32 (by simp [sf32])]
  simp only [sf32, ↓sxp, sxq, ↓reduceIte, Nat.reduceBEq, Nat.reduceLT, evP, evX, evR, blkOf, evA, storeA, Nat.reduceEqDiff, resL, resV, oneOrTup, Int.reduceEq, Int.reduceLT, Int.reduceLE, Int.reduceNeg, Int.reduceAdd, Int.reduceSub, Int.reduceMul, Int.reduceToNat, Nat.reduceAdd, noUnk, AV.cells, reduceCtorEq, Nat.reduceLeDiff, Cells.get, Cells.getN, Nat.reduceMul, ↓bnd_assoc]
theorem n_more (hE : EnvK E) (v : AV) : go W E 33 [.ptr none, v] H = some (.int .i64 1, H) := by
  rw [go_code hE.f33 (by simp [sf33])]
  simp only [sf33, ↓sxp, sxq, ↓reduceIte, Nat.reduceBEq, Nat.reduceLT, evP, evX, evR, blkOf, evA, storeA, Nat.reduceEqDiff, resL, resV, oneOrTup, Int.reduceEq, Int.reduceLT, Int.reduceLE, Int.reduceNeg, Int.reduceAdd, Int.reduceSub, Int.reduceMul, Int.reduceToNat, Nat.reduceAdd, noUnk, AV.cells, reduceCtorEq, Nat.reduceLeDiff, Cells.get, Cells.getN, Nat.reduceMul, ↓bnd_assoc]
def cnt (l : List Bool) : Nat := l.count true
theorem cnt_cons (b : Bool) (l : List Bool) : cnt (b :: l) = (if b then 1 else 0) + cnt l := by cases b <;> simp [cnt]; omega
theorem cnt_le (l : List Bool) : cnt l ≤ l.length := List.count_le_length
theorem count_loop (hE : EnvK E) {k : Nat} {L : List T3} {hs ms : List Bool} {vl : AV} {jh jm : Nat} {df : List Nat} (hb : L.length < 65536) : ∀ (m i : Nat) (A : Tm) (H : Heap) (c d : Nat), i + m = L.length → c ≤ i → d ≤ i → getX A 0 = .ptr (some ⟨.own k, 0⟩) → getX A 2 = .int .i64 c → getX A 3 = .int .i64 d → getX A 11 = .int .i64 L.length → getX A 12 = .int .i64 i → Holds H (knI k L hs ms vl jh jm :: Γ) →
    ∃ lv A' H', run W E (.loop lp30_0) ⟨A, df, none⟩ H = some (lv, ⟨A', df, none⟩, H') ∧ (lv = .exit 0 ∧ H' = H ∧ getX A' 2 = .int .i64 (c + cnt (hs.drop i) : Nat) ∧ getX A' 3 = .int .i64 (d + cnt (ms.drop i) : Nat)) := by
  have hlp : ∀ f H, run W E lp30_0 f H = run W E lp30_0 f H := fun _ _ => rfl
  conv at hlp => enter [f, H, 2]; unfold lp30_0
  intro m
  induction m with
  | zero =>
    intro i A H c d him hc hd a0 a2 a3 a11 a12 h
    obtain ⟨l1, l2, _⟩ := knI_open h
    have : i = L.length := by omega
    subst this
    have hlt : ¬ (L.length : Int) < L.length := by omega
    rw [run_loop]
    simp only [hlp, a11, a12, hlt, ↓sxp, sxq, ↓reduceIte, Nat.reduceBEq, Nat.reduceLT, evP, evX, evR, blkOf, evA, storeA, Nat.reduceEqDiff, resL, resV, oneOrTup, Int.reduceEq, Int.reduceLT, Int.reduceLE, Int.reduceNeg, Int.reduceAdd, Int.reduceSub, Int.reduceMul, Int.reduceToNat, Nat.reduceAdd, noUnk, AV.cells, reduceCtorEq, Nat.reduceLeDiff, Cells.get, Cells.getN, Nat.reduceMul, ↓bnd_assoc]
    refine ⟨_, _, _, rfl, rfl, rfl, ?_, ?_⟩
    · rw [List.drop_of_length_le (by omega)]; simp only [a2, cnt, List.count_nil, Nat.add_zero, ↓sxp, sxq, ↓reduceIte, Nat.reduceBEq, Nat.reduceLT, evP, evX, evR, blkOf, evA, storeA, Nat.reduceEqDiff, resL, resV, oneOrTup, Int.reduceEq, Int.reduceLT, Int.reduceLE, Int.reduceNeg, Int.reduceAdd, Int.reduceSub, Int.reduceMul, Int.reduceToNat, Nat.reduceAdd, noUnk, AV.cells, reduceCtorEq, Nat.reduceLeDiff, Cells.get, Cells.getN, Nat.reduceMul, ↓bnd_assoc]
    · rw [List.drop_of_length_le (by omega)]; simp only [a3, cnt, List.count_nil, Nat.add_zero, ↓sxp, sxq, ↓reduceIte, Nat.reduceBEq, Nat.reduceLT, evP, evX, evR, blkOf, evA, storeA, Nat.reduceEqDiff, resL, resV, oneOrTup, Int.reduceEq, Int.reduceLT, Int.reduceLE, Int.reduceNeg, Int.reduceAdd, Int.reduceSub, Int.reduceMul, Int.reduceToNat, Nat.reduceAdd, noUnk, AV.cells, reduceCtorEq, Nat.reduceLeDiff, Cells.get, Cells.getN, Nat.reduceMul, ↓bnd_assoc]
  | succ m ih =>
    intro i A H c d him hc hd a0 a2 a3 a11 a12 h
    obtain ⟨l1, l2, h1⟩ := knI_open h
    have hlt : (i : Int) < L.length := by omega
    have hi0 : (0 : Int) ≤ i ∧ (i : Int) < L.length := by omega
    have hwr : IntKind.i64.wrap ((i : Int) + 1) = ((i + 1 : Nat) : Int) := by rw [w64 (by omega)]; simp
    have hwc : IntKind.i64.wrap ((c : Int) + 1) = ((c + 1 : Nat) : Int) := by rw [w64 (by omega)]; simp
    have hwd : IntKind.i64.wrap ((d : Int) + 1) = ((d + 1 : Nat) : Int) := by rw [w64 (by omega)]; simp
    have gk := h1.get
    have gh := (h1.ord [2]).get
    have gm := (h1.ord [3]).get
    have xh : (bls hs)[i]? = some (.bool hs[i]) := by simp [List.getElem?_eq_getElem (show i < hs.length by omega)]
    have xm : (bls ms)[i]? = some (.bool ms[i]) := by simp [List.getElem?_eq_getElem (show i < ms.length by omega)]
    rw [run_loop, List.drop_eq_getElem_cons (show i < hs.length by omega), List.drop_eq_getElem_cons (show i < ms.length by omega), cnt_cons, cnt_cons]
    cases h1 : hs[i] <;> cases h2 : ms[i]
    all_goals
      rw [h1] at xh
      rw [h2] at xm
      simp only [hlp, a0, a2, a3, a11, a12, hlt, hi0, and_self, ↓gk, ↓gh, ↓gm, xh, xm, hwr, hwc, hwd, Int.toNat_natCast, ↓sxp, sxq, ↓reduceIte, Nat.reduceBEq, Nat.reduceLT, evP, evX, evR, blkOf, evA, storeA, Nat.reduceEqDiff, resL, resV, oneOrTup, Int.reduceEq, Int.reduceLT, Int.reduceLE, Int.reduceNeg, Int.reduceAdd, Int.reduceSub, Int.reduceMul, Int.reduceToNat, Nat.reduceAdd, noUnk, AV.cells, reduceCtorEq, Nat.reduceLeDiff, Cells.get, Cells.getN, Nat.reduceMul, ↓bnd_assoc]
    · exact loop_mono (ih (i + 1) _ _ c d (by omega) (by omega) (by omega) (by simp only [a0, ↓sxp, sxq, ↓reduceIte, Nat.reduceBEq, Nat.reduceLT, evP, evX, evR, blkOf, evA, storeA, Nat.reduceEqDiff, resL, resV, oneOrTup, Int.reduceEq, Int.reduceLT, Int.reduceLE, Int.reduceNeg, Int.reduceAdd, Int.reduceSub, Int.reduceMul, Int.reduceToNat, Nat.reduceAdd, noUnk, AV.cells, reduceCtorEq, Nat.reduceLeDiff, Cells.get, Cells.getN, Nat.reduceMul, ↓bnd_assoc]) (by simp only [a2, ↓sxp, sxq, ↓reduceIte, Nat.reduceBEq, Nat.reduceLT, evP, evX, evR, blkOf, evA, storeA, Nat.reduceEqDiff, resL, resV, oneOrTup, Int.reduceEq, Int.reduceLT, Int.reduceLE, Int.reduceNeg, Int.reduceAdd, Int.reduceSub, Int.reduceMul, Int.reduceToNat, Nat.reduceAdd, noUnk, AV.cells, reduceCtorEq, Nat.reduceLeDiff, Cells.get, Cells.getN, Nat.reduceMul, ↓bnd_assoc]) (by simp only [a3, ↓sxp, sxq, ↓reduceIte, Nat.reduceBEq, Nat.reduceLT, evP, evX, evR, blkOf, evA, storeA, Nat.reduceEqDiff, resL, resV, oneOrTup, Int.reduceEq, Int.reduceLT, Int.reduceLE, Int.reduceNeg, Int.reduceAdd, Int.reduceSub, Int.reduceMul, Int.reduceToNat, Nat.reduceAdd, noUnk, AV.cells, reduceCtorEq, Nat.reduceLeDiff, Cells.get, Cells.getN, Nat.reduceMul, ↓bnd_assoc]) (by simp only [a11, ↓sxp, sxq, ↓reduceIte, Nat.reduceBEq, Nat.reduceLT, evP, evX, evR, blkOf, evA, storeA, Nat.reduceEqDiff, resL, resV, oneOrTup, Int.reduceEq, Int.reduceLT, Int.reduceLE, Int.reduceNeg, Int.reduceAdd, Int.reduceSub, Int.reduceMul, Int.reduceToNat, Nat.reduceAdd, noUnk, AV.cells, reduceCtorEq, Nat.reduceLeDiff, Cells.get, Cells.getN, Nat.reduceMul, ↓bnd_assoc]) (by simp only [↓sxp, sxq, ↓reduceIte, Nat.reduceBEq, Nat.reduceLT, evP, evX, evR, blkOf, evA, storeA, Nat.reduceEqDiff, resL, resV, oneOrTup, Int.reduceEq, Int.reduceLT, Int.reduceLE, Int.reduceNeg, Int.reduceAdd, Int.reduceSub, Int.reduceMul, Int.reduceToNat, Nat.reduceAdd, noUnk, AV.cells, reduceCtorEq, Nat.reduceLeDiff, Cells.get, Cells.getN, Nat.reduceMul, ↓bnd_assoc]) h) fun lv A' H' ⟨e1, e2, e3, e4⟩ => ⟨e1, e2, by simpa using e3, by simpa using e4⟩
    · exact loop_mono (ih (i + 1) _ _ c (d + 1) (by omega) (by omega) (by omega) (by simp only [a0, ↓sxp, sxq, ↓reduceIte, Nat.reduceBEq, Nat.reduceLT, evP, evX, evR, blkOf, evA, storeA, Nat.reduceEqDiff, resL, resV, oneOrTup, Int.reduceEq, Int.reduceLT, Int.reduceLE, Int.reduceNeg, Int.reduceAdd, Int.reduceSub, Int.reduceMul, Int.reduceToNat, Nat.reduceAdd, noUnk, AV.cells, reduceCtorEq, Nat.reduceLeDiff, Cells.get, Cells.getN, Nat.reduceMul, ↓bnd_assoc]) (by simp only [a2, ↓sxp, sxq, ↓reduceIte, Nat.reduceBEq, Nat.reduceLT, evP, evX, evR, blkOf, evA, storeA, Nat.reduceEqDiff, resL, resV, oneOrTup, Int.reduceEq, Int.reduceLT, Int.reduceLE, Int.reduceNeg, Int.reduceAdd, Int.reduceSub, Int.reduceMul, Int.reduceToNat, Nat.reduceAdd, noUnk, AV.cells, reduceCtorEq, Nat.reduceLeDiff, Cells.get, Cells.getN, Nat.reduceMul, ↓bnd_assoc]) (by simp only [↓sxp, sxq, ↓reduceIte, Nat.reduceBEq, Nat.reduceLT, evP, evX, evR, blkOf, evA, storeA, Nat.reduceEqDiff, resL, resV, oneOrTup, Int.reduceEq, Int.reduceLT, Int.reduceLE, Int.reduceNeg, Int.reduceAdd, Int.reduceSub, Int.reduceMul, Int.reduceToNat, Nat.reduceAdd, noUnk, AV.cells, reduceCtorEq, Nat.reduceLeDiff, Cells.get, Cells.getN, Nat.reduceMul, ↓bnd_assoc]) (by simp only [a11, ↓sxp, sxq, ↓reduceIte, Nat.reduceBEq, Nat.reduceLT, evP, evX, evR, blkOf, evA, storeA, Nat.reduceEqDiff, resL, resV, oneOrTup, Int.reduceEq, Int.reduceLT, Int.reduceLE, Int.reduceNeg, Int.reduceAdd, Int.reduceSub, Int.reduceMul, Int.reduceToNat, Nat.reduceAdd, noUnk, AV.cells, reduceCtorEq, Nat.reduceLeDiff, Cells.get, Cells.getN, Nat.reduceMul, ↓bnd_assoc]) (by simp only [↓sxp, sxq, ↓reduceIte, Nat.reduceBEq, Nat.reduceLT, evP, evX, evR, blkOf, evA, storeA, Nat.reduceEqDiff, resL, resV, oneOrTup, Int.reduceEq, Int.reduceLT, Int.reduceLE, Int.reduceNeg, Int.reduceAdd, Int.reduceSub, Int.reduceMul, Int.reduceToNat, Nat.reduceAdd, noUnk, AV.cells, reduceCtorEq, Nat.reduceLeDiff, Cells.get, Cells.getN, Nat.reduceMul, ↓bnd_assoc]) h) fun lv A' H' ⟨e1, e2, e3, e4⟩ => ⟨e1, e2, by simpa using e3, by simpa [Nat.add_assoc] using e4⟩
    · exact loop_mono (ih (i + 1) _ _ (c + 1) d (by omega) (by omega) (by omega) (by simp only [a0, ↓sxp, sxq, ↓reduceIte, Nat.reduceBEq, Nat.reduceLT, evP, evX, evR, blkOf, evA, storeA, Nat.reduceEqDiff, resL, resV, oneOrTup, Int.reduceEq, Int.reduceLT, Int.reduceLE, Int.reduceNeg, Int.reduceAdd, Int.reduceSub, Int.reduceMul, Int.reduceToNat, Nat.reduceAdd, noUnk, AV.cells, reduceCtorEq, Nat.reduceLeDiff, Cells.get, Cells.getN, Nat.reduceMul, ↓bnd_assoc]) (by simp only [↓sxp, sxq, ↓reduceIte, Nat.reduceBEq, Nat.reduceLT, evP, evX, evR, blkOf, evA, storeA, Nat.reduceEqDiff, resL, resV, oneOrTup, Int.reduceEq, Int.reduceLT, Int.reduceLE, Int.reduceNeg, Int.reduceAdd, Int.reduceSub, Int.reduceMul, Int.reduceToNat, Nat.reduceAdd, noUnk, AV.cells, reduceCtorEq, Nat.reduceLeDiff, Cells.get, Cells.getN, Nat.reduceMul, ↓bnd_assoc]) (by simp only [a3, ↓sxp, sxq, ↓reduceIte, Nat.reduceBEq, Nat.reduceLT, evP, evX, evR, blkOf, evA, storeA, Nat.reduceEqDiff, resL, resV, oneOrTup, Int.reduceEq, Int.reduceLT, Int.reduceLE, Int.reduceNeg, Int.reduceAdd, Int.reduceSub, Int.reduceMul, Int.reduceToNat, Nat.reduceAdd, noUnk, AV.cells, reduceCtorEq, Nat.reduceLeDiff, Cells.get, Cells.getN, Nat.reduceMul, ↓bnd_assoc]) (by simp only [a11, ↓sxp, sxq, ↓reduceIte, Nat.reduceBEq, Nat.reduceLT, evP, evX, evR, blkOf, evA, storeA, Nat.reduceEqDiff, resL, resV, oneOrTup, Int.reduceEq, Int.reduceLT, Int.reduceLE, Int.reduceNeg, Int.reduceAdd, Int.reduceSub, Int.reduceMul, Int.reduceToNat, Nat.reduceAdd, noUnk, AV.cells, reduceCtorEq, Nat.reduceLeDiff, Cells.get, Cells.getN, Nat.reduceMul, ↓bnd_assoc]) (by simp only [↓sxp, sxq, ↓reduceIte, Nat.reduceBEq, Nat.reduceLT, evP, evX, evR, blkOf, evA, storeA, Nat.reduceEqDiff, resL, resV, oneOrTup, Int.reduceEq, Int.reduceLT, Int.reduceLE, Int.reduceNeg, Int.reduceAdd, Int.reduceSub, Int.reduceMul, Int.reduceToNat, Nat.reduceAdd, noUnk, AV.cells, reduceCtorEq, Nat.reduceLeDiff, Cells.get, Cells.getN, Nat.reduceMul, ↓bnd_assoc]) h) fun lv A' H' ⟨e1, e2, e3, e4⟩ => ⟨e1, e2, by simpa [Nat.add_assoc] using e3, by simpa using e4⟩
    · exact loop_mono (ih (i + 1) _ _ (c + 1) (d + 1) (by omega) (by omega) (by omega) (by simp only [a0, ↓sxp, sxq, ↓reduceIte, Nat.reduceBEq, Nat.reduceLT, evP, evX, evR, blkOf, evA, storeA, Nat.reduceEqDiff, resL, resV, oneOrTup, Int.reduceEq, Int.reduceLT, Int.reduceLE, Int.reduceNeg, Int.reduceAdd, Int.reduceSub, Int.reduceMul, Int.reduceToNat, Nat.reduceAdd, noUnk, AV.cells, reduceCtorEq, Nat.reduceLeDiff, Cells.get, Cells.getN, Nat.reduceMul, ↓bnd_assoc]) (by simp only [↓sxp, sxq, ↓reduceIte, Nat.reduceBEq, Nat.reduceLT, evP, evX, evR, blkOf, evA, storeA, Nat.reduceEqDiff, resL, resV, oneOrTup, Int.reduceEq, Int.reduceLT, Int.reduceLE, Int.reduceNeg, Int.reduceAdd, Int.reduceSub, Int.reduceMul, Int.reduceToNat, Nat.reduceAdd, noUnk, AV.cells, reduceCtorEq, Nat.reduceLeDiff, Cells.get, Cells.getN, Nat.reduceMul, ↓bnd_assoc]) (by simp only [↓sxp, sxq, ↓reduceIte, Nat.reduceBEq, Nat.reduceLT, evP, evX, evR, blkOf, evA, storeA, Nat.reduceEqDiff, resL, resV, oneOrTup, Int.reduceEq, Int.reduceLT, Int.reduceLE, Int.reduceNeg, Int.reduceAdd, Int.reduceSub, Int.reduceMul, Int.reduceToNat, Nat.reduceAdd, noUnk, AV.cells, reduceCtorEq, Nat.reduceLeDiff, Cells.get, Cells.getN, Nat.reduceMul, ↓bnd_assoc]) (by simp only [a11, ↓sxp, sxq, ↓reduceIte, Nat.reduceBEq, Nat.reduceLT, evP, evX, evR, blkOf, evA, storeA, Nat.reduceEqDiff, resL, resV, oneOrTup, Int.reduceEq, Int.reduceLT, Int.reduceLE, Int.reduceNeg, Int.reduceAdd, Int.reduceSub, Int.reduceMul, Int.reduceToNat, Nat.reduceAdd, noUnk, AV.cells, reduceCtorEq, Nat.reduceLeDiff, Cells.get, Cells.getN, Nat.reduceMul, ↓bnd_assoc]) (by simp only [↓sxp, sxq, ↓reduceIte, Nat.reduceBEq, Nat.reduceLT, evP, evX, evR, blkOf, evA, storeA, Nat.reduceEqDiff, resL, resV, oneOrTup, Int.reduceEq, Int.reduceLT, Int.reduceLE, Int.reduceNeg, Int.reduceAdd, Int.reduceSub, Int.reduceMul, Int.reduceToNat, Nat.reduceAdd, noUnk, AV.cells, reduceCtorEq, Nat.reduceLeDiff, Cells.get, Cells.getN, Nat.reduceMul, ↓bnd_assoc]) h) fun lv A' H' ⟨e1, e2, e3, e4⟩ => ⟨e1, e2, by simpa [Nat.add_assoc] using e3, by simpa [Nat.add_assoc] using e4⟩
theorem k_count (hE : EnvK E) {k : Nat} {L : List T3} {hs ms : List Bool} {vl : AV} {jh jm : Nat} (h : Holds H (knI k L hs ms vl jh jm :: Γ)) (hb : L.length < 65536) :
    go W E 30 [.ptr (some ⟨.own k, 0⟩)] H = some (.tup [.int .i64 (cnt hs), .int .i64 (cnt ms)], H) := by
  obtain ⟨l1, l2, h1⟩ := knI_open h
  obtain ⟨al, cl, rfl⟩ := (h1.ord [1]).row_len (by omega) (n := L.length) (flat3_len _)
  have gk := h1.get
  suffices hh : Fin (fun r : AV × Heap => r = (.tup [.int .i64 (cnt hs), .int .i64 (cnt ms)], H)) (go W E 30 [.ptr (some ⟨.own k, 0⟩)] H) by
    obtain ⟨r, e, rfl⟩ := hh
    exact e
  rw [go_code hE.f30 (by simp [sf30])]
  simp only [sf30, ↓gk, ↓sxp, sxq, ↓reduceIte, Nat.reduceBEq, Nat.reduceLT, evP, evX, evR, blkOf, evA, storeA, Nat.reduceEqDiff, resL, resV, oneOrTup, Int.reduceEq, Int.reduceLT, Int.reduceLE, Int.reduceNeg, Int.reduceAdd, Int.reduceSub, Int.reduceMul, Int.reduceToNat, Nat.reduceAdd, noUnk, AV.cells, reduceCtorEq, Nat.reduceLeDiff, Cells.get, Cells.getN, Nat.reduceMul, ↓bnd_assoc]
  refine Fin.loop (count_loop hE hb L.length 0 _ _ 0 0 (by omega) (by omega) (by omega) (by simp only [↓sxp, sxq, ↓reduceIte, Nat.reduceBEq, Nat.reduceLT, evP, evX, evR, blkOf, evA, storeA, Nat.reduceEqDiff, resL, resV, oneOrTup, Int.reduceEq, Int.reduceLT, Int.reduceLE, Int.reduceNeg, Int.reduceAdd, Int.reduceSub, Int.reduceMul, Int.reduceToNat, Nat.reduceAdd, noUnk, AV.cells, reduceCtorEq, Nat.reduceLeDiff, Cells.get, Cells.getN, Nat.reduceMul, ↓bnd_assoc]) (by simp only [↓sxp, sxq, ↓reduceIte, Nat.reduceBEq, Nat.reduceLT, evP, evX, evR, blkOf, evA, storeA, Nat.reduceEqDiff, resL, resV, oneOrTup, Int.reduceEq, Int.reduceLT, Int.reduceLE, Int.reduceNeg, Int.reduceAdd, Int.reduceSub, Int.reduceMul, Int.reduceToNat, Nat.reduceAdd, noUnk, AV.cells, reduceCtorEq, Nat.reduceLeDiff, Cells.get, Cells.getN, Nat.reduceMul, ↓bnd_assoc]; rfl) (by simp only [↓sxp, sxq, ↓reduceIte, Nat.reduceBEq, Nat.reduceLT, evP, evX, evR, blkOf, evA, storeA, Nat.reduceEqDiff, resL, resV, oneOrTup, Int.reduceEq, Int.reduceLT, Int.reduceLE, Int.reduceNeg, Int.reduceAdd, Int.reduceSub, Int.reduceMul, Int.reduceToNat, Nat.reduceAdd, noUnk, AV.cells, reduceCtorEq, Nat.reduceLeDiff, Cells.get, Cells.getN, Nat.reduceMul, ↓bnd_assoc]; rfl) (by simp only [↓sxp, sxq, ↓reduceIte, Nat.reduceBEq, Nat.reduceLT, evP, evX, evR, blkOf, evA, storeA, Nat.reduceEqDiff, resL, resV, oneOrTup, Int.reduceEq, Int.reduceLT, Int.reduceLE, Int.reduceNeg, Int.reduceAdd, Int.reduceSub, Int.reduceMul, Int.reduceToNat, Nat.reduceAdd, noUnk, AV.cells, reduceCtorEq, Nat.reduceLeDiff, Cells.get, Cells.getN, Nat.reduceMul, ↓bnd_assoc]) (by simp only [↓sxp, sxq, ↓reduceIte, Nat.reduceBEq, Nat.reduceLT, evP, evX, evR, blkOf, evA, storeA, Nat.reduceEqDiff, resL, resV, oneOrTup, Int.reduceEq, Int.reduceLT, Int.reduceLE, Int.reduceNeg, Int.reduceAdd, Int.reduceSub, Int.reduceMul, Int.reduceToNat, Nat.reduceAdd, noUnk, AV.cells, reduceCtorEq, Nat.reduceLeDiff, Cells.get, Cells.getN, Nat.reduceMul, ↓bnd_assoc]; rfl) h) fun lv A' H' ⟨e1, e2, e3, e4⟩ => ?_
  subst e1 e2
  rw [List.drop_zero, Nat.zero_add] at e3 e4
  simp only [e3, e4, ↓sxp, sxq, ↓reduceIte, Nat.reduceBEq, Nat.reduceLT, evP, evX, evR, blkOf, evA, storeA, Nat.reduceEqDiff, resL, resV, oneOrTup, Int.reduceEq, Int.reduceLT, Int.reduceLE, Int.reduceNeg, Int.reduceAdd, Int.reduceSub, Int.reduceMul, Int.reduceToNat, Nat.reduceAdd, noUnk, AV.cells, reduceCtorEq, Nat.reduceLeDiff, Cells.get, Cells.getN, Nat.reduceMul, ↓bnd_assoc]
  exact Fin.ret rfl
end
end Go.Proofs.Ytnfehkjkmlbceaa.Sx

/- List, Ints, right, Opens. -/
namespace Go.Proofs.Ytnfehkjkmlbceaa.Sx
open HP
section
variable {W : World} {E : Env} {H : Heap} {Γ : List HP}
/-- The numbers at which it is true, from number i on. -/
def lstF : Nat → List Bool → List Int
  | _, [] => []
  | i, b :: bs => if b then (i : Int) :: lstF (i + 1) bs else lstF (i + 1) bs
theorem lstF_len : ∀ (l : List Bool) (i : Nat), (lstF i l).length = cnt l := by
  intro l
  induction l with
  | nil => intro i; rfl
  | cons b l ih => intro i; rw [lstF, cnt_cons]; cases b <;> simp [ih]; omega
abbrev lstK (hs : List Bool) : List Int := lstF 0 hs
theorem ints_len (l : List Int) : (ints l).length = l.length * 1 := by simp
theorem list_loop (hE : EnvK E) {k : Nat} {L : List T3} {hs ms : List Bool} {vl : AV} {jh jm : Nat} {df : List Nat} (hb : L.length < 65536) : ∀ (m i : Nat) (A : Tm) (H : Heap) (l : List Int) (v : AV), i + m = L.length → l.length ≤ i → getX A 3 = v → getX A 11 = .sl (some ⟨.own jh, 0⟩) L.length (.exact L.length) → getX A 12 = .int .i64 L.length → getX A 13 = .int .i64 i → Holds H (row 3 1 (ints l) v :: knI k L hs ms vl jh jm :: Γ) →
    ∃ lv A' H', run W E (.loop lp32_0) ⟨A, df, none⟩ H = some (lv, ⟨A', df, none⟩, H') ∧ (lv = .exit 0 ∧ ∃ v', getX A' 3 = v' ∧ Holds H' (row 3 1 (ints (l ++ lstF i (hs.drop i))) v' :: knI k L hs ms vl jh jm :: Γ)) := by
  have hlp : ∀ f H, run W E lp32_0 f H = run W E lp32_0 f H := fun _ _ => rfl
  conv at hlp => enter [f, H, 2]; unfold lp32_0
  intro m
  induction m with
  | zero =>
    intro i A H l v him hl a3 a11 a12 a13 h
    obtain ⟨l1, l2, _⟩ := knI_open (h.ord [1])
    have : i = L.length := by omega
    subst this
    have hlt : ¬ (L.length : Int) < L.length := by omega
    rw [run_loop]
    simp only [hlp, a12, a13, hlt, ↓sxp, sxq, ↓reduceIte, Nat.reduceBEq, Nat.reduceLT, evP, evX, evR, blkOf, evA, storeA, Nat.reduceEqDiff, resL, resV, oneOrTup, Int.reduceEq, Int.reduceLT, Int.reduceLE, Int.reduceNeg, Int.reduceAdd, Int.reduceSub, Int.reduceMul, Int.reduceToNat, Nat.reduceAdd, noUnk, AV.cells, reduceCtorEq, Nat.reduceLeDiff, Cells.get, Cells.getN, Nat.reduceMul, ↓bnd_assoc]
    refine ⟨_, _, _, rfl, rfl, v, by simp only [a3, ↓sxp, sxq, ↓reduceIte, Nat.reduceBEq, Nat.reduceLT, evP, evX, evR, blkOf, evA, storeA, Nat.reduceEqDiff, resL, resV, oneOrTup, Int.reduceEq, Int.reduceLT, Int.reduceLE, Int.reduceNeg, Int.reduceAdd, Int.reduceSub, Int.reduceMul, Int.reduceToNat, Nat.reduceAdd, noUnk, AV.cells, reduceCtorEq, Nat.reduceLeDiff, Cells.get, Cells.getN, Nat.reduceMul, ↓bnd_assoc], ?_⟩
    rw [List.drop_of_length_le (by omega), lstF, List.append_nil]; exact h
  | succ m ih =>
    intro i A H l v him hl a3 a11 a12 a13 h
    obtain ⟨l1, l2, h1⟩ := knI_open (h.ord [1])
    have hlt : (i : Int) < L.length := by omega
    have hi0 : (0 : Int) ≤ i ∧ (i : Int) < L.length := by omega
    have hwr : IntKind.i64.wrap ((i : Int) + 1) = ((i + 1 : Nat) : Int) := by rw [w64 (by omega)]; simp
    have gh := (h1.ord [2]).get
    have xh : (bls hs)[i]? = some (.bool hs[i]) := by simp [List.getElem?_eq_getElem (show i < hs.length by omega)]
    rw [List.drop_eq_getElem_cons (show i < hs.length by omega), lstF]
    apply Fin.ex3
    rw [run_loop]
    cases hc : hs[i] with
    | false =>
      rw [hc] at xh
      simp only [hlp, a3, a11, a12, a13, hlt, hi0, and_self, ↓gh, xh, hwr, Int.toNat_natCast, ↓sxp, sxq, ↓reduceIte, Nat.reduceBEq, Nat.reduceLT, evP, evX, evR, blkOf, evA, storeA, Nat.reduceEqDiff, resL, resV, oneOrTup, Int.reduceEq, Int.reduceLT, Int.reduceLE, Int.reduceNeg, Int.reduceAdd, Int.reduceSub, Int.reduceMul, Int.reduceToNat, Nat.reduceAdd, noUnk, AV.cells, reduceCtorEq, Nat.reduceLeDiff, Cells.get, Cells.getN, Nat.reduceMul, ↓bnd_assoc]
      exact Fin.of3 (ih (i + 1) _ _ l v (by omega) (by omega) (by simp only [a3, ↓sxp, sxq, ↓reduceIte, Nat.reduceBEq, Nat.reduceLT, evP, evX, evR, blkOf, evA, storeA, Nat.reduceEqDiff, resL, resV, oneOrTup, Int.reduceEq, Int.reduceLT, Int.reduceLE, Int.reduceNeg, Int.reduceAdd, Int.reduceSub, Int.reduceMul, Int.reduceToNat, Nat.reduceAdd, noUnk, AV.cells, reduceCtorEq, Nat.reduceLeDiff, Cells.get, Cells.getN, Nat.reduceMul, ↓bnd_assoc]) (by simp only [a11, ↓sxp, sxq, ↓reduceIte, Nat.reduceBEq, Nat.reduceLT, evP, evX, evR, blkOf, evA, storeA, Nat.reduceEqDiff, resL, resV, oneOrTup, Int.reduceEq, Int.reduceLT, Int.reduceLE, Int.reduceNeg, Int.reduceAdd, Int.reduceSub, Int.reduceMul, Int.reduceToNat, Nat.reduceAdd, noUnk, AV.cells, reduceCtorEq, Nat.reduceLeDiff, Cells.get, Cells.getN, Nat.reduceMul, ↓bnd_assoc]) (by simp only [a12, ↓sxp, sxq, ↓reduceIte, Nat.reduceBEq, Nat.reduceLT, evP, evX, evR, blkOf, evA, storeA, Nat.reduceEqDiff, resL, resV, oneOrTup, Int.reduceEq, Int.reduceLT, Int.reduceLE, Int.reduceNeg, Int.reduceAdd, Int.reduceSub, Int.reduceMul, Int.reduceToNat, Nat.reduceAdd, noUnk, AV.cells, reduceCtorEq, Nat.reduceLeDiff, Cells.get, Cells.getN, Nat.reduceMul, ↓bnd_assoc]) (by simp only [↓sxp, sxq, ↓reduceIte, Nat.reduceBEq, Nat.reduceLT, evP, evX, evR, blkOf, evA, storeA, Nat.reduceEqDiff, resL, resV, oneOrTup, Int.reduceEq, Int.reduceLT, Int.reduceLE, Int.reduceNeg, Int.reduceAdd, Int.reduceSub, Int.reduceMul, Int.reduceToNat, Nat.reduceAdd, noUnk, AV.cells, reduceCtorEq, Nat.reduceLeDiff, Cells.get, Cells.getN, Nat.reduceMul, ↓bnd_assoc]) h) fun _ _ _ h => h
    | true =>
      rw [hc] at xh
      have h2 := h.push (c := [.int .i64 (i : Int)]) (t := 3)
      have g2 := h2.get
      simp only [hlp, a3, a11, a12, a13, hlt, hi0, and_self, ↓gh, xh, hwr, Int.toNat_natCast, ↓sxp, sxq, ↓reduceIte, Nat.reduceBEq, Nat.reduceLT, evP, evX, evR, blkOf, evA, storeA, Nat.reduceEqDiff, resL, resV, oneOrTup, Int.reduceEq, Int.reduceLT, Int.reduceLE, Int.reduceNeg, Int.reduceAdd, Int.reduceSub, Int.reduceMul, Int.reduceToNat, Nat.reduceAdd, noUnk, AV.cells, reduceCtorEq, Nat.reduceLeDiff, Cells.get, Cells.getN, Nat.reduceMul, ↓bnd_assoc]
      refine Fin.app (h2.ord [1]) (by omega) (by simp only [srcA, blkOf, g2, Nat.one_mul]; rfl) (by omega) (new := [.int .i64 (i : Int)]) (n := l.length) rfl rfl (ints_len l) (by omega) fun v' H3 h3 => ?_
      simp only [a13, hwr, ↓sxp, sxq, ↓reduceIte, Nat.reduceBEq, Nat.reduceLT, evP, evX, evR, blkOf, evA, storeA, Nat.reduceEqDiff, resL, resV, oneOrTup, Int.reduceEq, Int.reduceLT, Int.reduceLE, Int.reduceNeg, Int.reduceAdd, Int.reduceSub, Int.reduceMul, Int.reduceToNat, Nat.reduceAdd, noUnk, AV.cells, reduceCtorEq, Nat.reduceLeDiff, Cells.get, Cells.getN, Nat.reduceMul, ↓bnd_assoc]
      have h4 : Holds H3 (row 3 1 (ints (l ++ [(i : Int)])) v' :: knI k L hs ms vl jh jm :: Γ) := by
        have := h3.rm 1
        simp only [ints, List.map_append, List.map_cons, List.map_nil]; exact this
      exact Fin.of3 (ih (i + 1) _ _ (l ++ [(i : Int)]) v' (by omega) (by simp; omega) (by simp only [↓sxp, sxq, ↓reduceIte, Nat.reduceBEq, Nat.reduceLT, evP, evX, evR, blkOf, evA, storeA, Nat.reduceEqDiff, resL, resV, oneOrTup, Int.reduceEq, Int.reduceLT, Int.reduceLE, Int.reduceNeg, Int.reduceAdd, Int.reduceSub, Int.reduceMul, Int.reduceToNat, Nat.reduceAdd, noUnk, AV.cells, reduceCtorEq, Nat.reduceLeDiff, Cells.get, Cells.getN, Nat.reduceMul, ↓bnd_assoc]) (by simp only [a11, ↓sxp, sxq, ↓reduceIte, Nat.reduceBEq, Nat.reduceLT, evP, evX, evR, blkOf, evA, storeA, Nat.reduceEqDiff, resL, resV, oneOrTup, Int.reduceEq, Int.reduceLT, Int.reduceLE, Int.reduceNeg, Int.reduceAdd, Int.reduceSub, Int.reduceMul, Int.reduceToNat, Nat.reduceAdd, noUnk, AV.cells, reduceCtorEq, Nat.reduceLeDiff, Cells.get, Cells.getN, Nat.reduceMul, ↓bnd_assoc]) (by simp only [a12, ↓sxp, sxq, ↓reduceIte, Nat.reduceBEq, Nat.reduceLT, evP, evX, evR, blkOf, evA, storeA, Nat.reduceEqDiff, resL, resV, oneOrTup, Int.reduceEq, Int.reduceLT, Int.reduceLE, Int.reduceNeg, Int.reduceAdd, Int.reduceSub, Int.reduceMul, Int.reduceToNat, Nat.reduceAdd, noUnk, AV.cells, reduceCtorEq, Nat.reduceLeDiff, Cells.get, Cells.getN, Nat.reduceMul, ↓bnd_assoc]) (by simp only [↓sxp, sxq, ↓reduceIte, Nat.reduceBEq, Nat.reduceLT, evP, evX, evR, blkOf, evA, storeA, Nat.reduceEqDiff, resL, resV, oneOrTup, Int.reduceEq, Int.reduceLT, Int.reduceLE, Int.reduceNeg, Int.reduceAdd, Int.reduceSub, Int.reduceMul, Int.reduceToNat, Nat.reduceAdd, noUnk, AV.cells, reduceCtorEq, Nat.reduceLeDiff, Cells.get, Cells.getN, Nat.reduceMul, ↓bnd_assoc]) h4) fun lv A' H' ⟨e1, v2, e2, e3⟩ => ⟨e1, v2, e2, by simpa using e3⟩
theorem row_is {l : List Int} {v : AV} (h : Holds H (row 3 1 (ints l) v :: Γ)) : Holds H (isP W l v :: Γ) := h.imp fun fp hr => by
  show Is W H l v fp
  have hr : Row H 3 1 (ints l) v fp := hr
  generalize hf : ints l = f at hr
  cases hr with
  | nil =>
    have : l = [] := by simpa [ints] using hf
    exact .nil this
  | mk h0 hl hg hln =>
    rename_i j k fl len
    subst hf
    have : len = l.length := by simp at hl; omega
    subst this
    exact .row _ _ _ _ hg
theorem k_list (hE : EnvK E) {k : Nat} {L : List T3} {hs ms : List Bool} {vl : AV} {jh jm : Nat} (h : Holds H (knI k L hs ms vl jh jm :: Γ)) (hb : L.length < 65536) :
    ∃ v H', go W E 32 [.ptr (some ⟨.own k, 0⟩)] H = some (v, H') ∧ Holds H' (isP W (lstK hs) v :: knI k L hs ms vl jh jm :: Γ) := by
  obtain ⟨l1, l2, h1⟩ := knI_open h
  have gk := h1.get
  suffices hh : Fin (fun r : AV × Heap => Holds r.2 (isP W (lstK hs) r.1 :: knI k L hs ms vl jh jm :: Γ)) (go W E 32 [.ptr (some ⟨.own k, 0⟩)] H) by
    obtain ⟨r, e, hr⟩ := hh
    exact ⟨r.1, r.2, e, hr⟩
  rw [go_code hE.f32 (by simp [sf32])]
  simp only [sf32, ↓gk, ↓sxp, sxq, ↓reduceIte, Nat.reduceBEq, Nat.reduceLT, evP, evX, evR, blkOf, evA, storeA, Nat.reduceEqDiff, resL, resV, oneOrTup, Int.reduceEq, Int.reduceLT, Int.reduceLE, Int.reduceNeg, Int.reduceAdd, Int.reduceSub, Int.reduceMul, Int.reduceToNat, Nat.reduceAdd, noUnk, AV.cells, reduceCtorEq, Nat.reduceLeDiff, Cells.get, Cells.getN, Nat.reduceMul, ↓bnd_assoc]
  refine Fin.loop (list_loop hE hb L.length 0 _ _ [] (.sl none 0 (.exact 0)) (by omega) (by simp) (by simp only [↓sxp, sxq, ↓reduceIte, Nat.reduceBEq, Nat.reduceLT, evP, evX, evR, blkOf, evA, storeA, Nat.reduceEqDiff, resL, resV, oneOrTup, Int.reduceEq, Int.reduceLT, Int.reduceLE, Int.reduceNeg, Int.reduceAdd, Int.reduceSub, Int.reduceMul, Int.reduceToNat, Nat.reduceAdd, noUnk, AV.cells, reduceCtorEq, Nat.reduceLeDiff, Cells.get, Cells.getN, Nat.reduceMul, ↓bnd_assoc]) (by simp only [↓sxp, sxq, ↓reduceIte, Nat.reduceBEq, Nat.reduceLT, evP, evX, evR, blkOf, evA, storeA, Nat.reduceEqDiff, resL, resV, oneOrTup, Int.reduceEq, Int.reduceLT, Int.reduceLE, Int.reduceNeg, Int.reduceAdd, Int.reduceSub, Int.reduceMul, Int.reduceToNat, Nat.reduceAdd, noUnk, AV.cells, reduceCtorEq, Nat.reduceLeDiff, Cells.get, Cells.getN, Nat.reduceMul, ↓bnd_assoc]) (by simp only [↓sxp, sxq, ↓reduceIte, Nat.reduceBEq, Nat.reduceLT, evP, evX, evR, blkOf, evA, storeA, Nat.reduceEqDiff, resL, resV, oneOrTup, Int.reduceEq, Int.reduceLT, Int.reduceLE, Int.reduceNeg, Int.reduceAdd, Int.reduceSub, Int.reduceMul, Int.reduceToNat, Nat.reduceAdd, noUnk, AV.cells, reduceCtorEq, Nat.reduceLeDiff, Cells.get, Cells.getN, Nat.reduceMul, ↓bnd_assoc]) (by simp only [↓sxp, sxq, ↓reduceIte, Nat.reduceBEq, Nat.reduceLT, evP, evX, evR, blkOf, evA, storeA, Nat.reduceEqDiff, resL, resV, oneOrTup, Int.reduceEq, Int.reduceLT, Int.reduceLE, Int.reduceNeg, Int.reduceAdd, Int.reduceSub, Int.reduceMul, Int.reduceToNat, Nat.reduceAdd, noUnk, AV.cells, reduceCtorEq, Nat.reduceLeDiff, Cells.get, Cells.getN, Nat.reduceMul, ↓bnd_assoc]; rfl) h.row_nil) fun lv A' H' ⟨e1, v', e2, e3⟩ => ?_
  subst e1
  rw [List.drop_zero, List.nil_append] at e3
  simp only [e2, ↓sxp, sxq, ↓reduceIte, Nat.reduceBEq, Nat.reduceLT, evP, evX, evR, blkOf, evA, storeA, Nat.reduceEqDiff, resL, resV, oneOrTup, Int.reduceEq, Int.reduceLT, Int.reduceLE, Int.reduceNeg, Int.reduceAdd, Int.reduceSub, Int.reduceMul, Int.reduceToNat, Nat.reduceAdd, noUnk, AV.cells, reduceCtorEq, Nat.reduceLeDiff, Cells.get, Cells.getN, Nat.reduceMul, ↓bnd_assoc]
  exact Fin.ret (row_is e3)
theorem ints_loop (hE : EnvK E) {a b : List Int} {va vb : AV} {df : List Nat} (hab : a.length = b.length) (hl : a.length < 65536) : ∀ (m i : Nat) (A : Tm) (H : Heap), i + m = a.length → getX A 0 = va → getX A 1 = vb → getX A 5 = .int .i64 i → Holds H (isP W a va :: isP W b vb :: Γ) →
    ∃ lv A' H', run W E (.loop lp31_0) ⟨A, df, none⟩ H = some (lv, ⟨A', df, none⟩, H') ∧ (Holds H' (isP W a va :: isP W b vb :: Γ) ∧ ((lv = .exit 0 ∧ a.drop i = b.drop i) ∨ (lv = .ret ∧ a.drop i ≠ b.drop i ∧ getX A' 4 = .bool false))) := by
  have hlp : ∀ f H, run W E lp31_0 f H = run W E lp31_0 f H := fun _ _ => rfl
  conv at hlp => enter [f, H, 2]; unfold lp31_0
  intro m
  induction m with
  | zero =>
    intro i A H him a0 a1 a5 h
    obtain ⟨ids, ha⟩ := h.is_get
    have hla := ha.len
    have : i = a.length := by omega
    subst this
    have hlt : ¬ (a.length : Int) < a.length := by omega
    rw [run_loop]
    simp only [hlp, a0, a1, a5, hla, hlt, ↓sxp, sxq, ↓reduceIte, Nat.reduceBEq, Nat.reduceLT, evP, evX, evR, blkOf, evA, storeA, Nat.reduceEqDiff, resL, resV, oneOrTup, Int.reduceEq, Int.reduceLT, Int.reduceLE, Int.reduceNeg, Int.reduceAdd, Int.reduceSub, Int.reduceMul, Int.reduceToNat, Nat.reduceAdd, noUnk, AV.cells, reduceCtorEq, Nat.reduceLeDiff, Cells.get, Cells.getN, Nat.reduceMul, ↓bnd_assoc]
    exact ⟨_, _, _, rfl, h, .inl ⟨rfl, by rw [List.drop_of_length_le (by omega), List.drop_of_length_le (by omega)]⟩⟩
  | succ m ih =>
    intro i A H him a0 a1 a5 h
    have hB := h.bump 9
    obtain ⟨ids, ha⟩ := h.is_get
    have hla := ha.len
    have hlt : (i : Int) < a.length := by omega
    have hwr : IntKind.i64.wrap ((i : Int) + 1) = ((i + 1 : Nat) : Int) := by rw [w64 (by omega)]; simp
    obtain ⟨idb, hba⟩ := hB.is_get
    obtain ⟨idc, hbb⟩ := (hB.ord [1]).is_get
    obtain ⟨p, e1, e2⟩ := hba.at (i := i) (by omega)
    obtain ⟨q, e3, e4⟩ := hbb.at (i := i) (by omega)
    rw [run_loop, List.drop_eq_getElem_cons (show i < a.length by omega), List.drop_eq_getElem_cons (show i < b.length by omega)]
    generalize a[i] = x at *
    generalize b[i] = y at *
    by_cases hc : x = y
    · subst hc
      simp only [hlp, a0, a1, a5, hla, hlt, e1, e2, e3, e4, hwr, ↓sxp, sxq, ↓reduceIte, Nat.reduceBEq, Nat.reduceLT, evP, evX, evR, blkOf, evA, storeA, Nat.reduceEqDiff, resL, resV, oneOrTup, Int.reduceEq, Int.reduceLT, Int.reduceLE, Int.reduceNeg, Int.reduceAdd, Int.reduceSub, Int.reduceMul, Int.reduceToNat, Nat.reduceAdd, noUnk, AV.cells, reduceCtorEq, Nat.reduceLeDiff, Cells.get, Cells.getN, Nat.reduceMul, ↓bnd_assoc]
      refine loop_mono (ih (i + 1) _ _ (by omega) (by simp only [a0, ↓sxp, sxq, ↓reduceIte, Nat.reduceBEq, Nat.reduceLT, evP, evX, evR, blkOf, evA, storeA, Nat.reduceEqDiff, resL, resV, oneOrTup, Int.reduceEq, Int.reduceLT, Int.reduceLE, Int.reduceNeg, Int.reduceAdd, Int.reduceSub, Int.reduceMul, Int.reduceToNat, Nat.reduceAdd, noUnk, AV.cells, reduceCtorEq, Nat.reduceLeDiff, Cells.get, Cells.getN, Nat.reduceMul, ↓bnd_assoc]) (by simp only [a1, ↓sxp, sxq, ↓reduceIte, Nat.reduceBEq, Nat.reduceLT, evP, evX, evR, blkOf, evA, storeA, Nat.reduceEqDiff, resL, resV, oneOrTup, Int.reduceEq, Int.reduceLT, Int.reduceLE, Int.reduceNeg, Int.reduceAdd, Int.reduceSub, Int.reduceMul, Int.reduceToNat, Nat.reduceAdd, noUnk, AV.cells, reduceCtorEq, Nat.reduceLeDiff, Cells.get, Cells.getN, Nat.reduceMul, ↓bnd_assoc]) (by simp only [↓sxp, sxq, ↓reduceIte, Nat.reduceBEq, Nat.reduceLT, evP, evX, evR, blkOf, evA, storeA, Nat.reduceEqDiff, resL, resV, oneOrTup, Int.reduceEq, Int.reduceLT, Int.reduceLE, Int.reduceNeg, Int.reduceAdd, Int.reduceSub, Int.reduceMul, Int.reduceToNat, Nat.reduceAdd, noUnk, AV.cells, reduceCtorEq, Nat.reduceLeDiff, Cells.get, Cells.getN, Nat.reduceMul, ↓bnd_assoc]) hB) fun lv A' H' ⟨hh, hr⟩ => ⟨hh, ?_⟩
      rcases hr with ⟨r1, r2⟩ | ⟨r1, r2, r3⟩
      · exact .inl ⟨r1, by rw [r2]⟩
      · exact .inr ⟨r1, by simpa using r2, r3⟩
    · simp only [hlp, a0, a1, a5, hla, hlt, e1, e2, e3, e4, hwr, hc, ↓sxp, sxq, ↓reduceIte, Nat.reduceBEq, Nat.reduceLT, evP, evX, evR, blkOf, evA, storeA, Nat.reduceEqDiff, resL, resV, oneOrTup, Int.reduceEq, Int.reduceLT, Int.reduceLE, Int.reduceNeg, Int.reduceAdd, Int.reduceSub, Int.reduceMul, Int.reduceToNat, Nat.reduceAdd, noUnk, AV.cells, reduceCtorEq, Nat.reduceLeDiff, Cells.get, Cells.getN, Nat.reduceMul, ↓bnd_assoc]
      exact ⟨_, _, _, rfl, hB, .inr ⟨rfl, by simp [hc], by simp only [↓sxp, sxq, ↓reduceIte, Nat.reduceBEq, Nat.reduceLT, evP, evX, evR, blkOf, evA, storeA, Nat.reduceEqDiff, resL, resV, oneOrTup, Int.reduceEq, Int.reduceLT, Int.reduceLE, Int.reduceNeg, Int.reduceAdd, Int.reduceSub, Int.reduceMul, Int.reduceToNat, Nat.reduceAdd, noUnk, AV.cells, reduceCtorEq, Nat.reduceLeDiff, Cells.get, Cells.getN, Nat.reduceMul, ↓bnd_assoc]⟩⟩
theorem k_ints (hE : EnvK E) {a b : List Int} {va vb : AV} (h : Holds H (isP W a va :: isP W b vb :: Γ)) (hl : a.length < 65536) :
    ∃ H', go W E 31 [va, vb] H = some (.bool (decide (a = b)), H') ∧ Holds H' (isP W a va :: isP W b vb :: Γ) := by
  apply Ends.out
  obtain ⟨ids, ha⟩ := h.is_get
  have hla := ha.len
  obtain ⟨idb, hb⟩ := (h.ord [1]).is_get
  have hlb := hb.len
  rw [go_code hE.f31 (by simp [sf31])]
  by_cases hc : a.length = b.length
  · have hc' : ¬ ((a.length : Int) ≠ b.length) := by omega
    simp only [sf31, hla, hlb, hc, ↓sxp, sxq, ↓reduceIte, Nat.reduceBEq, Nat.reduceLT, evP, evX, evR, blkOf, evA, storeA, Nat.reduceEqDiff, resL, resV, oneOrTup, Int.reduceEq, Int.reduceLT, Int.reduceLE, Int.reduceNeg, Int.reduceAdd, Int.reduceSub, Int.reduceMul, Int.reduceToNat, Nat.reduceAdd, noUnk, AV.cells, reduceCtorEq, Nat.reduceLeDiff, Cells.get, Cells.getN, Nat.reduceMul, ↓bnd_assoc]
    refine Ends.loop (ints_loop hE hc hl a.length 0 _ _ (by omega) (by simp only [↓sxp, sxq, ↓reduceIte, Nat.reduceBEq, Nat.reduceLT, evP, evX, evR, blkOf, evA, storeA, Nat.reduceEqDiff, resL, resV, oneOrTup, Int.reduceEq, Int.reduceLT, Int.reduceLE, Int.reduceNeg, Int.reduceAdd, Int.reduceSub, Int.reduceMul, Int.reduceToNat, Nat.reduceAdd, noUnk, AV.cells, reduceCtorEq, Nat.reduceLeDiff, Cells.get, Cells.getN, Nat.reduceMul, ↓bnd_assoc]) (by simp only [↓sxp, sxq, ↓reduceIte, Nat.reduceBEq, Nat.reduceLT, evP, evX, evR, blkOf, evA, storeA, Nat.reduceEqDiff, resL, resV, oneOrTup, Int.reduceEq, Int.reduceLT, Int.reduceLE, Int.reduceNeg, Int.reduceAdd, Int.reduceSub, Int.reduceMul, Int.reduceToNat, Nat.reduceAdd, noUnk, AV.cells, reduceCtorEq, Nat.reduceLeDiff, Cells.get, Cells.getN, Nat.reduceMul, ↓bnd_assoc]) (by simp only [↓sxp, sxq, ↓reduceIte, Nat.reduceBEq, Nat.reduceLT, evP, evX, evR, blkOf, evA, storeA, Nat.reduceEqDiff, resL, resV, oneOrTup, Int.reduceEq, Int.reduceLT, Int.reduceLE, Int.reduceNeg, Int.reduceAdd, Int.reduceSub, Int.reduceMul, Int.reduceToNat, Nat.reduceAdd, noUnk, AV.cells, reduceCtorEq, Nat.reduceLeDiff, Cells.get, Cells.getN, Nat.reduceMul, ↓bnd_assoc]; rfl) h) fun lv A' H' ⟨hh, hr⟩ => ?_
    rw [List.drop_zero, List.drop_zero] at hr
    rcases hr with ⟨rfl, r2⟩ | ⟨rfl, r2, r3⟩
    · simp only [↓sxp, sxq, ↓reduceIte, Nat.reduceBEq, Nat.reduceLT, evP, evX, evR, blkOf, evA, storeA, Nat.reduceEqDiff, resL, resV, oneOrTup, Int.reduceEq, Int.reduceLT, Int.reduceLE, Int.reduceNeg, Int.reduceAdd, Int.reduceSub, Int.reduceMul, Int.reduceToNat, Nat.reduceAdd, noUnk, AV.cells, reduceCtorEq, Nat.reduceLeDiff, Cells.get, Cells.getN, Nat.reduceMul, ↓bnd_assoc]
      exact Ends.ret ⟨by simp [r2], hh⟩
    · simp only [r3, ↓sxp, sxq, ↓reduceIte, Nat.reduceBEq, Nat.reduceLT, evP, evX, evR, blkOf, evA, storeA, Nat.reduceEqDiff, resL, resV, oneOrTup, Int.reduceEq, Int.reduceLT, Int.reduceLE, Int.reduceNeg, Int.reduceAdd, Int.reduceSub, Int.reduceMul, Int.reduceToNat, Nat.reduceAdd, noUnk, AV.cells, reduceCtorEq, Nat.reduceLeDiff, Cells.get, Cells.getN, Nat.reduceMul, ↓bnd_assoc]
      exact Ends.ret ⟨by simp [r2], hh⟩
  · have hc' : ¬ ((a.length : Int) = b.length) := by omega
    have hne : a ≠ b := fun e => hc (by rw [e])
    simp only [sf31, hla, hlb, hc', ↓sxp, sxq, ↓reduceIte, Nat.reduceBEq, Nat.reduceLT, evP, evX, evR, blkOf, evA, storeA, Nat.reduceEqDiff, resL, resV, oneOrTup, Int.reduceEq, Int.reduceLT, Int.reduceLE, Int.reduceNeg, Int.reduceAdd, Int.reduceSub, Int.reduceMul, Int.reduceToNat, Nat.reduceAdd, noUnk, AV.cells, reduceCtorEq, Nat.reduceLeDiff, Cells.get, Cells.getN, Nat.reduceMul, ↓bnd_assoc]
    exact Ends.ret ⟨by simp [hne], h⟩
theorem right_loop (hE : EnvK E) {n : Nat} {vt : AV} {g : List Int} {gv : AV} {df : List Nat} (hb : g.length < 65536) (hvt : lenV vt = some (.int .i64 (n : Int))) : ∀ (m i : Nat) (A : Tm) (H : Heap), i + m = g.length → getX A 0 = vt → getX A 7 = gv → getX A 8 = .int .i64 g.length → getX A 9 = .int .i64 i → Holds H (isP W g gv :: Γ) →
    ∃ lv A' H', run W E (.loop lp25_0) ⟨A, df, none⟩ H = some (lv, ⟨A', df, none⟩, H') ∧ (H' = H ∧ ((lv = .exit 0 ∧ inR n (g.drop i) = true) ∨ (lv = .ret ∧ inR n (g.drop i) = false ∧ getX A' 4 = .bool false))) := by
  have hlp : ∀ f H, run W E lp25_0 f H = run W E lp25_0 f H := fun _ _ => rfl
  conv at hlp => enter [f, H, 2]; unfold lp25_0
  intro m
  induction m with
  | zero =>
    intro i A H him a0 a7 a8 a9 h
    have : i = g.length := by omega
    subst this
    have hlt : ¬ (g.length : Int) < g.length := by omega
    rw [run_loop]
    simp only [hlp, a8, a9, hlt, ↓sxp, sxq, ↓reduceIte, Nat.reduceBEq, Nat.reduceLT, evP, evX, evR, blkOf, evA, storeA, Nat.reduceEqDiff, resL, resV, oneOrTup, Int.reduceEq, Int.reduceLT, Int.reduceLE, Int.reduceNeg, Int.reduceAdd, Int.reduceSub, Int.reduceMul, Int.reduceToNat, Nat.reduceAdd, noUnk, AV.cells, reduceCtorEq, Nat.reduceLeDiff, Cells.get, Cells.getN, Nat.reduceMul, ↓bnd_assoc]
    exact ⟨_, _, _, rfl, rfl, .inl ⟨rfl, by simp [inR]⟩⟩
  | succ m ih =>
    intro i A H him a0 a7 a8 a9 h
    have hlt : (i : Int) < g.length := by omega
    have hwr : IntKind.i64.wrap ((i : Int) + 1) = ((i + 1 : Nat) : Int) := by rw [w64 (by omega)]; simp
    obtain ⟨ids, his⟩ := h.is_get
    obtain ⟨p, e1, e2⟩ := his.at (i := i) (by omega)
    rw [run_loop, List.drop_eq_getElem_cons (show i < g.length by omega)]
    generalize g[i] = x at *
    by_cases h0 : x < 0
    · simp only [hlp, a0, a7, a8, a9, hlt, e1, e2, h0, ↓sxp, sxq, ↓reduceIte, Nat.reduceBEq, Nat.reduceLT, evP, evX, evR, blkOf, evA, storeA, Nat.reduceEqDiff, resL, resV, oneOrTup, Int.reduceEq, Int.reduceLT, Int.reduceLE, Int.reduceNeg, Int.reduceAdd, Int.reduceSub, Int.reduceMul, Int.reduceToNat, Nat.reduceAdd, noUnk, AV.cells, reduceCtorEq, Nat.reduceLeDiff, Cells.get, Cells.getN, Nat.reduceMul, ↓bnd_assoc]
      exact ⟨_, _, _, rfl, rfl, .inr ⟨rfl, by simp only [inR, List.all_cons, decide_eq_false (show ¬ 0 ≤ x by omega), Bool.false_and], by simp only [↓sxp, sxq, ↓reduceIte, Nat.reduceBEq, Nat.reduceLT, evP, evX, evR, blkOf, evA, storeA, Nat.reduceEqDiff, resL, resV, oneOrTup, Int.reduceEq, Int.reduceLT, Int.reduceLE, Int.reduceNeg, Int.reduceAdd, Int.reduceSub, Int.reduceMul, Int.reduceToNat, Nat.reduceAdd, noUnk, AV.cells, reduceCtorEq, Nat.reduceLeDiff, Cells.get, Cells.getN, Nat.reduceMul, ↓bnd_assoc]⟩⟩
    · by_cases h1 : (n : Int) ≤ x
      · simp only [hlp, a0, a7, a8, a9, hlt, e1, e2, h0, h1, hvt, ↓sxp, sxq, ↓reduceIte, Nat.reduceBEq, Nat.reduceLT, evP, evX, evR, blkOf, evA, storeA, Nat.reduceEqDiff, resL, resV, oneOrTup, Int.reduceEq, Int.reduceLT, Int.reduceLE, Int.reduceNeg, Int.reduceAdd, Int.reduceSub, Int.reduceMul, Int.reduceToNat, Nat.reduceAdd, noUnk, AV.cells, reduceCtorEq, Nat.reduceLeDiff, Cells.get, Cells.getN, Nat.reduceMul, ↓bnd_assoc]
        exact ⟨_, _, _, rfl, rfl, .inr ⟨rfl, by simp only [inR, List.all_cons, decide_eq_false (show ¬ x < n by omega), Bool.false_and, Bool.and_false], by simp only [↓sxp, sxq, ↓reduceIte, Nat.reduceBEq, Nat.reduceLT, evP, evX, evR, blkOf, evA, storeA, Nat.reduceEqDiff, resL, resV, oneOrTup, Int.reduceEq, Int.reduceLT, Int.reduceLE, Int.reduceNeg, Int.reduceAdd, Int.reduceSub, Int.reduceMul, Int.reduceToNat, Nat.reduceAdd, noUnk, AV.cells, reduceCtorEq, Nat.reduceLeDiff, Cells.get, Cells.getN, Nat.reduceMul, ↓bnd_assoc]⟩⟩
      · simp only [hlp, a0, a7, a8, a9, hlt, e1, e2, h0, h1, hvt, hwr, ↓sxp, sxq, ↓reduceIte, Nat.reduceBEq, Nat.reduceLT, evP, evX, evR, blkOf, evA, storeA, Nat.reduceEqDiff, resL, resV, oneOrTup, Int.reduceEq, Int.reduceLT, Int.reduceLE, Int.reduceNeg, Int.reduceAdd, Int.reduceSub, Int.reduceMul, Int.reduceToNat, Nat.reduceAdd, noUnk, AV.cells, reduceCtorEq, Nat.reduceLeDiff, Cells.get, Cells.getN, Nat.reduceMul, ↓bnd_assoc]
        refine loop_mono (ih (i + 1) _ _ (by omega) (by simp only [a0, ↓sxp, sxq, ↓reduceIte, Nat.reduceBEq, Nat.reduceLT, evP, evX, evR, blkOf, evA, storeA, Nat.reduceEqDiff, resL, resV, oneOrTup, Int.reduceEq, Int.reduceLT, Int.reduceLE, Int.reduceNeg, Int.reduceAdd, Int.reduceSub, Int.reduceMul, Int.reduceToNat, Nat.reduceAdd, noUnk, AV.cells, reduceCtorEq, Nat.reduceLeDiff, Cells.get, Cells.getN, Nat.reduceMul, ↓bnd_assoc]) (by simp only [a7, ↓sxp, sxq, ↓reduceIte, Nat.reduceBEq, Nat.reduceLT, evP, evX, evR, blkOf, evA, storeA, Nat.reduceEqDiff, resL, resV, oneOrTup, Int.reduceEq, Int.reduceLT, Int.reduceLE, Int.reduceNeg, Int.reduceAdd, Int.reduceSub, Int.reduceMul, Int.reduceToNat, Nat.reduceAdd, noUnk, AV.cells, reduceCtorEq, Nat.reduceLeDiff, Cells.get, Cells.getN, Nat.reduceMul, ↓bnd_assoc]) (by simp only [a8, ↓sxp, sxq, ↓reduceIte, Nat.reduceBEq, Nat.reduceLT, evP, evX, evR, blkOf, evA, storeA, Nat.reduceEqDiff, resL, resV, oneOrTup, Int.reduceEq, Int.reduceLT, Int.reduceLE, Int.reduceNeg, Int.reduceAdd, Int.reduceSub, Int.reduceMul, Int.reduceToNat, Nat.reduceAdd, noUnk, AV.cells, reduceCtorEq, Nat.reduceLeDiff, Cells.get, Cells.getN, Nat.reduceMul, ↓bnd_assoc]) (by simp only [↓sxp, sxq, ↓reduceIte, Nat.reduceBEq, Nat.reduceLT, evP, evX, evR, blkOf, evA, storeA, Nat.reduceEqDiff, resL, resV, oneOrTup, Int.reduceEq, Int.reduceLT, Int.reduceLE, Int.reduceNeg, Int.reduceAdd, Int.reduceSub, Int.reduceMul, Int.reduceToNat, Nat.reduceAdd, noUnk, AV.cells, reduceCtorEq, Nat.reduceLeDiff, Cells.get, Cells.getN, Nat.reduceMul, ↓bnd_assoc]) h) fun lv A' H' ⟨hh, hr⟩ => ⟨hh, ?_⟩
        simpa only [inR, List.all_cons, decide_eq_true (show 0 ≤ x by omega), decide_eq_true (show x < n by omega), Bool.and_self, Bool.true_and] using hr
theorem k_right (hE : EnvK E) {n : Nat} {vt : AV} {g : List Int} {gv : AV} (h : Holds H (isP W g gv :: Γ)) (hb : g.length < 65536) (hvt : lenV vt = some (.int .i64 (n : Int))) :
    go W E 25 [vt, gv] H = some (.bool (inR n g), H) := by
  obtain ⟨ids, hg⟩ := h.is_get
  have hlg := hg.len
  suffices hh : Fin (fun r : AV × Heap => r = (.bool (inR n g), H)) (go W E 25 [vt, gv] H) by
    obtain ⟨r, e, rfl⟩ := hh
    exact e
  rw [go_code hE.f25 (by simp [sf25])]
  simp only [sf25, hlg, ↓sxp, sxq, ↓reduceIte, Nat.reduceBEq, Nat.reduceLT, evP, evX, evR, blkOf, evA, storeA, Nat.reduceEqDiff, resL, resV, oneOrTup, Int.reduceEq, Int.reduceLT, Int.reduceLE, Int.reduceNeg, Int.reduceAdd, Int.reduceSub, Int.reduceMul, Int.reduceToNat, Nat.reduceAdd, noUnk, AV.cells, reduceCtorEq, Nat.reduceLeDiff, Cells.get, Cells.getN, Nat.reduceMul, ↓bnd_assoc]
  refine Fin.loop (right_loop hE hb hvt g.length 0 _ _ (by omega) (by simp only [↓sxp, sxq, ↓reduceIte, Nat.reduceBEq, Nat.reduceLT, evP, evX, evR, blkOf, evA, storeA, Nat.reduceEqDiff, resL, resV, oneOrTup, Int.reduceEq, Int.reduceLT, Int.reduceLE, Int.reduceNeg, Int.reduceAdd, Int.reduceSub, Int.reduceMul, Int.reduceToNat, Nat.reduceAdd, noUnk, AV.cells, reduceCtorEq, Nat.reduceLeDiff, Cells.get, Cells.getN, Nat.reduceMul, ↓bnd_assoc]) (by simp only [↓sxp, sxq, ↓reduceIte, Nat.reduceBEq, Nat.reduceLT, evP, evX, evR, blkOf, evA, storeA, Nat.reduceEqDiff, resL, resV, oneOrTup, Int.reduceEq, Int.reduceLT, Int.reduceLE, Int.reduceNeg, Int.reduceAdd, Int.reduceSub, Int.reduceMul, Int.reduceToNat, Nat.reduceAdd, noUnk, AV.cells, reduceCtorEq, Nat.reduceLeDiff, Cells.get, Cells.getN, Nat.reduceMul, ↓bnd_assoc]) (by simp only [↓sxp, sxq, ↓reduceIte, Nat.reduceBEq, Nat.reduceLT, evP, evX, evR, blkOf, evA, storeA, Nat.reduceEqDiff, resL, resV, oneOrTup, Int.reduceEq, Int.reduceLT, Int.reduceLE, Int.reduceNeg, Int.reduceAdd, Int.reduceSub, Int.reduceMul, Int.reduceToNat, Nat.reduceAdd, noUnk, AV.cells, reduceCtorEq, Nat.reduceLeDiff, Cells.get, Cells.getN, Nat.reduceMul, ↓bnd_assoc]) (by simp only [↓sxp, sxq, ↓reduceIte, Nat.reduceBEq, Nat.reduceLT, evP, evX, evR, blkOf, evA, storeA, Nat.reduceEqDiff, resL, resV, oneOrTup, Int.reduceEq, Int.reduceLT, Int.reduceLE, Int.reduceNeg, Int.reduceAdd, Int.reduceSub, Int.reduceMul, Int.reduceToNat, Nat.reduceAdd, noUnk, AV.cells, reduceCtorEq, Nat.reduceLeDiff, Cells.get, Cells.getN, Nat.reduceMul, ↓bnd_assoc]; rfl) h) fun lv A' H' ⟨hh, hr⟩ => ?_
  subst hh
  rw [List.drop_zero] at hr
  rcases hr with ⟨rfl, r2⟩ | ⟨rfl, r2, r3⟩
  · simp only [r2, ↓sxp, sxq, ↓reduceIte, Nat.reduceBEq, Nat.reduceLT, evP, evX, evR, blkOf, evA, storeA, Nat.reduceEqDiff, resL, resV, oneOrTup, Int.reduceEq, Int.reduceLT, Int.reduceLE, Int.reduceNeg, Int.reduceAdd, Int.reduceSub, Int.reduceMul, Int.reduceToNat, Nat.reduceAdd, noUnk, AV.cells, reduceCtorEq, Nat.reduceLeDiff, Cells.get, Cells.getN, Nat.reduceMul, ↓bnd_assoc]
    exact Fin.ret rfl
  · simp only [r2, r3, ↓sxp, sxq, ↓reduceIte, Nat.reduceBEq, Nat.reduceLT, evP, evX, evR, blkOf, evA, storeA, Nat.reduceEqDiff, resL, resV, oneOrTup, Int.reduceEq, Int.reduceLT, Int.reduceLE, Int.reduceNeg, Int.reduceAdd, Int.reduceSub, Int.reduceMul, Int.reduceToNat, Nat.reduceAdd, noUnk, AV.cells, reduceCtorEq, Nat.reduceLeDiff, Cells.get, Cells.getN, Nat.reduceMul, ↓bnd_assoc]
    exact Fin.ret rfl
end
end Go.Proofs.Ytnfehkjkmlbceaa.Sx

/- Made: a store that things were done to, and its terms. -/
namespace Go.Proofs.Ytnfehkjkmlbceaa.Sx
open HP
section
variable {W : World} {E : Env} {H : Heap} {Γ : List HP}
theorem w4_snoc {L : List T3} {x : T3} (h : W4 L) (hx : x.1 = 4 → ∃ y, L[x.2.1.toNat]? = some y ∧ y.1 = 2) : W4 (L ++ [x]) := by
  intro i y hy hk
  have up : ∀ {z : T3} {j : Nat}, L[j]? = some z → (L ++ [x])[j]? = some z := fun {z j} hz => by
    rw [List.getElem?_append_left (List.getElem?_eq_some_iff.1 hz).1]; exact hz
  by_cases hi : i < L.length
  · rw [List.getElem?_append_left hi] at hy
    obtain ⟨z, hz, hz2⟩ := h i y hy hk
    exact ⟨z, up hz, hz2⟩
  · have hl := (List.getElem?_eq_some_iff.1 hy).1
    rw [List.length_append, List.length_singleton] at hl
    have : i = L.length := by omega
    subst this
    rw [List.getElem?_append_right (by omega)] at hy
    simp at hy
    subst hy
    obtain ⟨z, hz, hz2⟩ := hx hk
    exact ⟨z, up hz, hz2⟩
theorem has2_get {L : List T3} {n : Int} (h : hasM L n 2 = true) : ∃ y, L[n.toNat]? = some y ∧ y.1 = 2 := by
  have hn := hasM_bd h
  have hx : L[n.toNat]? = some L[n.toNat] := List.getElem?_eq_getElem (by omega)
  refine ⟨_, hx, ?_⟩
  simp [hasM, List.getD_eq_getElem?_getD, hx] at h
  exact h.2
theorem w4_put {S : MS} (h : W4 S.L) (x : T3) : W4 (putM S x).2.2.L := by
  unfold putM
  cases hm : mayM S.L S.T.length x with
  | false => simpa using h
  | true =>
    cases hn : numOf x S.L with
    | some n => simpa using h
    | none =>
      simp only [if_true]
      refine w4_snoc h fun hk => ?_
      have : hasM S.L x.2.1 2 = true := by
        simp [mayM, hk] at hm
        exact hm.1
      exact has2_get this
theorem w4_draw {S : MS} (h : W4 S.L) (k : Int) : W4 (drawM S k).2.2.L := by
  unfold drawM
  split
  · split
    · exact h
    · exact w4_snoc h fun hk => by simp at hk
  · exact h
theorem w4_text {S : MS} (h : W4 S.L) (b : List UInt8) : W4 (textM S b).L := by
  unfold textM
  split
  · exact h
  · exact w4_snoc h fun hk => by simp at hk
theorem made_loop {ds : List Do1} {v : AV} {p q : Nat} {df : List Nat} (hE : EnvK E) (hv : Dos W ds v) (hf : fewL ds = true) (hd : ds.length ≤ 30) : ∀ (m i : Nat) (A : Tm) (H : Heap) (S : MS) (B : List (List UInt8)), i + m = ds.length → getX A 4 = .ptr (some ⟨.own p, 0⟩) → getX A 5 = .ptr (some ⟨.own q, 0⟩) → getX A 11 = v → getX A 12 = .int .i64 ds.length → getX A 13 = .int .i64 i →
    Inv S B → W4 S.L → S.L.length ≤ i → S.T.length ≤ i → Holds H (storeP W p S :: refP W q S.L B :: Γ) →
    ∃ lv A' H', run W E (.loop lp24_0) ⟨A, df, none⟩ H = some (lv, ⟨A', df, none⟩, H') ∧ (lv = .exit 0 ∧ getX A' 4 = .ptr (some ⟨.own p, 0⟩) ∧ getX A' 5 = .ptr (some ⟨.own q, 0⟩) ∧
      ∃ S B, Inv S B ∧ W4 S.L ∧ S.L.length ≤ 30 ∧ S.T.length ≤ 30 ∧ Holds H' (storeP W p S :: refP W q S.L B :: Γ)) := by
  have hlp : ∀ f H, run W E lp24_0 f H = run W E lp24_0 f H := fun _ _ => rfl
  conv at hlp => enter [f, H, 2]; unfold lp24_0
  obtain ⟨hlen, hva, hget⟩ := hv
  intro m
  induction m with
  | zero =>
    intro i A H S B him a4 a5 a11 a12 a13 hi h4 hL hT h
    have : i = ds.length := by omega
    subst this
    have hlt : ¬ (ds.length : Int) < ds.length := by omega
    rw [run_loop]
    simp only [hlp, a12, a13, hlt, ↓sxp, sxq, ↓reduceIte, Nat.reduceBEq, Nat.reduceLT, evP, evX, evR, blkOf, evA, storeA, Nat.reduceEqDiff, resL, resV, oneOrTup, Int.reduceEq, Int.reduceLT, Int.reduceLE, Int.reduceNeg, Int.reduceAdd, Int.reduceSub, Int.reduceMul, Int.reduceToNat, Nat.reduceAdd, noUnk, AV.cells, reduceCtorEq, Nat.reduceLeDiff, Cells.get, Cells.getN, Nat.reduceMul, ↓bnd_assoc]
    exact ⟨_, _, _, rfl, rfl, by simp only [a4, ↓sxp, sxq, ↓reduceIte, Nat.reduceBEq, Nat.reduceLT, evP, evX, evR, blkOf, evA, storeA, Nat.reduceEqDiff, resL, resV, oneOrTup, Int.reduceEq, Int.reduceLT, Int.reduceLE, Int.reduceNeg, Int.reduceAdd, Int.reduceSub, Int.reduceMul, Int.reduceToNat, Nat.reduceAdd, noUnk, AV.cells, reduceCtorEq, Nat.reduceLeDiff, Cells.get, Cells.getN, Nat.reduceMul, ↓bnd_assoc], by simp only [a5, ↓sxp, sxq, ↓reduceIte, Nat.reduceBEq, Nat.reduceLT, evP, evX, evR, blkOf, evA, storeA, Nat.reduceEqDiff, resL, resV, oneOrTup, Int.reduceEq, Int.reduceLT, Int.reduceLE, Int.reduceNeg, Int.reduceAdd, Int.reduceSub, Int.reduceMul, Int.reduceToNat, Nat.reduceAdd, noUnk, AV.cells, reduceCtorEq, Nat.reduceLeDiff, Cells.get, Cells.getN, Nat.reduceMul, ↓bnd_assoc], S, B, hi, h4, by omega, by omega, h⟩
  | succ m ih =>
    intro i A H S B him a4 a5 a11 a12 a13 hi hw4 hL hT h
    have hlt : (i : Int) < ds.length := by omega
    obtain ⟨ptr, w, e1, e2, hw⟩ := hget i (by omega)
    have hwr : IntKind.i64.wrap ((i : Int) + 1) = ((i + 1 : Nat) : Int) := by rw [w64 (by omega)]; simp
    have hb : ds[i].b.length ≤ 100 := by
      have := List.all_eq_true.1 hf ds[i] (List.getElem_mem _)
      simpa using this
    generalize ds[i] = d at *
    obtain ⟨k, n, t, b⟩ := d
    have hb : b.length ≤ 100 := hb
    have hw : OldBy W b w := hw
    have ht : ∃ t1 t2 t3, t = (t1, t2, t3) := ⟨_, _, _, rfl⟩
    obtain ⟨t1, t2, t3, ht⟩ := ht
    have hc : doC ⟨k, n, t, b⟩ w = [.int .i64 k, .int .i64 n, .int .i64 t1, .int .i64 t2, .int .i64 t3, w] := by subst ht; rfl
    have hc3 : c3 t = [.int .i64 t1, .int .i64 t2, .int .i64 t3] := by subst ht; rfl
    have hwo := noUnk_by (hw H)
    have hBl : B.length = S.T.length := by rw [← hi.t]; simp
    rw [hc] at e2
    apply Fin.ex3
    rw [run_loop]
    simp only [hlp, a4, a11, a12, a13, hlt, e1, e2, ↓sxp, sxq, ↓reduceIte, Nat.reduceBEq, Nat.reduceLT, evP, evX, evR, blkOf, evA, storeA, Nat.reduceEqDiff, resL, resV, oneOrTup, Int.reduceEq, Int.reduceLT, Int.reduceLE, Int.reduceNeg, Int.reduceAdd, Int.reduceSub, Int.reduceMul, Int.reduceToNat, Nat.reduceAdd, noUnk, AV.cells, reduceCtorEq, Nat.reduceLeDiff, Cells.get, Cells.getN, Nat.reduceMul, ↓bnd_assoc]
    refine Fin.write [.int .i64 k, .int .i64 n, .int .i64 t1, .int .i64 t2, .int .i64 t3, w] h.push rfl (by simp) (by simp only [List.all_cons, List.all_nil, hwo, oneC_int, Bool.and_self]) fun H1 h1 => ?_
    generalize H.next = bd at *
    have g1 := h1.get
    have fin : ∀ (A' : Tm) (H' : Heap) (S' : MS) (B' : List (List UInt8)), Inv S' B' → W4 S'.L → S'.L.length ≤ S.L.length + 1 → S'.T.length ≤ S.T.length + 1 → getX A' 4 = .ptr (some ⟨.own p, 0⟩) → getX A' 5 = .ptr (some ⟨.own q, 0⟩) → getX A' 11 = v → getX A' 12 = .int .i64 ds.length → getX A' 13 = .int .i64 ((i + 1 : Nat) : Int) →
        Holds H' (storeP W p S' :: refP W q S'.L B' :: Γ) → Fin (Out3 df none fun lv A' H' => lv = .exit 0 ∧ getX A' 4 = .ptr (some ⟨.own p, 0⟩) ∧ getX A' 5 = .ptr (some ⟨.own q, 0⟩) ∧
          ∃ S B, Inv S B ∧ W4 S.L ∧ S.L.length ≤ 30 ∧ S.T.length ≤ 30 ∧ Holds H' (storeP W p S :: refP W q S.L B :: Γ)) (run W E (.loop lp24_0) ⟨A', df, none⟩ H') := fun A' H' S' B' q1 q2 q3 q4 q5 q6 q7 q8 q9 q10 =>
      Fin.of3 (ih (i + 1) A' H' S' B' (by omega) q5 q6 q7 q8 q9 q1 q2 (by omega) (by omega) q10) fun _ _ _ h => h
    by_cases k1 : k = 1
    · subst k1
      obtain ⟨p1, p2, p3⟩ := hi.put t
      simp only [a4, ↓g1, ↓sxp, sxq, ↓reduceIte, Nat.reduceBEq, Nat.reduceLT, evP, evX, evR, blkOf, evA, storeA, Nat.reduceEqDiff, resL, resV, oneOrTup, Int.reduceEq, Int.reduceLT, Int.reduceLE, Int.reduceNeg, Int.reduceAdd, Int.reduceSub, Int.reduceMul, Int.reduceToNat, Nat.reduceAdd, noUnk, AV.cells, reduceCtorEq, Nat.reduceLeDiff, Cells.get, Cells.getN, Nat.reduceMul, ↓bnd_assoc]
      rw [← hc3]
      refine Fin.call (s_put hE.t (h1.ord [1]) t (by omega)) fun H2 h2 => ?_
      have g2 := (h2.ord [1]).get
      simp only [a4, a5, ↓g2, ↓sxp, sxq, ↓reduceIte, Nat.reduceBEq, Nat.reduceLT, evP, evX, evR, blkOf, evA, storeA, Nat.reduceEqDiff, resL, resV, oneOrTup, Int.reduceEq, Int.reduceLT, Int.reduceLE, Int.reduceNeg, Int.reduceAdd, Int.reduceSub, Int.reduceMul, Int.reduceToNat, Nat.reduceAdd, noUnk, AV.cells, reduceCtorEq, Nat.reduceLeDiff, Cells.get, Cells.getN, Nat.reduceMul, ↓bnd_assoc]
      rw [← hc3]
      refine Fin.call (r_put hE.t (h2.ord [2]) t (by omega)) fun H3 h3 => ?_
      rw [p1] at h3 ⊢
      simp only [a13, hwr, ↓sxp, sxq, ↓reduceIte, Nat.reduceBEq, Nat.reduceLT, evP, evX, evR, blkOf, evA, storeA, Nat.reduceEqDiff, resL, resV, oneOrTup, Int.reduceEq, Int.reduceLT, Int.reduceLE, Int.reduceNeg, Int.reduceAdd, Int.reduceSub, Int.reduceMul, Int.reduceToNat, Nat.reduceAdd, noUnk, AV.cells, reduceCtorEq, Nat.reduceLeDiff, Cells.get, Cells.getN, Nat.reduceMul, ↓bnd_assoc]
      exact fin _ _ _ _ p2 (w4_put hw4 t) (putM_len _ _) (by rw [p3]; omega) (by simp only [a4, ↓sxp, sxq, ↓reduceIte, Nat.reduceBEq, Nat.reduceLT, evP, evX, evR, blkOf, evA, storeA, Nat.reduceEqDiff, resL, resV, oneOrTup, Int.reduceEq, Int.reduceLT, Int.reduceLE, Int.reduceNeg, Int.reduceAdd, Int.reduceSub, Int.reduceMul, Int.reduceToNat, Nat.reduceAdd, noUnk, AV.cells, reduceCtorEq, Nat.reduceLeDiff, Cells.get, Cells.getN, Nat.reduceMul, ↓bnd_assoc]) (by simp only [a5, ↓sxp, sxq, ↓reduceIte, Nat.reduceBEq, Nat.reduceLT, evP, evX, evR, blkOf, evA, storeA, Nat.reduceEqDiff, resL, resV, oneOrTup, Int.reduceEq, Int.reduceLT, Int.reduceLE, Int.reduceNeg, Int.reduceAdd, Int.reduceSub, Int.reduceMul, Int.reduceToNat, Nat.reduceAdd, noUnk, AV.cells, reduceCtorEq, Nat.reduceLeDiff, Cells.get, Cells.getN, Nat.reduceMul, ↓bnd_assoc]) (by simp only [a11, ↓sxp, sxq, ↓reduceIte, Nat.reduceBEq, Nat.reduceLT, evP, evX, evR, blkOf, evA, storeA, Nat.reduceEqDiff, resL, resV, oneOrTup, Int.reduceEq, Int.reduceLT, Int.reduceLE, Int.reduceNeg, Int.reduceAdd, Int.reduceSub, Int.reduceMul, Int.reduceToNat, Nat.reduceAdd, noUnk, AV.cells, reduceCtorEq, Nat.reduceLeDiff, Cells.get, Cells.getN, Nat.reduceMul, ↓bnd_assoc]) (by simp only [a12, ↓sxp, sxq, ↓reduceIte, Nat.reduceBEq, Nat.reduceLT, evP, evX, evR, blkOf, evA, storeA, Nat.reduceEqDiff, resL, resV, oneOrTup, Int.reduceEq, Int.reduceLT, Int.reduceLE, Int.reduceNeg, Int.reduceAdd, Int.reduceSub, Int.reduceMul, Int.reduceToNat, Nat.reduceAdd, noUnk, AV.cells, reduceCtorEq, Nat.reduceLeDiff, Cells.get, Cells.getN, Nat.reduceMul, ↓bnd_assoc]) (by simp only [↓sxp, sxq, ↓reduceIte, Nat.reduceBEq, Nat.reduceLT, evP, evX, evR, blkOf, evA, storeA, Nat.reduceEqDiff, resL, resV, oneOrTup, Int.reduceEq, Int.reduceLT, Int.reduceLE, Int.reduceNeg, Int.reduceAdd, Int.reduceSub, Int.reduceMul, Int.reduceToNat, Nat.reduceAdd, noUnk, AV.cells, reduceCtorEq, Nat.reduceLeDiff, Cells.get, Cells.getN, Nat.reduceMul, ↓bnd_assoc]) ((h3.ord [1, 0]).rm 2)
    by_cases k2 : k = 2
    · subst k2
      obtain ⟨p1, p2, p3, _, _⟩ := hi.draw n
      simp only [a4, ↓g1, ↓sxp, sxq, ↓reduceIte, Nat.reduceBEq, Nat.reduceLT, evP, evX, evR, blkOf, evA, storeA, Nat.reduceEqDiff, resL, resV, oneOrTup, Int.reduceEq, Int.reduceLT, Int.reduceLE, Int.reduceNeg, Int.reduceAdd, Int.reduceSub, Int.reduceMul, Int.reduceToNat, Nat.reduceAdd, noUnk, AV.cells, reduceCtorEq, Nat.reduceLeDiff, Cells.get, Cells.getN, Nat.reduceMul, ↓bnd_assoc]
      refine Fin.call (s_draw' hE.t hi (h1.ord [1]) n (by omega)) fun H2 h2 => ?_
      have g2 := (h2.ord [1]).get
      simp only [a4, a5, ↓g2, ↓sxp, sxq, ↓reduceIte, Nat.reduceBEq, Nat.reduceLT, evP, evX, evR, blkOf, evA, storeA, Nat.reduceEqDiff, resL, resV, oneOrTup, Int.reduceEq, Int.reduceLT, Int.reduceLE, Int.reduceNeg, Int.reduceAdd, Int.reduceSub, Int.reduceMul, Int.reduceToNat, Nat.reduceAdd, noUnk, AV.cells, reduceCtorEq, Nat.reduceLeDiff, Cells.get, Cells.getN, Nat.reduceMul, ↓bnd_assoc]
      refine Fin.call (r_draw hE.t (h2.ord [2]) n (by omega)) fun H3 h3 => ?_
      rw [p1] at h3 ⊢
      simp only [a13, hwr, ↓sxp, sxq, ↓reduceIte, Nat.reduceBEq, Nat.reduceLT, evP, evX, evR, blkOf, evA, storeA, Nat.reduceEqDiff, resL, resV, oneOrTup, Int.reduceEq, Int.reduceLT, Int.reduceLE, Int.reduceNeg, Int.reduceAdd, Int.reduceSub, Int.reduceMul, Int.reduceToNat, Nat.reduceAdd, noUnk, AV.cells, reduceCtorEq, Nat.reduceLeDiff, Cells.get, Cells.getN, Nat.reduceMul, ↓bnd_assoc]
      exact fin _ _ _ _ p2 (w4_draw hw4 n) (drawM_len _ _) (by rw [p3]; omega) (by simp only [a4, ↓sxp, sxq, ↓reduceIte, Nat.reduceBEq, Nat.reduceLT, evP, evX, evR, blkOf, evA, storeA, Nat.reduceEqDiff, resL, resV, oneOrTup, Int.reduceEq, Int.reduceLT, Int.reduceLE, Int.reduceNeg, Int.reduceAdd, Int.reduceSub, Int.reduceMul, Int.reduceToNat, Nat.reduceAdd, noUnk, AV.cells, reduceCtorEq, Nat.reduceLeDiff, Cells.get, Cells.getN, Nat.reduceMul, ↓bnd_assoc]) (by simp only [a5, ↓sxp, sxq, ↓reduceIte, Nat.reduceBEq, Nat.reduceLT, evP, evX, evR, blkOf, evA, storeA, Nat.reduceEqDiff, resL, resV, oneOrTup, Int.reduceEq, Int.reduceLT, Int.reduceLE, Int.reduceNeg, Int.reduceAdd, Int.reduceSub, Int.reduceMul, Int.reduceToNat, Nat.reduceAdd, noUnk, AV.cells, reduceCtorEq, Nat.reduceLeDiff, Cells.get, Cells.getN, Nat.reduceMul, ↓bnd_assoc]) (by simp only [a11, ↓sxp, sxq, ↓reduceIte, Nat.reduceBEq, Nat.reduceLT, evP, evX, evR, blkOf, evA, storeA, Nat.reduceEqDiff, resL, resV, oneOrTup, Int.reduceEq, Int.reduceLT, Int.reduceLE, Int.reduceNeg, Int.reduceAdd, Int.reduceSub, Int.reduceMul, Int.reduceToNat, Nat.reduceAdd, noUnk, AV.cells, reduceCtorEq, Nat.reduceLeDiff, Cells.get, Cells.getN, Nat.reduceMul, ↓bnd_assoc]) (by simp only [a12, ↓sxp, sxq, ↓reduceIte, Nat.reduceBEq, Nat.reduceLT, evP, evX, evR, blkOf, evA, storeA, Nat.reduceEqDiff, resL, resV, oneOrTup, Int.reduceEq, Int.reduceLT, Int.reduceLE, Int.reduceNeg, Int.reduceAdd, Int.reduceSub, Int.reduceMul, Int.reduceToNat, Nat.reduceAdd, noUnk, AV.cells, reduceCtorEq, Nat.reduceLeDiff, Cells.get, Cells.getN, Nat.reduceMul, ↓bnd_assoc]) (by simp only [↓sxp, sxq, ↓reduceIte, Nat.reduceBEq, Nat.reduceLT, evP, evX, evR, blkOf, evA, storeA, Nat.reduceEqDiff, resL, resV, oneOrTup, Int.reduceEq, Int.reduceLT, Int.reduceLE, Int.reduceNeg, Int.reduceAdd, Int.reduceSub, Int.reduceMul, Int.reduceToNat, Nat.reduceAdd, noUnk, AV.cells, reduceCtorEq, Nat.reduceLeDiff, Cells.get, Cells.getN, Nat.reduceMul, ↓bnd_assoc]) ((h3.ord [1, 0]).rm 2)
    by_cases k3 : k = 3
    · subst k3
      obtain ⟨p1, p2⟩ := hi.text hb
      simp only [a4, ↓g1, ↓sxp, sxq, ↓reduceIte, Nat.reduceBEq, Nat.reduceLT, evP, evX, evR, blkOf, evA, storeA, Nat.reduceEqDiff, resL, resV, oneOrTup, Int.reduceEq, Int.reduceLT, Int.reduceLE, Int.reduceNeg, Int.reduceAdd, Int.reduceSub, Int.reduceMul, Int.reduceToNat, Nat.reduceAdd, noUnk, AV.cells, reduceCtorEq, Nat.reduceLeDiff, Cells.get, Cells.getN, Nat.reduceMul, ↓bnd_assoc]
      refine Fin.call (s_text hE.t (h1.ord [1]) hw (by omega) (by omega) (by omega) hi.fresh) fun H2 h2 => ?_
      have g2 := (h2.ord [1]).get
      simp only [a4, a5, ↓g2, ↓sxp, sxq, ↓reduceIte, Nat.reduceBEq, Nat.reduceLT, evP, evX, evR, blkOf, evA, storeA, Nat.reduceEqDiff, resL, resV, oneOrTup, Int.reduceEq, Int.reduceLT, Int.reduceLE, Int.reduceNeg, Int.reduceAdd, Int.reduceSub, Int.reduceMul, Int.reduceToNat, Nat.reduceAdd, noUnk, AV.cells, reduceCtorEq, Nat.reduceLeDiff, Cells.get, Cells.getN, Nat.reduceMul, ↓bnd_assoc]
      refine Fin.call (r_text hE.t (h2.ord [2]) hw (by omega) (by omega) hi.bl') fun H3 h3 => ?_
      have q2 : (textR S.L B b).2.1 = (textM S b).L := by rw [p1]
      rw [q2] at h3
      simp only [a13, hwr, ↓sxp, sxq, ↓reduceIte, Nat.reduceBEq, Nat.reduceLT, evP, evX, evR, blkOf, evA, storeA, Nat.reduceEqDiff, resL, resV, oneOrTup, Int.reduceEq, Int.reduceLT, Int.reduceLE, Int.reduceNeg, Int.reduceAdd, Int.reduceSub, Int.reduceMul, Int.reduceToNat, Nat.reduceAdd, noUnk, AV.cells, reduceCtorEq, Nat.reduceLeDiff, Cells.get, Cells.getN, Nat.reduceMul, ↓bnd_assoc]
      exact fin _ _ _ _ p2 (w4_text hw4 b) (textM_len _ _).1 (textM_len _ _).2 (by simp only [a4, ↓sxp, sxq, ↓reduceIte, Nat.reduceBEq, Nat.reduceLT, evP, evX, evR, blkOf, evA, storeA, Nat.reduceEqDiff, resL, resV, oneOrTup, Int.reduceEq, Int.reduceLT, Int.reduceLE, Int.reduceNeg, Int.reduceAdd, Int.reduceSub, Int.reduceMul, Int.reduceToNat, Nat.reduceAdd, noUnk, AV.cells, reduceCtorEq, Nat.reduceLeDiff, Cells.get, Cells.getN, Nat.reduceMul, ↓bnd_assoc]) (by simp only [a5, ↓sxp, sxq, ↓reduceIte, Nat.reduceBEq, Nat.reduceLT, evP, evX, evR, blkOf, evA, storeA, Nat.reduceEqDiff, resL, resV, oneOrTup, Int.reduceEq, Int.reduceLT, Int.reduceLE, Int.reduceNeg, Int.reduceAdd, Int.reduceSub, Int.reduceMul, Int.reduceToNat, Nat.reduceAdd, noUnk, AV.cells, reduceCtorEq, Nat.reduceLeDiff, Cells.get, Cells.getN, Nat.reduceMul, ↓bnd_assoc]) (by simp only [a11, ↓sxp, sxq, ↓reduceIte, Nat.reduceBEq, Nat.reduceLT, evP, evX, evR, blkOf, evA, storeA, Nat.reduceEqDiff, resL, resV, oneOrTup, Int.reduceEq, Int.reduceLT, Int.reduceLE, Int.reduceNeg, Int.reduceAdd, Int.reduceSub, Int.reduceMul, Int.reduceToNat, Nat.reduceAdd, noUnk, AV.cells, reduceCtorEq, Nat.reduceLeDiff, Cells.get, Cells.getN, Nat.reduceMul, ↓bnd_assoc]) (by simp only [a12, ↓sxp, sxq, ↓reduceIte, Nat.reduceBEq, Nat.reduceLT, evP, evX, evR, blkOf, evA, storeA, Nat.reduceEqDiff, resL, resV, oneOrTup, Int.reduceEq, Int.reduceLT, Int.reduceLE, Int.reduceNeg, Int.reduceAdd, Int.reduceSub, Int.reduceMul, Int.reduceToNat, Nat.reduceAdd, noUnk, AV.cells, reduceCtorEq, Nat.reduceLeDiff, Cells.get, Cells.getN, Nat.reduceMul, ↓bnd_assoc]) (by simp only [↓sxp, sxq, ↓reduceIte, Nat.reduceBEq, Nat.reduceLT, evP, evX, evR, blkOf, evA, storeA, Nat.reduceEqDiff, resL, resV, oneOrTup, Int.reduceEq, Int.reduceLT, Int.reduceLE, Int.reduceNeg, Int.reduceAdd, Int.reduceSub, Int.reduceMul, Int.reduceToNat, Nat.reduceAdd, noUnk, AV.cells, reduceCtorEq, Nat.reduceLeDiff, Cells.get, Cells.getN, Nat.reduceMul, ↓bnd_assoc]) ((h3.ord [1, 0]).rm 2)
    · simp only [a4, a13, hwr, ↓g1, k1, k2, k3, ↓sxp, sxq, ↓reduceIte, Nat.reduceBEq, Nat.reduceLT, evP, evX, evR, blkOf, evA, storeA, Nat.reduceEqDiff, resL, resV, oneOrTup, Int.reduceEq, Int.reduceLT, Int.reduceLE, Int.reduceNeg, Int.reduceAdd, Int.reduceSub, Int.reduceMul, Int.reduceToNat, Nat.reduceAdd, noUnk, AV.cells, reduceCtorEq, Nat.reduceLeDiff, Cells.get, Cells.getN, Nat.reduceMul, ↓bnd_assoc]
      exact fin _ _ _ _ hi hw4 (by omega) (by omega) (by simp only [a4, ↓sxp, sxq, ↓reduceIte, Nat.reduceBEq, Nat.reduceLT, evP, evX, evR, blkOf, evA, storeA, Nat.reduceEqDiff, resL, resV, oneOrTup, Int.reduceEq, Int.reduceLT, Int.reduceLE, Int.reduceNeg, Int.reduceAdd, Int.reduceSub, Int.reduceMul, Int.reduceToNat, Nat.reduceAdd, noUnk, AV.cells, reduceCtorEq, Nat.reduceLeDiff, Cells.get, Cells.getN, Nat.reduceMul, ↓bnd_assoc]) (by simp only [a5, ↓sxp, sxq, ↓reduceIte, Nat.reduceBEq, Nat.reduceLT, evP, evX, evR, blkOf, evA, storeA, Nat.reduceEqDiff, resL, resV, oneOrTup, Int.reduceEq, Int.reduceLT, Int.reduceLE, Int.reduceNeg, Int.reduceAdd, Int.reduceSub, Int.reduceMul, Int.reduceToNat, Nat.reduceAdd, noUnk, AV.cells, reduceCtorEq, Nat.reduceLeDiff, Cells.get, Cells.getN, Nat.reduceMul, ↓bnd_assoc]) (by simp only [a11, ↓sxp, sxq, ↓reduceIte, Nat.reduceBEq, Nat.reduceLT, evP, evX, evR, blkOf, evA, storeA, Nat.reduceEqDiff, resL, resV, oneOrTup, Int.reduceEq, Int.reduceLT, Int.reduceLE, Int.reduceNeg, Int.reduceAdd, Int.reduceSub, Int.reduceMul, Int.reduceToNat, Nat.reduceAdd, noUnk, AV.cells, reduceCtorEq, Nat.reduceLeDiff, Cells.get, Cells.getN, Nat.reduceMul, ↓bnd_assoc]) (by simp only [a12, ↓sxp, sxq, ↓reduceIte, Nat.reduceBEq, Nat.reduceLT, evP, evX, evR, blkOf, evA, storeA, Nat.reduceEqDiff, resL, resV, oneOrTup, Int.reduceEq, Int.reduceLT, Int.reduceLE, Int.reduceNeg, Int.reduceAdd, Int.reduceSub, Int.reduceMul, Int.reduceToNat, Nat.reduceAdd, noUnk, AV.cells, reduceCtorEq, Nat.reduceLeDiff, Cells.get, Cells.getN, Nat.reduceMul, ↓bnd_assoc]) (by simp only [↓sxp, sxq, ↓reduceIte, Nat.reduceBEq, Nat.reduceLT, evP, evX, evR, blkOf, evA, storeA, Nat.reduceEqDiff, resL, resV, oneOrTup, Int.reduceEq, Int.reduceLT, Int.reduceLE, Int.reduceNeg, Int.reduceAdd, Int.reduceSub, Int.reduceMul, Int.reduceToNat, Nat.reduceAdd, noUnk, AV.cells, reduceCtorEq, Nat.reduceLeDiff, Cells.get, Cells.getN, Nat.reduceMul, ↓bnd_assoc]) h1.tail
/-- What can be said of a store that was made. -/
structure Good (S : MS) : Prop where
  i : ∃ B, Inv S B
  w4 : W4 S.L
  len : S.L.length ≤ 30
theorem Good.wf {S : MS} (h : Good S) : WFL S.L := h.i.elim fun _ h => h.wf
theorem l_made (hE : EnvK E) {ds : List Do1} {v : AV} (hv : Dos W ds v) (hf : fewL ds = true) (hd : ds.length ≤ 30) (h : Holds H Γ) :
    ∃ x : Nat × MS × AV, ∃ H', go W E 24 [v] H = some (.tup [.ptr (some ⟨.own x.1, 0⟩), x.2.2], H') ∧ Holds H' (HP.pure (Good x.2.1) :: storeP W x.1 x.2.1 :: row 33 3 (flat3 x.2.1.L) x.2.2 :: Γ) := by
  have hl := hv.2.1
  suffices hh : Fin (fun r : AV × Heap => ∃ x : Nat × MS × AV, r.1 = .tup [.ptr (some ⟨.own x.1, 0⟩), x.2.2] ∧ Holds r.2 (HP.pure (Good x.2.1) :: storeP W x.1 x.2.1 :: row 33 3 (flat3 x.2.1.L) x.2.2 :: Γ)) (go W E 24 [v] H) by
    obtain ⟨⟨r, H'⟩, e, x, hr, q⟩ := hh
    simp only at hr q
    subst hr
    exact ⟨x, H', e, q⟩
  rw [go_code hE.f24 (by simp [sf24])]
  simp only [sf24, ↓sxp, sxq, ↓reduceIte, Nat.reduceBEq, Nat.reduceLT, evP, evX, evR, blkOf, evA, storeA, Nat.reduceEqDiff, resL, resV, oneOrTup, Int.reduceEq, Int.reduceLT, Int.reduceLE, Int.reduceNeg, Int.reduceAdd, Int.reduceSub, Int.reduceMul, Int.reduceToNat, Nat.reduceAdd, noUnk, AV.cells, reduceCtorEq, Nat.reduceLeDiff, Cells.get, Cells.getN, Nat.reduceMul, ↓bnd_assoc]
  refine Fin.callE _ _ (s_new (W := W) hE.t h) fun p H3 q3 => ?_
  have q4 := q3.push (c := [.sl none 0 (.exact 0), .sl none 0 (.exact 0)]) (t := 31)
  generalize H3.next = q at *
  have q6 := refP_shut (W := W) (L := []) (B := []) .nil (((q4.row_nil (ty := 34) (es := 1)).row_nil (ty := 33) (es := 3)).ord [2])
  simp only [hl, ↓sxp, sxq, ↓reduceIte, Nat.reduceBEq, Nat.reduceLT, evP, evX, evR, blkOf, evA, storeA, Nat.reduceEqDiff, resL, resV, oneOrTup, Int.reduceEq, Int.reduceLT, Int.reduceLE, Int.reduceNeg, Int.reduceAdd, Int.reduceSub, Int.reduceMul, Int.reduceToNat, Nat.reduceAdd, noUnk, AV.cells, reduceCtorEq, Nat.reduceLeDiff, Cells.get, Cells.getN, Nat.reduceMul, ↓bnd_assoc]
  refine Fin.loop (made_loop (p := p) (q := q) hE hv hf hd ds.length 0 _ _ S0 [] (by omega) (by simp only [↓sxp, sxq, ↓reduceIte, Nat.reduceBEq, Nat.reduceLT, evP, evX, evR, blkOf, evA, storeA, Nat.reduceEqDiff, resL, resV, oneOrTup, Int.reduceEq, Int.reduceLT, Int.reduceLE, Int.reduceNeg, Int.reduceAdd, Int.reduceSub, Int.reduceMul, Int.reduceToNat, Nat.reduceAdd, noUnk, AV.cells, reduceCtorEq, Nat.reduceLeDiff, Cells.get, Cells.getN, Nat.reduceMul, ↓bnd_assoc]) (by simp only [↓sxp, sxq, ↓reduceIte, Nat.reduceBEq, Nat.reduceLT, evP, evX, evR, blkOf, evA, storeA, Nat.reduceEqDiff, resL, resV, oneOrTup, Int.reduceEq, Int.reduceLT, Int.reduceLE, Int.reduceNeg, Int.reduceAdd, Int.reduceSub, Int.reduceMul, Int.reduceToNat, Nat.reduceAdd, noUnk, AV.cells, reduceCtorEq, Nat.reduceLeDiff, Cells.get, Cells.getN, Nat.reduceMul, ↓bnd_assoc]) (by simp only [↓sxp, sxq, ↓reduceIte, Nat.reduceBEq, Nat.reduceLT, evP, evX, evR, blkOf, evA, storeA, Nat.reduceEqDiff, resL, resV, oneOrTup, Int.reduceEq, Int.reduceLT, Int.reduceLE, Int.reduceNeg, Int.reduceAdd, Int.reduceSub, Int.reduceMul, Int.reduceToNat, Nat.reduceAdd, noUnk, AV.cells, reduceCtorEq, Nat.reduceLeDiff, Cells.get, Cells.getN, Nat.reduceMul, ↓bnd_assoc]) (by simp only [↓sxp, sxq, ↓reduceIte, Nat.reduceBEq, Nat.reduceLT, evP, evX, evR, blkOf, evA, storeA, Nat.reduceEqDiff, resL, resV, oneOrTup, Int.reduceEq, Int.reduceLT, Int.reduceLE, Int.reduceNeg, Int.reduceAdd, Int.reduceSub, Int.reduceMul, Int.reduceToNat, Nat.reduceAdd, noUnk, AV.cells, reduceCtorEq, Nat.reduceLeDiff, Cells.get, Cells.getN, Nat.reduceMul, ↓bnd_assoc]) (by simp only [↓sxp, sxq, ↓reduceIte, Nat.reduceBEq, Nat.reduceLT, evP, evX, evR, blkOf, evA, storeA, Nat.reduceEqDiff, resL, resV, oneOrTup, Int.reduceEq, Int.reduceLT, Int.reduceLE, Int.reduceNeg, Int.reduceAdd, Int.reduceSub, Int.reduceMul, Int.reduceToNat, Nat.reduceAdd, noUnk, AV.cells, reduceCtorEq, Nat.reduceLeDiff, Cells.get, Cells.getN, Nat.reduceMul, ↓bnd_assoc]; rfl) inv0 (fun i x hx => by simp [S0] at hx) (by simp [S0]) (by simp [S0]) (q6.ord [1])) fun lv A H5 ⟨hlv, a4, a5, S, B, hi, hw4, hL, hT, q7⟩ => ?_
  subst hlv
  obtain ⟨vl, vb, fb, ho, q8⟩ := refP_open (q7.ord [1])
  have gq := (q8.bump 7).get
  simp only [a4, a5, ↓gq, ↓sxp, sxq, ↓reduceIte, Nat.reduceBEq, Nat.reduceLT, evP, evX, evR, blkOf, evA, storeA, Nat.reduceEqDiff, resL, resV, oneOrTup, Int.reduceEq, Int.reduceLT, Int.reduceLE, Int.reduceNeg, Int.reduceAdd, Int.reduceSub, Int.reduceMul, Int.reduceToNat, Nat.reduceAdd, noUnk, AV.cells, reduceCtorEq, Nat.reduceLeDiff, Cells.get, Cells.getN, Nat.reduceMul, ↓bnd_assoc]
  exact Fin.ret ⟨⟨p, S, vl⟩, rfl, Holds.pure' ⟨⟨B, hi⟩, hw4, hL⟩ (((q8.bump 7).tail.rm 1).ord [1])⟩
end
end Go.Proofs.Ytnfehkjkmlbceaa.Sx

