/- A second, deterministic reading of the program, part 3: proved sound for every order and every capacity; then what the functions do. -/
import Derived.Test.YtjfnhdiimibmiaaDoorMaB
import Derived.IntWalk
/- Pieces of memory. -/
namespace Go.Proofs.YtjfnhdiimibmiaaDoor.Sx

/-- A piece of memory, with the numbers that it stands in. -/
structure HP where
  P : Heap → List Nat → Prop
  lt : ∀ {H : Heap} {fp : List Nat}, HWf H → P H fp → ∀ i ∈ fp, i < H.next
  keep : ∀ {H H' : Heap} {fp fq : List Nat}, HWf H → P H fp → Keep fq H H' → (∀ i ∈ fp, i ∉ fq) → P H' fp
namespace HP
def emp : HP := ⟨fun _ fp => fp = [], fun _ h => by subst h; simp, fun _ h _ _ => h⟩
def sep (A B : HP) : HP := ⟨fun H fp => ∃ f g, A.P H f ∧ B.P H g ∧ fp = f ++ g ∧ ∀ i ∈ f, i ∉ g,
  fun hw ⟨f, g, a, b, e, _⟩ i hi => by subst e; rcases List.mem_append.1 hi with h | h; exact A.lt hw a i h; exact B.lt hw b i h,
  fun hw ⟨f, g, a, b, e, d⟩ k hd => by
    subst e
    exact ⟨f, g, A.keep hw a k (fun i hi => hd i (List.mem_append.2 (.inl hi))), B.keep hw b k (fun i hi => hd i (List.mem_append.2 (.inr hi))), rfl, d⟩⟩
def ex {α : Type} (F : α → HP) : HP := ⟨fun H fp => ∃ a, (F a).P H fp, fun hw ⟨a, h⟩ => (F a).lt hw h, fun hw ⟨a, h⟩ k hd => ⟨a, (F a).keep hw h k hd⟩⟩
def pure (φ : Prop) : HP := ⟨fun _ fp => fp = [] ∧ φ, fun _ h => by simp [h.1], fun _ h _ _ => h⟩
def all : List HP → HP
  | [] => emp
  | A :: l => sep A (all l)
def obj (i : Nat) (o : AObj) (ho : o.line = none) : HP := ⟨fun H fp => fp = [i] ∧ H.get i = some o,
  fun hw h j hj => by rw [h.1] at hj; simp at hj; subst hj; exact hw.lt h.2,
  fun hw h k hd => ⟨h.1, k.get hw h.2 (hd i (by simp [h.1])) (fun l e => by rw [ho] at e; cases e)⟩⟩
def blk (i : Nat) (c : List AV) (t : TypeId) : HP := obj i (.cells (.lst c) t none) rfl
def mp (i : Nat) (es : List (AV × AV)) : HP := obj i (.map es) rfl
def row (ty es : Nat) (flat : List AV) (v : AV) : HP := ⟨fun H fp => Row H ty es flat v fp, fun hw h => h.lt hw, fun hw h k hd => h.keep hw k hd⟩
def by_ (W : World) (bs : List UInt8) (v : AV) : HP := ⟨fun H fp => By W H bs v fp, fun hw h i hi => by
    cases h with
    | nil _ => cases hi
    | zero _ j c hb => simp at hi; subst hi; exact hw.lt hb
    | emp _ => cases hi
    | old _ _ _ _ _ _ => cases hi
    | own j l cap hb =>
      simp at hi
      rcases hi with rfl | rfl
      · exact hw.lt hb
      · exact hw.line_lt hb,
  fun hw h k hd => h.keep hw k hd⟩
/-- A number that has been set aside. -/
def resv (i : Nat) : HP := ⟨fun H fp => fp = [i] ∧ i < H.next, fun _ h j hj => by rw [h.1] at hj; simp at hj; subst hj; exact h.2, fun _ h k _ => ⟨h.1, Nat.lt_of_lt_of_le h.2 k.nx⟩⟩
end HP
open HP

structure Holds (H : Heap) (Γ : List HP) : Prop where
  wf : HWf H
  a : ∃ fp, (all Γ).P H fp
section
variable {H H' : Heap} {Γ Δ : List HP} {A B : HP}
theorem Holds.nil (h : HWf H) : Holds H [] := ⟨h, [], rfl⟩
theorem Holds.tail (h : Holds H (A :: Γ)) : Holds H Γ := by
  obtain ⟨fp, f, g, a, b, _⟩ := h.a
  exact ⟨h.wf, g, b⟩
theorem Holds.swap (h : Holds H (A :: B :: Γ)) : Holds H (B :: A :: Γ) := by
  obtain ⟨fp, f, g, a, ⟨f2, g2, b, c, e2, d2⟩, e, d⟩ := h.a
  subst e2
  refine ⟨h.wf, _, f2, f ++ g2, b, ⟨f, g2, a, c, rfl, fun i hi hg => d i hi (List.mem_append.2 (.inr hg))⟩, rfl, fun i hi hg => ?_⟩
  rcases List.mem_append.1 hg with h1 | h1
  · exact d i h1 (List.mem_append.2 (.inl hi))
  · exact d2 i hi h1
theorem all_mono {Γ Δ : List HP} (hm : ∀ {fp}, (all Γ).P H fp → (all Δ).P H fp) {fp : List Nat} (h : (all (A :: Γ)).P H fp) : (all (A :: Δ)).P H fp := by
  obtain ⟨f, g, a, b, e, d⟩ := h
  exact ⟨f, g, a, hm b, e, d⟩
/-- The k-th piece comes first. -/
theorem all_front : ∀ (k : Nat) (Γ : List HP) {fp : List Nat} (hk : k < Γ.length), (all Γ).P H fp → ∃ fp', (all (Γ[k] :: Γ.eraseIdx k)).P H fp' ∧ ∀ i, i ∈ fp' ↔ i ∈ fp := by
  intro k
  induction k with
  | zero =>
    intro Γ fp hk h
    cases Γ with
    | nil => simp at hk
    | cons A Γ => exact ⟨fp, h, fun _ => Iff.rfl⟩
  | succ k ih =>
    intro Γ fp hk h
    cases Γ with
    | nil => simp at hk
    | cons A Γ =>
      obtain ⟨f, g, a, b, e, d⟩ := h
      obtain ⟨g', b', hi⟩ := ih Γ (by simpa using hk) b
      obtain ⟨f2, g2, c1, c2, e2, d2⟩ := b'
      subst e2; subst e
      refine ⟨f2 ++ (f ++ g2), ⟨f2, f ++ g2, by simpa using c1, ⟨f, g2, a, by simpa using c2, rfl, fun i h1 h2 => d i h1 ((hi i).1 (List.mem_append.2 (.inr h2)))⟩, rfl, fun i h1 h2 => ?_⟩, fun i => ?_⟩
      · rcases List.mem_append.1 h2 with h3 | h3
        · exact d i h3 ((hi i).1 (List.mem_append.2 (.inl h1)))
        · exact d2 i h1 h3
      · have := hi i
        simp only [List.mem_append] at this ⊢
        rw [← this]
        constructor
        · rintro (h | h | h)
          · exact .inr (.inl h)
          · exact .inl h
          · exact .inr (.inr h)
        · rintro (h | h | h)
          · exact .inr (.inl h)
          · exact .inl h
          · exact .inr (.inr h)
theorem Holds.fr (h : Holds H Γ) (k : Nat) (hk : k < Γ.length := by simp) : Holds H (Γ[k] :: Γ.eraseIdx k) := by
  obtain ⟨fp, a⟩ := h.a
  obtain ⟨fp', b, _⟩ := all_front k Γ hk a
  exact ⟨h.wf, fp', b⟩
theorem Holds.ex {α : Type} {F : α → HP} (h : Holds H (HP.ex F :: Γ)) : ∃ a, Holds H (F a :: Γ) := by
  obtain ⟨fp, f, g, ⟨x, a⟩, b⟩ := h.a
  exact ⟨x, h.wf, fp, f, g, a, b⟩
theorem Holds.ex' {α : Type} {F : α → HP} (x : α) (h : Holds H (F x :: Γ)) : Holds H (HP.ex F :: Γ) := by
  obtain ⟨fp, f, g, a, b⟩ := h.a
  exact ⟨h.wf, fp, f, g, ⟨x, a⟩, b⟩
theorem Holds.sep (h : Holds H (HP.sep A B :: Γ)) : Holds H (A :: B :: Γ) := by
  obtain ⟨fp, f, g, ⟨f1, f2, a, b, e1, d1⟩, c, e, d⟩ := h.a
  subst e1; subst e
  refine ⟨h.wf, _, f1, f2 ++ g, a, ⟨f2, g, b, c, rfl, fun i hi => d i (List.mem_append.2 (.inr hi))⟩, rfl, fun i hi hg => ?_⟩
  rcases List.mem_append.1 hg with h1 | h1
  · exact d1 i hi h1
  · exact d i (List.mem_append.2 (.inl hi)) h1
theorem Holds.sep' (h : Holds H (A :: B :: Γ)) : Holds H (HP.sep A B :: Γ) := by
  obtain ⟨fp, f, g, a, ⟨f2, g2, b, c, e2, d2⟩, e, d⟩ := h.a
  subst e2
  refine ⟨h.wf, _, f ++ f2, g2, ⟨f, f2, a, b, rfl, fun i hi hg => d i hi (List.mem_append.2 (.inl hg))⟩, c, rfl, fun i hi => ?_⟩
  rcases List.mem_append.1 hi with h1 | h1
  · exact fun hg => d i h1 (List.mem_append.2 (.inr hg))
  · exact d2 i h1
theorem Holds.pure {φ : Prop} (h : Holds H (HP.pure φ :: Γ)) : φ ∧ Holds H Γ := by
  obtain ⟨fp, f, g, a, b⟩ := h.a
  exact ⟨a.2, h.tail⟩
theorem Holds.pure' {φ : Prop} (hφ : φ) (h : Holds H Γ) : Holds H (HP.pure φ :: Γ) := by
  obtain ⟨fp, b⟩ := h.a
  exact ⟨h.wf, fp, [], fp, ⟨rfl, hφ⟩, b, rfl, by simp⟩
theorem Holds.imp (h : Holds H (A :: Γ)) (hi : ∀ fp, A.P H fp → B.P H fp) : Holds H (B :: Γ) := by
  obtain ⟨fp, f, g, a, b⟩ := h.a
  exact ⟨h.wf, fp, f, g, hi f a, b⟩
/-- A step that touches no more than the first piece. -/
theorem Holds.step (h : Holds H (A :: Γ)) (hs : ∀ fp, A.P H fp → ∃ fp', B.P H' fp' ∧ Keep fp H H' ∧ ∀ i ∈ fp', i ∈ fp ∨ H.next ≤ i) : Holds H' (B :: Γ) := by
  obtain ⟨fp, f, g, a, b, e, d⟩ := h.a
  obtain ⟨f', a', k, hn⟩ := hs f a
  refine ⟨k.wf, _, f', g, a', (all Γ).keep h.wf b k (fun i hi hf => d i hf hi), rfl, fun i hi hg => ?_⟩
  rcases hn i hi with h1 | h1
  · exact d i h1 hg
  · have := (all Γ).lt h.wf b i hg; omega
/-- The same, where what is told is found with it. -/
theorem Holds.stepE {α : Type} {Q : Heap → α → Prop} {B : α → HP} (h : Holds H (A :: Γ)) (hs : ∀ fp, A.P H fp → ∃ H' x, Q H' x ∧ ∃ fp', (B x).P H' fp' ∧ Keep fp H H' ∧ ∀ i ∈ fp', i ∈ fp ∨ H.next ≤ i) : ∃ H' x, Q H' x ∧ Holds H' (B x :: Γ) := by
  obtain ⟨fp, f, g, a, b, e, d⟩ := h.a
  obtain ⟨H', x, q, f', a', k, hn⟩ := hs f a
  refine ⟨H', x, q, k.wf, _, f', g, a', (all Γ).keep h.wf b k (fun i hi hf => d i hf hi), rfl, fun i hi hg => ?_⟩
  rcases hn i hi with h1 | h1
  · exact d i h1 hg
  · have := (all Γ).lt h.wf b i hg; omega
/-- A step that touches nothing. -/
theorem Holds.same (h : Holds H Γ) (k : Keep [] H H') : Holds H' Γ := by
  obtain ⟨fp, a⟩ := h.a
  exact ⟨k.wf, fp, (all Γ).keep h.wf a k (by simp)⟩
theorem Holds.get {i : Nat} {c : List AV} {t : TypeId} (h : Holds H (blk i c t :: Γ)) : H.get i = some (.cells (.lst c) t none) := by
  obtain ⟨fp, f, g, a, b⟩ := h.a
  exact a.2
theorem Holds.getm {i : Nat} {es : List (AV × AV)} (h : Holds H (mp i es :: Γ)) : H.get i = some (.map es) := by
  obtain ⟨fp, f, g, a, b⟩ := h.a
  exact a.2
theorem Holds.push {c : List AV} {t : TypeId} (h : Holds H Γ) : Holds (H.push (.cells (.lst c) t none)) (blk H.next c t :: Γ) := by
  obtain ⟨k1, k2, k3⟩ := push_keep h.wf (o := .cells (.lst c) t none) rfl
  obtain ⟨fp, a⟩ := h.a
  refine ⟨k1.wf, _, [H.next], fp, ⟨rfl, k2⟩, (all Γ).keep h.wf a k1 (by simp), rfl, fun i hi hg => ?_⟩
  have := (all Γ).lt h.wf a i hg
  simp at hi; omega
theorem Holds.pushm {es : List (AV × AV)} (h : Holds H Γ) : Holds (H.push (.map es)) (mp H.next es :: Γ) := by
  obtain ⟨k1, k2, k3⟩ := push_keep h.wf (o := .map es) rfl
  obtain ⟨fp, a⟩ := h.a
  refine ⟨k1.wf, _, [H.next], fp, ⟨rfl, k2⟩, (all Γ).keep h.wf a k1 (by simp), rfl, fun i hi hg => ?_⟩
  have := (all Γ).lt h.wf a i hg
  simp at hi; omega
theorem Holds.bump (h : Holds H Γ) (n : Nat) : Holds { H with next := H.next + n } Γ := h.same (keep_bump h.wf (Nat.le_add_right _ _))
theorem Holds.bump1 (h : Holds H Γ) (n i : Nat) (hi : i < n := by omega) : Holds { H with next := H.next + n } (resv (H.next + i) :: Γ) := by
  have k := keep_bump (n := H.next + n) h.wf (Nat.le_add_right _ _)
  obtain ⟨fp, a⟩ := h.a
  refine ⟨k.wf, _, [H.next + i], fp, ⟨rfl, by show _ < H.next + n; omega⟩, (all Γ).keep h.wf a k (by simp), rfl, fun j hj hg => ?_⟩
  have := (all Γ).lt h.wf a j hg
  simp at hj; omega
theorem Holds.bump2 (h : Holds H Γ) (n i j : Nat) (hi : i < n := by omega) (hj : j < n := by omega) (hn : i ≠ j := by omega) : Holds { H with next := H.next + n } (resv (H.next + i) :: resv (H.next + j) :: Γ) := by
  have k := keep_bump (n := H.next + n) h.wf (Nat.le_add_right _ _)
  obtain ⟨fp, a⟩ := h.a
  refine ⟨k.wf, _, [H.next + i], _, ⟨rfl, by show _ < H.next + n; omega⟩, ⟨[H.next + j], fp, ⟨rfl, by show _ < H.next + n; omega⟩, (all Γ).keep h.wf a k (by simp), rfl, fun l hl hg => ?_⟩, rfl, fun l hl hg => ?_⟩
  · have := (all Γ).lt h.wf a l hg
    simp at hl; omega
  · simp at hl
    rcases List.mem_append.1 hg with h1 | h1
    · simp at h1; omega
    · have := (all Γ).lt h.wf a l h1; omega
theorem Holds.lay {id : Nat} {c : List AV} {t : TypeId} (h : Holds H (resv id :: Γ)) : Holds (H.lay id (.cells (.lst c) t none)) (blk id c t :: Γ) :=
  h.step fun fp hp => by
    obtain ⟨k1, k2⟩ := keep_lay h.wf (o := .cells (.lst c) t none) hp.2 rfl
    exact ⟨[id], ⟨rfl, k2⟩, by rw [hp.1]; exact k1, fun i hi => .inl (by rw [hp.1]; exact hi)⟩
theorem Holds.laym {id : Nat} {es : List (AV × AV)} (h : Holds H (resv id :: Γ)) : Holds (H.lay id (.map es)) (mp id es :: Γ) :=
  h.step fun fp hp => by
    obtain ⟨k1, k2⟩ := keep_lay h.wf (o := .map es) hp.2 rfl
    exact ⟨[id], ⟨rfl, k2⟩, by rw [hp.1]; exact k1, fun i hi => .inl (by rw [hp.1]; exact hi)⟩
theorem Holds.set {i : Nat} {c c' : List AV} {t t' : TypeId} (h : Holds H (blk i c t :: Γ)) : Holds (H.setAt i (.cells (.lst c') t' none)) (blk i c' t' :: Γ) :=
  h.step fun fp hp => by
    obtain ⟨k1, k2, k3⟩ := setAt_keep h.wf hp.2 (o' := .cells (.lst c') t' none) rfl
    exact ⟨[i], ⟨rfl, k2⟩, by rw [hp.1]; exact k1, fun j hj => .inl (by rw [hp.1]; exact hj)⟩
theorem Holds.setm {i : Nat} {es es' : List (AV × AV)} (h : Holds H (mp i es :: Γ)) : Holds (H.setAt i (.map es')) (mp i es' :: Γ) :=
  h.step fun fp hp => by
    obtain ⟨k1, k2, k3⟩ := setAt_keep h.wf hp.2 (o' := .map es') rfl
    exact ⟨[i], ⟨rfl, k2⟩, by rw [hp.1]; exact k1, fun j hj => .inl (by rw [hp.1]; exact hj)⟩
/-- Appending to a row. -/
theorem Holds.app {W : World} {ty es bytes : Nat} {flat new : List AV} {v x : AV} {k n : Nat} {os : Bool} (h : Holds H (row ty es flat v :: Γ)) (he : 0 < es) (hs : srcA W H es os x = some (k, new)) (hk : 0 < k) (hnl : new.length = k * es) (h1 : new.all oneC = true) (hn : flat.length = n * es) (hb : (n + k) * bytes ≤ 140737488355328) :
    ∃ v' H', appA W H ty es bytes os v x = some (v', H') ∧ Holds H' (row ty es (flat ++ new) v' :: Γ) := by
  obtain ⟨fp, f, g, a, b, e, d⟩ := h.a
  obtain ⟨v', H', ids', e1, r, k', hi⟩ := Row.app (bytes := bytes) h.wf a he hs hk hnl h1 hn hb
  refine ⟨v', H', e1, h.step fun fp2 hp => ?_⟩
  obtain ⟨v2, H2, ids2, e2, r2, k2, hi2⟩ := Row.app (bytes := bytes) h.wf hp he hs hk hnl h1 hn hb
  rw [e1] at e2
  cases e2
  exact ⟨ids2, r2, k2, hi2⟩
theorem Holds.row_len {ty es n : Nat} {flat : List AV} {v : AV} (h : Holds H (row ty es flat v :: Γ)) (he : 0 < es) (hn : flat.length = n * es) : ∃ a c, v = .sl a n c := by
  obtain ⟨fp, f, g, a, b⟩ := h.a
  exact Row.len a he hn
/-- Reading from a row. -/
theorem Holds.row_get {ty es n : Nat} {flat : List AV} {v : AV} (h : Holds H (row ty es flat v :: Γ)) (he : 0 < es) (hn : flat.length = n * es) (h0 : 0 < n) : ∃ j l c, v = .sl (some ⟨.own j, 0⟩) n c ∧ H.get j = some (.cells (.lst flat) ty (some l)) := by
  obtain ⟨fp, f, g, a, b⟩ := h.a
  cases a with
  | nil =>
    have := Nat.mul_pos h0 he
    simp at hn; omega
  | mk hl0 hl hg hln =>
    rename_i j l fl len
    have : len = n := Nat.eq_of_mul_eq_mul_right he (hl.symm.trans hn)
    subst this
    exact ⟨j, l, _, rfl, hg⟩

theorem sep_assoc {C : HP} {H : Heap} {fp : List Nat} : (HP.sep (HP.sep A B) C).P H fp ↔ (HP.sep A (HP.sep B C)).P H fp := by
  constructor
  · rintro ⟨_, g, ⟨f1, f2, a, b, rfl, d1⟩, c, rfl, d⟩
    exact ⟨f1, f2 ++ g, a, ⟨f2, g, b, c, rfl, fun i hi => d i (List.mem_append.2 (.inr hi))⟩, by simp, fun i hi hg => by
      rcases List.mem_append.1 hg with h1 | h1
      · exact d1 i hi h1
      · exact d i (List.mem_append.2 (.inl hi)) h1⟩
  · rintro ⟨f1, _, a, ⟨f2, g, b, c, rfl, d1⟩, rfl, d⟩
    exact ⟨f1 ++ f2, g, ⟨f1, f2, a, b, rfl, fun i hi hf => d i hi (List.mem_append.2 (.inl hf))⟩, c, by simp, fun i hi hg => by
      rcases List.mem_append.1 hi with h1 | h1
      · exact d i h1 (List.mem_append.2 (.inr hg))
      · exact d1 i h1 hg⟩
theorem all_app : ∀ (l : List HP) {H : Heap} {fp : List Nat}, (all (all l :: Γ)).P H fp ↔ (all (l ++ Γ)).P H fp := by
  intro l
  induction l with
  | nil =>
    intro H fp
    constructor
    · rintro ⟨_, g, rfl, b, rfl, _⟩; exact b
    · intro h; exact ⟨[], fp, rfl, h, rfl, by simp⟩
  | cons A l ih =>
    intro H fp
    show (HP.sep (HP.sep A (all l)) (all Γ)).P H fp ↔ (HP.sep A (all (l ++ Γ))).P H fp
    rw [sep_assoc]
    constructor
    · rintro ⟨f, g, a, b, e, d⟩; exact ⟨f, g, a, ih.1 b, e, d⟩
    · rintro ⟨f, g, a, b, e, d⟩; exact ⟨f, g, a, ih.2 b, e, d⟩
theorem Holds.opn {l : List HP} (h : Holds H (HP.all l :: Γ)) : Holds H (l ++ Γ) := ⟨h.wf, h.a.imp fun _ hp => (all_app l).1 hp⟩
theorem Holds.cls (l : List HP) (h : Holds H (l ++ Γ)) : Holds H (HP.all l :: Γ) := ⟨h.wf, h.a.imp fun _ hp => (all_app l).2 hp⟩
def takeAt : Nat → List HP → Option (HP × List HP)
  | 0, A :: Γ => some (A, Γ)
  | k + 1, A :: Γ => match takeAt k Γ with
    | some (B, Δ) => some (B, A :: Δ)
    | none => none
  | _, [] => none
def ord : List Nat → List HP → List HP
  | [], Γ => Γ
  | k :: ks, Γ => match takeAt k Γ with
    | some (B, Δ) => B :: ord ks Δ
    | none => Γ
theorem takeAt_eq : ∀ {k : Nat} {Γ Δ : List HP} {B : HP}, takeAt k Γ = some (B, Δ) → ∃ hk : k < Γ.length, Γ[k] = B ∧ Γ.eraseIdx k = Δ := by
  intro k
  induction k with
  | zero => intro Γ Δ B h; cases Γ <;> simp [takeAt] at h; obtain ⟨rfl, rfl⟩ := h; exact ⟨by simp, rfl, rfl⟩
  | succ k ih =>
    intro Γ Δ B h
    cases Γ with
    | nil => simp [takeAt] at h
    | cons A Γ =>
      simp only [takeAt] at h
      cases ht : takeAt k Γ with
      | none => simp [ht] at h
      | some x =>
        obtain ⟨C, Θ⟩ := x
        simp only [ht, Option.some.injEq, Prod.mk.injEq] at h
        obtain ⟨rfl, rfl⟩ := h
        obtain ⟨hk, h1, h2⟩ := ih ht
        exact ⟨by simp; omega, by simpa using h1, by simp [h2]⟩
theorem all_ord : ∀ (ks : List Nat) (Γ : List HP) {fp : List Nat}, (all Γ).P H fp → ∃ fp', (all (ord ks Γ)).P H fp' ∧ ∀ i, i ∈ fp' ↔ i ∈ fp := by
  intro ks
  induction ks with
  | nil => intro Γ fp h; exact ⟨fp, h, fun _ => Iff.rfl⟩
  | cons k ks ih =>
    intro Γ fp h
    simp only [ord]
    cases ht : takeAt k Γ with
    | none => exact ⟨fp, h, fun _ => Iff.rfl⟩
    | some x =>
      obtain ⟨B, Δ⟩ := x
      obtain ⟨hk, h1, h2⟩ := takeAt_eq ht
      obtain ⟨fp', h', hi⟩ := all_front k Γ hk h
      rw [h1, h2] at h'
      obtain ⟨f, g, a, b, e, d⟩ := h'
      obtain ⟨g', b', hi'⟩ := ih Δ b
      subst e
      refine ⟨f ++ g', ⟨f, g', a, b', rfl, fun i hi hg => d i hi ((hi' i).1 hg)⟩, fun i => ?_⟩
      rw [← hi i]
      simp only [List.mem_append, hi' i]
theorem Holds.ord (h : Holds H Γ) (ks : List Nat) : Holds H (ord ks Γ) := by
  obtain ⟨fp, a⟩ := h.a
  obtain ⟨fp', b, _⟩ := all_ord ks Γ a
  exact ⟨h.wf, fp', b⟩
end
end Go.Proofs.YtjfnhdiimibmiaaDoor.Sx

/- More rules for following code. -/
namespace Go.Proofs.YtjfnhdiimibmiaaDoor.Sx
theorem w64 {n : Int} (h : -9223372036854775808 ≤ n ∧ n ≤ 9223372036854775807) : IntKind.i64.wrap n = n := by rw [IntKind.wrap_i64]; omega
theorem fill_nil {cells : List AV} : fill cells [] = some cells := (Eq.refl _).trans rfl
theorem cells_one {v : AV} (h : oneC v = true) : v.cells = [v] := by cases v <;> first | rfl | cases h
theorem fill_one {cells : List AV} {off : Nat} {v : AV} {r : List (Nat × Nat × AV)} (h : oneC v = true) : fill cells ((off, 1, v) :: r) = if off + 1 ≤ cells.length then fill (cells.take off ++ v :: cells.drop (off + 1)) r else none := by
  have hc := cells_one h
  cases v <;> first | (simp only [fill, hc, List.length_cons, List.length_nil, if_true]; simp; done) | cases h
theorem fill_agg {cells cs : List AV} {off n : Nat} {r : List (Nat × Nat × AV)} : fill cells ((off, n, .agg cs) :: r) = if cs.length = n then (if off + n ≤ cells.length then fill (cells.take off ++ cs ++ cells.drop (off + n)) r else none) else none := (Eq.refl _).trans rfl
theorem oneC_int {k : IntKind} {n : Int} : oneC (.int k n) = true := (Eq.refl _).trans rfl
theorem oneC_bool {b : Bool} : oneC (.bool b) = true := (Eq.refl _).trans rfl
theorem oneC_str {b : List UInt8} : oneC (.str b) = true := (Eq.refl _).trans rfl
theorem oneC_sl {a : Option Ad} {n : Nat} {c : Cap} : oneC (.sl a n c) = true := (Eq.refl _).trans rfl
theorem oneC_ptr {a : Option Ad} : oneC (.ptr a) = true := (Eq.refl _).trans rfl
theorem oneC_map {a : Option Rf} : oneC (.map a) = true := (Eq.refl _).trans rfl
theorem zerosL_0 {z : List AV} : zerosL z 0 = [] := (Eq.refl _).trans rfl
theorem zerosL_1 {z : List AV} : zerosL z 1 = z := by simp [zerosL]
def b2sV (W : World) (H : Heap) : AV → Option AV
  | .sl none _ _ => some (.str [])
  | .emp => some (.str [])
  | .fin _ _ => some (.str [])
  | .sl (some a) len _ => match blkOf W H a.rf with
    | some c => match c.getN a.off len with
      | some l => (bytesOfL l).map .str
      | none => none
    | none => none
  | _ => none
def lenV : AV → Option AV
  | .sl _ n _ => some (.int .i64 n)
  | .emp => some (.int .i64 0)
  | .fin _ _ => some (.int .i64 0)
  | _ => none
def loadV (W : World) (H : Heap) (n : Option Nat) : AV → Option AV
  | .ptr (some a) => match blkOf W H a.rf with
    | some c => match n with
      | none => c.get a.off
      | some k => (c.getN a.off k).map .agg
    | none => none
  | _ => none
def iaddrV (es : Nat) : AV → AV → Option AV
  | .sl (some a) len _, .int _ i => if 0 ≤ i ∧ i < len then some (.ptr (some ⟨a.rf, a.off + i.toNat * es⟩)) else none
  | _, _ => none
section
variable {W : World} {H : Heap} {A : Tm}
theorem evR_b2s {x : SX} : evR W H A (.b2s x) = b2sV W H (evX A x) := (Eq.refl _).trans rfl
theorem evR_load {n : Option Nat} {x : SX} : evR W H A (.load n x) = loadV W H n (evX A x) := (Eq.refl _).trans rfl
theorem evP_len {x : SX} : evP A (.len x) = lenV (evX A x) := (Eq.refl _).trans rfl
theorem evP_iaddr {es : Nat} {x i : SX} : evP A (.iaddr es x i) = iaddrV es (evX A x) (evX A i) := (Eq.refl _).trans rfl
theorem lenV_sl {a : Option Ad} {n : Nat} {c : Cap} : lenV (.sl a n c) = some (.int .i64 n) := (Eq.refl _).trans rfl
theorem lenV_emp : lenV .emp = some (.int .i64 0) := (Eq.refl _).trans rfl
theorem load_own1 {i off : Nat} : loadV W H none (.ptr (some ⟨.own i, off⟩)) = bnd (H.get i) fun o => match o with | .cells c _ _ => c.get off | _ => none := by
  simp only [loadV, blkOf]
  cases H.get i with
  | none => rfl
  | some o => cases o <;> rfl
theorem load_ownN {i off n : Nat} : loadV W H (some n) (.ptr (some ⟨.own i, off⟩)) = bnd (H.get i) fun o => match o with | .cells c _ _ => (c.getN off n).map .agg | _ => none := by
  simp only [loadV, blkOf]
  cases H.get i with
  | none => rfl
  | some o => cases o <;> rfl
theorem iaddr_own {es n : Nat} {r : Rf} {off : Nat} {c : Cap} {k : IntKind} {i : Int} : iaddrV es (.sl (some ⟨r, off⟩) n c) (.int k i) = if 0 ≤ i ∧ i < n then some (.ptr (some ⟨r, off + i.toNat * es⟩)) else none := (Eq.refl _).trans rfl
theorem bnd_assoc {α β γ : Type} {m : Option α} {k : α → Option β} {k' : β → Option γ} : bnd (bnd m k) k' = bnd m fun x => bnd (k x) k' := by cases m <;> rfl
/-- How a call ends. -/
def Ends (Q : AV → Heap → Prop) (o : Option (AV × Heap)) : Prop := ∃ r, o = some r ∧ Q r.1 r.2
theorem Ends.ret {Q : AV → Heap → Prop} {v : AV} {H : Heap} (h : Q v H) : Ends Q (some (v, H)) := ⟨_, rfl, h⟩
theorem Ends.out {v : AV} {Γ : List HP} {o : Option (AV × Heap)} (h : Ends (fun r H' => r = v ∧ Holds H' Γ) o) : ∃ H', o = some (v, H') ∧ Holds H' Γ := by
  obtain ⟨⟨r, H'⟩, e, rfl, h⟩ := h
  exact ⟨H', e, h⟩
theorem Ends.out2 {B : AV → List HP} {o : Option (AV × Heap)} (h : Ends (fun r H' => Holds H' (B r)) o) : ∃ v H', o = some (v, H') ∧ Holds H' (B v) := by
  obtain ⟨⟨r, H'⟩, e, h⟩ := h
  exact ⟨r, H', e, h⟩
theorem Ends.bind {α : Type} {Q : AV → Heap → Prop} {m : Option α} {k : α → Option (AV × Heap)} {R : α → Prop} (h : ∃ r, m = some r ∧ R r) (hk : ∀ r, R r → Ends Q (k r)) : Ends Q (bnd m k) := by
  obtain ⟨r, rfl, hr⟩ := h
  exact hk r hr
theorem Ends.call {Q : AV → Heap → Prop} {m : Option (AV × Heap)} {k : AV × Heap → Option (AV × Heap)} {v : AV} {Γ : List HP} (h : ∃ H', m = some (v, H') ∧ Holds H' Γ) (hk : ∀ H', Holds H' Γ → Ends Q (k (v, H'))) : Ends Q (bnd m k) := by
  obtain ⟨r, rfl, hr⟩ := h
  exact hk r hr
theorem Ends.call2 {Q : AV → Heap → Prop} {m : Option (AV × Heap)} {k : AV × Heap → Option (AV × Heap)} {B : AV → List HP} (h : ∃ v H', m = some (v, H') ∧ Holds H' (B v)) (hk : ∀ v H', Holds H' (B v) → Ends Q (k (v, H'))) : Ends Q (bnd m k) := by
  obtain ⟨v, r, rfl, hr⟩ := h
  exact hk v r hr
theorem Ends.loop {Q : AV → Heap → Prop} {m : Out} {k : Lv × Fr × Heap → Option (AV × Heap)} {df : List Nat} {ro : Option Nat} {R : Lv → Tm → Heap → Prop} (h : ∃ lv A' H', m = some (lv, ⟨A', df, ro⟩, H') ∧ R lv A' H') (hk : ∀ lv A' H', R lv A' H' → Ends Q (k (lv, ⟨A', df, ro⟩, H'))) : Ends Q (bnd m k) := by
  obtain ⟨lv, A', r, rfl, hr⟩ := h
  exact hk lv A' r hr
theorem Holds.writeN {H : Heap} {Γ : List HP} {j off : Nat} {c c' vs : List AV} {t : TypeId} (h : Holds H (HP.blk j c t :: Γ)) (hc : (Cells.lst c).setN off vs = .lst c') (hl : off + vs.length ≤ c.length) (hv : vs.all oneC = true) :
    H.write j off vs = some (H.setAt j (.cells (.lst c') t none)) ∧ Holds (H.setAt j (.cells (.lst c') t none)) (HP.blk j c' t :: Γ) := by
  refine ⟨?_, h.set⟩
  simp only [Heap.write, h.get, Cells.size, hv]
  rw [if_pos ⟨hl, trivial⟩, hc]
theorem Ends.write {Q : AV → Heap → Prop} {k : Heap → Option (AV × Heap)} {H : Heap} {Γ : List HP} {j off : Nat} {c vs : List AV} {t : TypeId} (c' : List AV) (h : Holds H (HP.blk j c t :: Γ)) (hc : (Cells.lst c).setN off vs = .lst c') (hl : off + vs.length ≤ c.length) (hv : vs.all oneC = true)
    (hk : ∀ H', Holds H' (HP.blk j c' t :: Γ) → Ends Q (k H')) : Ends Q (bnd (H.write j off vs) k) := by
  obtain ⟨e, h'⟩ := h.writeN hc hl hv
  rw [e, bnd_some]
  exact hk _ h'
theorem Ends.app {Q : AV → Heap → Prop} {k : AV × Heap → Option (AV × Heap)} {W : World} {H : Heap} {Γ : List HP} {ty es bytes : Nat} {flat new : List AV} {v x : AV} {k0 n : Nat} {os : Bool} (h : Holds H (HP.row ty es flat v :: Γ)) (he : 0 < es) (hs : srcA W H es os x = some (k0, new)) (hk0 : 0 < k0) (hnl : new.length = k0 * es) (h1 : new.all oneC = true) (hn : flat.length = n * es) (hb : (n + k0) * bytes ≤ 140737488355328)
    (hk : ∀ v' H', Holds H' (HP.row ty es (flat ++ new) v' :: Γ) → Ends Q (k (v', H'))) : Ends Q (bnd (appA W H ty es bytes os v x) k) := by
  obtain ⟨v', H', e, h'⟩ := h.app (bytes := bytes) he hs hk0 hnl h1 hn hb
  rw [e, bnd_some]
  exact hk _ _ h'
def rmAt (k : Nat) (Γ : List HP) : List HP := match takeAt k Γ with
  | some (_, Δ) => Δ
  | none => Γ
theorem Holds.rm {H : Heap} {Γ : List HP} (h : Holds H Γ) (k : Nat) : Holds H (rmAt k Γ) := by
  have h1 := h.ord [k]
  unfold rmAt
  simp only [Go.Proofs.YtjfnhdiimibmiaaDoor.Sx.ord] at h1
  cases ht : takeAt k Γ with
  | none => exact h
  | some x => rw [ht] at h1; exact h1.tail
theorem loop_mono {m : Out} {df : List Nat} {ro : Option Nat} {R R' : Lv → Tm → Heap → Prop} (h : ∃ lv A' H', m = some (lv, ⟨A', df, ro⟩, H') ∧ R lv A' H') (hr : ∀ lv A' H', R lv A' H' → R' lv A' H') : ∃ lv A' H', m = some (lv, ⟨A', df, ro⟩, H') ∧ R' lv A' H' := by
  obtain ⟨lv, A', H', e, h⟩ := h
  exact ⟨lv, A', H', e, hr _ _ _ h⟩
/-- How a piece of code ends. -/
def Fin {α : Type} (R : α → Prop) (o : Option α) : Prop := ∃ r, o = some r ∧ R r
theorem Fin.ret {α : Type} {R : α → Prop} {r : α} (h : R r) : Fin R (some r) := ⟨r, rfl, h⟩
theorem Fin.call {α : Type} {R : α → Prop} {m : Option (AV × Heap)} {k : AV × Heap → Option α} {v : AV} {Γ : List HP} (h : ∃ H', m = some (v, H') ∧ Holds H' Γ) (hk : ∀ H', Holds H' Γ → Fin R (k (v, H'))) : Fin R (bnd m k) := by
  obtain ⟨r, rfl, hr⟩ := h
  exact hk r hr
theorem Fin.callP {α : Type} {R : α → Prop} {m : Option (AV × Heap)} {k : AV × Heap → Option α} {v : AV} {P : Heap → Prop} (h : ∃ H', m = some (v, H') ∧ P H') (hk : ∀ H', P H' → Fin R (k (v, H'))) : Fin R (bnd m k) := by
  obtain ⟨r, rfl, hr⟩ := h
  exact hk r hr
theorem Fin.call2 {α : Type} {R : α → Prop} {m : Option (AV × Heap)} {k : AV × Heap → Option α} {B : AV → List HP} (h : ∃ v H', m = some (v, H') ∧ Holds H' (B v)) (hk : ∀ v H', Holds H' (B v) → Fin R (k (v, H'))) : Fin R (bnd m k) := by
  obtain ⟨v, r, rfl, hr⟩ := h
  exact hk v r hr
theorem Fin.write {α : Type} {R : α → Prop} {k : Heap → Option α} {H : Heap} {Γ : List HP} {j off : Nat} {c vs : List AV} {t : TypeId} (c' : List AV) (h : Holds H (HP.blk j c t :: Γ)) (hc : (Cells.lst c).setN off vs = .lst c') (hl : off + vs.length ≤ c.length) (hv : vs.all oneC = true)
    (hk : ∀ H', Holds H' (HP.blk j c' t :: Γ) → Fin R (k H')) : Fin R (bnd (H.write j off vs) k) := by
  obtain ⟨e, h'⟩ := h.writeN hc hl hv
  rw [e, bnd_some]
  exact hk _ h'
theorem Fin.app {α : Type} {R : α → Prop} {k : AV × Heap → Option α} {W : World} {H : Heap} {Γ : List HP} {ty es bytes : Nat} {flat new : List AV} {v x : AV} {k0 n : Nat} {os : Bool} (h : Holds H (HP.row ty es flat v :: Γ)) (he : 0 < es) (hs : srcA W H es os x = some (k0, new)) (hk0 : 0 < k0) (hnl : new.length = k0 * es) (h1 : new.all oneC = true) (hn : flat.length = n * es) (hb : (n + k0) * bytes ≤ 140737488355328)
    (hk : ∀ v' H', Holds H' (HP.row ty es (flat ++ new) v' :: Γ) → Fin R (k (v', H'))) : Fin R (bnd (appA W H ty es bytes os v x) k) := by
  obtain ⟨v', H', e, h'⟩ := h.app (bytes := bytes) he hs hk0 hnl h1 hn hb
  rw [e, bnd_some]
  exact hk _ _ h'
theorem Fin.loop {α : Type} {R : α → Prop} {m : Out} {k : Lv × Fr × Heap → Option α} {df : List Nat} {ro : Option Nat} {Q : Lv → Tm → Heap → Prop} (h : ∃ lv A' H', m = some (lv, ⟨A', df, ro⟩, H') ∧ Q lv A' H') (hk : ∀ lv A' H', Q lv A' H' → Fin R (k (lv, ⟨A', df, ro⟩, H'))) : Fin R (bnd m k) := by
  obtain ⟨lv, A', r, rfl, hr⟩ := h
  exact hk lv A' r hr
/-- How a loop ends, whose frame keeps its marks. -/
def Out3 (df : List Nat) (ro : Option Nat) (R : Lv → Tm → Heap → Prop) (r : Lv × Fr × Heap) : Prop := ∃ A', r.2.1 = ⟨A', df, ro⟩ ∧ R r.1 A' r.2.2
theorem Fin.ex3 {m : Out} {df : List Nat} {ro : Option Nat} {R : Lv → Tm → Heap → Prop} (h : Fin (Out3 df ro R) m) : ∃ lv A' H', m = some (lv, ⟨A', df, ro⟩, H') ∧ R lv A' H' := by
  obtain ⟨⟨lv, f, H'⟩, e, A', e2, h⟩ := h
  simp only at e2 h
  subst e2
  exact ⟨lv, A', H', e, h⟩
theorem Fin.of3 {m : Out} {df : List Nat} {ro : Option Nat} {R R' : Lv → Tm → Heap → Prop} (h : ∃ lv A' H', m = some (lv, ⟨A', df, ro⟩, H') ∧ R lv A' H') (hr : ∀ lv A' H', R lv A' H' → R' lv A' H') : Fin (Out3 df ro R') m := by
  obtain ⟨lv, A', H', e, h⟩ := h
  exact ⟨_, e, A', rfl, hr _ _ _ h⟩
theorem Fin.end3 {df : List Nat} {ro : Option Nat} {R : Lv → Tm → Heap → Prop} {lv : Lv} {A : Tm} {H : Heap} (h : R lv A H) : Fin (Out3 df ro R) (some (lv, ⟨A, df, ro⟩, H)) := ⟨_, rfl, A, rfl, h⟩
theorem Fin.callE {α β : Type} {R : β → Prop} {m : Option (AV × Heap)} {k : AV × Heap → Option β} (v : α → AV) (B : α → List HP) (h : ∃ x H', m = some (v x, H') ∧ Holds H' (B x)) (hk : ∀ x H', Holds H' (B x) → Fin R (k (v x, H'))) : Fin R (bnd m k) := by
  obtain ⟨x, r, rfl, hr⟩ := h
  exact hk x r hr
end
end Go.Proofs.YtjfnhdiimibmiaaDoor.Sx

/- The rules, in two bundles. -/
namespace Go.Proofs.YtjfnhdiimibmiaaDoor.Sx
theorem sxp : type_of% (And.intro @stepK_app (And.intro @stepK_mupd (And.intro @run_draw (And.intro @runD_nil (And.intro @runD_cons (And.intro @stD_t (And.intro @stD_fe (And.intro @stD_fp (And.intro @stD_fr (And.intro @stD_fa (And.intro @stD_p (And.intro @stD_r (And.intro @stD_a (And.intro @stD_e (And.intro @getX_hide (And.intro @putL_cons (And.intro @putL_nil (And.intro @run_seq (And.intro @run_ops (And.intro @cond_t (And.intro @cond_f (And.intro @run_ret (And.intro @run_skip (And.intro @run_block (And.intro @run_scope (And.intro @run_exit (And.intro @bnd_some (And.intro @bnd_none (And.intro @nxt_n (And.intro @nxt_r (And.intro @nxt_e (And.intro @blk1_n (And.intro @blk1_r (And.intro @blk1_e (And.intro @ops_0 (And.intro @ops_t (And.intro @ops_f (And.intro @ops_nil (And.intro @stepK_p (And.intro @stepK_r (And.intro @stepK_a (And.intro @stepK_f (And.intro @stepK_e (And.intro @getX_put (And.intro @getX_no (And.intro @getX_e (And.intro @finish_nil (And.intro @evR_b2s (And.intro @evR_load (And.intro @evP_len @evP_iaddr)))))))))))))))))))))))))))))))))))))))))))))))))) := (And.intro @stepK_app (And.intro @stepK_mupd (And.intro @run_draw (And.intro @runD_nil (And.intro @runD_cons (And.intro @stD_t (And.intro @stD_fe (And.intro @stD_fp (And.intro @stD_fr (And.intro @stD_fa (And.intro @stD_p (And.intro @stD_r (And.intro @stD_a (And.intro @stD_e (And.intro @getX_hide (And.intro @putL_cons (And.intro @putL_nil (And.intro @run_seq (And.intro @run_ops (And.intro @cond_t (And.intro @cond_f (And.intro @run_ret (And.intro @run_skip (And.intro @run_block (And.intro @run_scope (And.intro @run_exit (And.intro @bnd_some (And.intro @bnd_none (And.intro @nxt_n (And.intro @nxt_r (And.intro @nxt_e (And.intro @blk1_n (And.intro @blk1_r (And.intro @blk1_e (And.intro @ops_0 (And.intro @ops_t (And.intro @ops_f (And.intro @ops_nil (And.intro @stepK_p (And.intro @stepK_r (And.intro @stepK_a (And.intro @stepK_f (And.intro @stepK_e (And.intro @getX_put (And.intro @getX_no (And.intro @getX_e (And.intro @finish_nil (And.intro @evR_b2s (And.intro @evR_load (And.intro @evP_len @evP_iaddr))))))))))))))))))))))))))))))))))))))))))))))))))
theorem sxq : type_of% (And.intro @rd_nil (And.intro @rd_cons (And.intro @get_lay_cells (And.intro @get_nextH (And.intro @List.contains_cons.{0} (And.intro @List.contains_nil.{0} (And.intro @Bool.or_false (And.intro @Bool.false_or (And.intro @Bool.and_self (And.intro @Bool.and_true (And.intro @Bool.true_and (And.intro @Bool.and_false (And.intro @Bool.false_and (And.intro @Bool.true_or (And.intro @or_true (And.intro @true_or (And.intro @and_self (And.intro @and_true (And.intro @true_and (And.intro @wanted_some (And.intro @putT_none (And.intro @bin_add (And.intro @bin_sub (And.intro @bin_mul (And.intro @bin_eql (And.intro @bin_neq (And.intro @bin_lss (And.intro @bin_leq (And.intro @bin_gtr (And.intro @bin_geq (And.intro @eqV_pn (And.intro @eqV_ps (And.intro @eqV_mn (And.intro @eqV_ms (And.intro @eqV_sn (And.intro @eqV_ss (And.intro @eqV_se (And.intro @eqV_ag (And.intro @eqV_b (And.intro @List.map_cons.{0, 0} (And.intro @List.map_nil.{0, 0} (And.intro @ge_iff_le.{0} (And.intro @gt_iff_lt.{0} (And.intro @decide_true (And.intro @decide_false (And.intro @beq_self_eq_true.{0} (And.intro @bft (And.intro @btf (And.intro @Option.some.injEq.{0} (And.intro @AV.bool.injEq (And.intro @Bool.true_eq_false (And.intro @Bool.not_true (And.intro @Bool.not_false (And.intro @Bool.false_eq_true (And.intro @Option.isNone_some.{0} (And.intro @Option.isNone_none.{0} (And.intro @Option.map_some.{0, 0} (And.intro @Option.map_none.{0, 0} (And.intro @Nat.zero_add (And.intro @Nat.add_zero (And.intro @get_push_cells (And.intro @get_push_map (And.intro @push_next (And.intro @get_setAt_cells (And.intro @get_setAt_map (And.intro @setAt_next (And.intro @fill_nil (And.intro @fill_one (And.intro @fill_agg (And.intro @oneC_int (And.intro @oneC_bool (And.intro @oneC_str (And.intro @oneC_sl (And.intro @oneC_ptr (And.intro @oneC_map (And.intro @zerosL_0 (And.intro @zerosL_1 (And.intro @List.take_succ_cons.{0} (And.intro @List.take_zero.{0} (And.intro @List.take_nil.{0} (And.intro @List.drop_succ_cons.{0} (And.intro @List.drop_zero.{0} (And.intro @List.drop_nil.{0} (And.intro @List.cons_append.{0} (And.intro @List.nil_append.{0} (And.intro @List.append_nil.{0} (And.intro @List.length_cons.{0} (And.intro @List.length_nil.{0} (And.intro @lenV_sl (And.intro @lenV_emp (And.intro @load_own1 (And.intro @load_ownN (And.intro @iaddr_own (And.intro @List.getElem?_cons_succ.{0} (And.intro @List.getElem?_cons_zero.{0} (And.intro @Nat.zero_le @Nat.mul_one)))))))))))))))))))))))))))))))))))))))))))))))))))))))))))))))))))))))))))))))))))))))))))))))) := (And.intro @rd_nil (And.intro @rd_cons (And.intro @get_lay_cells (And.intro @get_nextH (And.intro @List.contains_cons.{0} (And.intro @List.contains_nil.{0} (And.intro @Bool.or_false (And.intro @Bool.false_or (And.intro @Bool.and_self (And.intro @Bool.and_true (And.intro @Bool.true_and (And.intro @Bool.and_false (And.intro @Bool.false_and (And.intro @Bool.true_or (And.intro @or_true (And.intro @true_or (And.intro @and_self (And.intro @and_true (And.intro @true_and (And.intro @wanted_some (And.intro @putT_none (And.intro @bin_add (And.intro @bin_sub (And.intro @bin_mul (And.intro @bin_eql (And.intro @bin_neq (And.intro @bin_lss (And.intro @bin_leq (And.intro @bin_gtr (And.intro @bin_geq (And.intro @eqV_pn (And.intro @eqV_ps (And.intro @eqV_mn (And.intro @eqV_ms (And.intro @eqV_sn (And.intro @eqV_ss (And.intro @eqV_se (And.intro @eqV_ag (And.intro @eqV_b (And.intro @List.map_cons.{0, 0} (And.intro @List.map_nil.{0, 0} (And.intro @ge_iff_le.{0} (And.intro @gt_iff_lt.{0} (And.intro @decide_true (And.intro @decide_false (And.intro @beq_self_eq_true.{0} (And.intro @bft (And.intro @btf (And.intro @Option.some.injEq.{0} (And.intro @AV.bool.injEq (And.intro @Bool.true_eq_false (And.intro @Bool.not_true (And.intro @Bool.not_false (And.intro @Bool.false_eq_true (And.intro @Option.isNone_some.{0} (And.intro @Option.isNone_none.{0} (And.intro @Option.map_some.{0, 0} (And.intro @Option.map_none.{0, 0} (And.intro @Nat.zero_add (And.intro @Nat.add_zero (And.intro @get_push_cells (And.intro @get_push_map (And.intro @push_next (And.intro @get_setAt_cells (And.intro @get_setAt_map (And.intro @setAt_next (And.intro @fill_nil (And.intro @fill_one (And.intro @fill_agg (And.intro @oneC_int (And.intro @oneC_bool (And.intro @oneC_str (And.intro @oneC_sl (And.intro @oneC_ptr (And.intro @oneC_map (And.intro @zerosL_0 (And.intro @zerosL_1 (And.intro @List.take_succ_cons.{0} (And.intro @List.take_zero.{0} (And.intro @List.take_nil.{0} (And.intro @List.drop_succ_cons.{0} (And.intro @List.drop_zero.{0} (And.intro @List.drop_nil.{0} (And.intro @List.cons_append.{0} (And.intro @List.nil_append.{0} (And.intro @List.append_nil.{0} (And.intro @List.length_cons.{0} (And.intro @List.length_nil.{0} (And.intro @lenV_sl (And.intro @lenV_emp (And.intro @load_own1 (And.intro @load_ownN (And.intro @iaddr_own (And.intro @List.getElem?_cons_succ.{0} (And.intro @List.getElem?_cons_zero.{0} (And.intro @Nat.zero_le @Nat.mul_one))))))))))))))))))))))))))))))))))))))))))))))))))))))))))))))))))))))))))))))))))))))))))))))))
end Go.Proofs.YtjfnhdiimibmiaaDoor.Sx

