/- A second, deterministic reading of the program, part 2: proved sound for every order and every capacity; then what the functions do. -/
import Derived.Test.YtjfnhdiimibmiaaDoorMaA
import Derived.RangeFuncRecord
import Derived.Orders
/- A row that append has lengthened, or copied: the second reading does not ask which. -/
namespace Go.Proofs.YtjfnhdiimibmiaaDoor.Sx
variable {comp : Nat → Code → Option SC} {P : Program} {W : World} {μ : Emb} {H : Heap} {w : World} {A : Tm} {a : Act} {v : AV}

theorem Heap.push_eq (H : Heap) (o : AObj) : H.push o = ({ H with next := H.next + 1 } : Heap).lay H.next o := by
  unfold Heap.push Heap.lay
  cases o with
  | cells c t ln => cases ln <;> rfl
  | _ => rfl
theorem HR.push (h : HR comp W μ H w) {o : AObj} {O : Obj} (hl : ∀ l, o.line = some l → l = H.next) (hO : OR comp (μ.add H.next w.heap.size (objSize O)) H.next o O) :
    HR comp W (μ.add H.next w.heap.size (objSize O)) (H.push o) { w with heap := w.heap.push O } ∧ Step μ H w (μ.add H.next w.heap.size (objSize O)) (H.push o) { w with heap := w.heap.push O } := by
  rw [Heap.push_eq]
  obtain ⟨h1, h2⟩ := (h.bump 1).lay (id := H.next) (o := o) (O := O) (by simp) (h.fresh _ (Nat.le_refl _)) hl hO
  refine ⟨h1, (Step.bump μ H w 1).toStep0.trans h2, ?_, ?_, ?_⟩
  · have : (({ H with next := H.next + 1 } : Heap).lay H.next o).next = H.next + 1 := by unfold Heap.lay; split <;> rfl
    omega
  · intro i hi
    simp only [Emb.add]
    rw [if_neg (by omega)]
  · intro i hi ho
    have : (({ H with next := H.next + 1 } : Heap).lay H.next o).objs = H.objs.set H.next o := by unfold Heap.lay; split <;> rfl
    rw [this, Tr.get_set, if_neg (by omega)]; exact ho
theorem Step.drew {μ' : Emb} {H' : Heap} {w' : World} (h : Step μ H w μ' H' w') (n m : Nat) : Step μ H { w with drawn := n } μ' H' { w' with drawn := m } := ⟨⟨h.le, h.size, h.unch, h.img⟩, h.nx, h.keep, h.keepo⟩

/-- The tip of a line is lengthened under a new number. -/
theorem HR.extend (h : HR comp W μ H w) {i l fl n' s' : Nat} {c c' : Cells} {t : TypeId} (hg : H.get i = some (.cells c t (some l))) (hl : H.lines.get l = some (fl, i)) (hsz : c.size ≤ c'.size) {w' : World} {r' : Nat} {rc' : Array Value} {fz' : Nat × Nat}
    (hos : w'.os = w.os) (htp : w'.tape = w.tape) (hou : w'.output = w.output) (hws : w.heap.size ≤ w'.heap.size) (hr' : r' < w'.heap.size) (hoth : ∀ q, q ≠ r' → q < w.heap.size → w'.heap[q]? = w.heap[q]?) (hnew : w'.heap[r']? = some (.cells rc' t fz'))
    (hcr : CR (μ.addS H.next r' n' s') s' c' rc') (hns : s' + n' = rc'.size) (hfz : ∀ o, o < rc'.size → ¬ (fz'.1 ≤ o ∧ o < fz'.2))
    (hcase : r' = w.heap.size ∨ (μ.blk i = some r' ∧ s' = μ.sh i ∧ ∃ rc, w.heap[r']? = some (.cells rc t fz') ∧ rc'.size = rc.size ∧ ∀ j, j < s' + c.size → rc'[j]? = rc[j]?)) :
    HR comp W (μ.addS H.next r' n' s') { next := H.next + 1, objs := H.objs.set H.next (.cells c' t (some l)), lines := H.lines.set l (fl, H.next) } w' ∧
    Step μ H w (μ.addS H.next r' n' s') { next := H.next + 1, objs := H.objs.set H.next (.cells c' t (some l)), lines := H.lines.set l (fl, H.next) } w' := by
  have hn : μ.blk H.next = none := h.fresh _ (Nat.le_refl _)
  have hle : μ.le (μ.addS H.next r' n' s') := Emb.le_addS hn
  have hblk : ∀ j, j ≠ H.next → (μ.addS H.next r' n' s').blk j = μ.blk j := fun j hj => by simp [Emb.addS, hj]
  have hbn : (μ.addS H.next r' n' s').blk H.next = some r' := by simp [Emb.addS]
  have hgo := Heap.get_of_objs hg
  have hfl : fl ≤ i := by
    unfold Heap.get at hg
    rw [hgo] at hg
    simp only [hl] at hg
    split at hg
    · assumption
    · cases hg
  have hlt : ∀ j o, H.get j = some o → j < H.next := by
    intro j o hj
    obtain ⟨r, O, h1, _⟩ := h.obj j o hj
    rcases Nat.lt_or_ge j H.next with h' | h'
    · exact h'
    · rw [h.fresh j h'] at h1; cases h1
  have hin := hlt i _ hg
  let H' : Heap := { next := H.next + 1, objs := H.objs.set H.next (.cells c' t (some l)), lines := H.lines.set l (fl, H.next) }
  have hself : H'.get H.next = some (.cells c' t (some l)) := by
    simp only [H', Heap.get, Tr.get_set, if_true]
    rw [if_pos (by omega)]
  have hother : ∀ j, j ≠ H.next → H'.get j = H.get j := by
    intro j hj
    simp only [H', Heap.get, Tr.get_set, if_neg hj]
    split
    · rename_i c2 t2 l2 e
      by_cases el : l2 = l
      · subst el; simp only [if_true, hl]
      · simp only [if_neg el]
    · rfl
  have htip : ∀ j o, H.get j = some o → o.line = some l → j ≤ i := by
    intro j o hj hlj
    obtain ⟨f2, t2, h1, h2⟩ := h.tip j o l hj hlj
    rw [hl] at h1; cases h1; exact h2
  -- whoever shares the row is in the line
  have hshare : ∀ j o, H.get j = some o → μ.blk j = some r' → ∃ cj tj, o = .cells cj tj (some l) ∧ cj.size ≤ c.size ∧ μ.sh j = s' := by
    intro j o hj hb
    rcases hcase with rfl | ⟨hbi, hsi, rc, hrc, _⟩
    · have := (h.dom j _ hb).2; omega
    · by_cases e : j = i
      · subst e; rw [hg] at hj; cases hj; exact ⟨c, t, rfl, Nat.le_refl _, hsi.symm⟩
      · obtain ⟨l2, h1, h2, hsj⟩ := h.inj i j r' _ _ hg hj hbi hb (fun e' => e e'.symm)
        simp [AObj.line] at h1
        subst h1
        have h3 := htip j o hj h2
        cases o <;> simp [AObj.line] at h2
        rename_i cj tj ln
        subst h2
        exact ⟨cj, tj, rfl, h.mono j i cj tj c t _ hj hg h3, by rw [hsi, hsj]⟩
  have holdr : W.heap.size ≤ r' := by
    rcases hcase with rfl | ⟨hbi, _⟩
    · exact h.size
    · exact (h.dom i r' hbi).1
  refine ⟨⟨hos.trans h.os, htp.trans h.tape, hou.trans h.output, Nat.le_trans h.size hws, ?_, ?_, ?_, ?_, ?_, ?_, ?_, ?_, ?_⟩, ⟨⟨hle, hws, ?_, ?_⟩, Nat.le_succ _, fun j hj => hblk j (by omega), fun j hj ho => ?_⟩⟩
  · intro b hb
    have := h.size
    rw [hoth b (by omega) (by omega)]; exact h.old b hb
  · intro j r hj
    by_cases e : j = H.next
    · subst e; rw [hbn] at hj; cases hj; exact ⟨holdr, hr'⟩
    · rw [hblk j e] at hj; have := h.dom j r hj; omega
  · intro j hj
    have hj' : H.next + 1 ≤ j := hj
    rw [hblk j (by omega)]; exact h.fresh j (by omega)
  · intro j o hj
    by_cases e : j = H.next
    · subst e
      have hj' : H'.get H.next = some o := hj
      rw [hself] at hj'; cases hj'
      exact ⟨r', _, hbn, hnew, ⟨rfl, by simp only [Emb.addS, if_true]; exact hcr, by simp [Emb.addS]; exact hns, hfz⟩⟩
    · have hj' : H'.get j = some o := hj
      rw [hother j e] at hj'
      obtain ⟨r, O, h1, h2, h3⟩ := h.obj j o hj'
      by_cases er : r = r'
      · subst er
        obtain ⟨cj, tj, rfl, hcj, hsj⟩ := hshare j o hj' h1
        rcases hcase with er | ⟨hbi, hsi, rc, hrc, hrs, hrg⟩
        · have := (h.dom j r h1).2; omega
        · rw [hrc] at h2; cases h2
          obtain ⟨q1, q2, q3, q4⟩ := h3
          refine ⟨r, _, (hle j r h1).1, hnew, ⟨q1, ⟨by rw [hrs, (hle j r h1).2.2]; exact q2.size, fun m u hm => ?_⟩, by rw [(hle j r h1).2.1, (hle j r h1).2.2, q3, hrs], hfz⟩⟩
          obtain ⟨u', hu1, hu2⟩ := q2.get m u hm
          have hml := Cells.get_lt hm
          exact ⟨u', by rw [(hle j r h1).2.2, hrg _ (by omega)]; exact hu1, hu2.le hle⟩
      · exact ⟨r, O, (hle j r h1).1, by rw [hoth r er (h.dom j r h1).2]; exact h2, h3.le hle h1⟩
  · intro j k r oj ok hj hk hrj hrk hne
    have hj' : H'.get j = some oj := hj
    have hk' : H'.get k = some ok := hk
    by_cases ej : j = H.next
    · subst ej
      rw [hself] at hj'; cases hj'
      rw [hbn] at hrj; cases hrj
      have ek : k ≠ H.next := fun e => hne e.symm
      rw [hother k ek] at hk'
      rw [hblk k ek] at hrk
      obtain ⟨ck, tk, rfl, _, hsk⟩ := hshare k ok hk' hrk
      exact ⟨l, rfl, rfl, by rw [(hle k _ hrk).2.2, hsk]; simp [Emb.addS]⟩
    · by_cases ek : k = H.next
      · subst ek
        rw [hself] at hk'; cases hk'
        rw [hbn] at hrk; cases hrk
        rw [hother j ej] at hj'
        rw [hblk j ej] at hrj
        obtain ⟨cj, tj, rfl, _, hsj⟩ := hshare j oj hj' hrj
        exact ⟨l, rfl, rfl, by rw [(hle j _ hrj).2.2, hsj]; simp [Emb.addS]⟩
      · rw [hother j ej] at hj'
        rw [hother k ek] at hk'
        rw [hblk j ej] at hrj
        rw [hblk k ek] at hrk
        rw [(hle j r hrj).2.2, (hle k r hrk).2.2]
        exact h.inj j k r oj ok hj' hk' hrj hrk hne
  · intro j o l2 hj hlj
    have hj' : H'.get j = some o := hj
    by_cases e : j = H.next
    · subst e
      rw [hself] at hj'; cases hj'
      simp [AObj.line] at hlj
      subst hlj
      exact ⟨fl, H.next, by simp [Tr.get_set], Nat.le_refl _⟩
    · rw [hother j e] at hj'
      obtain ⟨f2, t2, h1, h2⟩ := h.tip j o l2 hj' hlj
      by_cases el : l2 = l
      · subst el
        exact ⟨fl, H.next, by simp [Tr.get_set], by have := hlt j o hj'; omega⟩
      · exact ⟨f2, t2, by simp only [Tr.get_set, if_neg el]; exact h1, h2⟩
  · intro j cj tj l2 hj
    simp only [Tr.get_set] at hj
    split at hj
    · cases hj
      obtain ⟨q, hq⟩ := Option.isSome_iff_exists.1 (h.root i c t l hgo)
      rw [(hle l q hq).1]; rfl
    · obtain ⟨q, hq⟩ := Option.isSome_iff_exists.1 (h.root j cj tj l2 hj)
      rw [(hle l2 q hq).1]; rfl
  · intro j k cj tj ck tk l2 hj hk hjk
    have hj' : H'.get j = some _ := hj
    have hk' : H'.get k = some _ := hk
    by_cases ej : j = H.next
    · subst ej
      by_cases ek : k = H.next
      · subst ek
        rw [hj'] at hk'; cases hk'; exact Nat.le_refl _
      · rw [hother k ek] at hk'
        have := hlt k _ hk'; omega
    · rw [hother j ej] at hj'
      by_cases ek : k = H.next
      · subst ek
        rw [hself] at hk'; cases hk'
        have h1 := htip j _ hj' rfl
        have := h.mono j i cj tj c t l hj' hg h1
        omega
      · rw [hother k ek] at hk'
        exact h.mono j k cj tj ck tk l2 hj' hk' hjk
  · exact h.wf.set (Nat.le_succ _) (Nat.lt_succ_self _) (fun l2 e => by cases e; exact .inr (h.wf.root i c t l hgo))
  · intro q hq hno
    refine hoth q (fun e => ?_) hq
    subst e
    rcases hcase with er | ⟨hbi, _⟩
    · omega
    · exact hno i _ hg hbi
  · intro j o q hj hqj hq
    have hj' : H'.get j = some o := hj
    by_cases e : j = H.next
    · subst e
      rw [hbn] at hqj; cases hqj
      rcases hcase with er | ⟨hbi, _⟩
      · omega
      · exact ⟨i, _, hg, hbi⟩
    · rw [hother j e] at hj'
      rw [hblk j e] at hqj
      exact ⟨j, o, hj', hqj⟩
  · simp only [Tr.get_set]
    rw [if_neg (by omega)]; exact ho

/-- A row that is cut off in front is lengthened: under a new number, in a line of its own; all that was in the old line is given up. -/
theorem HR.shift (h : HR comp W μ H w) {i l fl tp n' s' : Nat} {c c' : Cells} {t : TypeId} (hg : H.get i = some (.cells c t (some l))) (hl : H.lines.get l = some (fl, tp)) {w' : World} {r' : Nat} {rc' : Array Value} {fz' : Nat × Nat}
    (hos : w'.os = w.os) (htp : w'.tape = w.tape) (hou : w'.output = w.output) (hws : w.heap.size ≤ w'.heap.size) (hr' : r' < w'.heap.size) (hoth : ∀ q, q ≠ r' → q < w.heap.size → w'.heap[q]? = w.heap[q]?) (hnew : w'.heap[r']? = some (.cells rc' t fz'))
    (hcr : CR (μ.addS H.next r' n' s') s' c' rc') (hns : s' + n' = rc'.size) (hfz : ∀ o, o < rc'.size → ¬ (fz'.1 ≤ o ∧ o < fz'.2))
    (hcase : r' = w.heap.size ∨ μ.blk i = some r') :
    HR comp W (μ.addS H.next r' n' s') { next := H.next + 1, objs := H.objs.set H.next (.cells c' t (some H.next)), lines := (H.lines.set l (H.next + 1, tp)).set H.next (H.next, H.next) } w' ∧
    Step μ H w (μ.addS H.next r' n' s') { next := H.next + 1, objs := H.objs.set H.next (.cells c' t (some H.next)), lines := (H.lines.set l (H.next + 1, tp)).set H.next (H.next, H.next) } w' := by
  have hn : μ.blk H.next = none := h.fresh _ (Nat.le_refl _)
  have hle : μ.le (μ.addS H.next r' n' s') := Emb.le_addS hn
  have hblk : ∀ j, j ≠ H.next → (μ.addS H.next r' n' s').blk j = μ.blk j := fun j hj => by simp [Emb.addS, hj]
  have hbn : (μ.addS H.next r' n' s').blk H.next = some r' := by simp [Emb.addS]
  have hgo := Heap.get_of_objs hg
  have hlt : ∀ j o, H.get j = some o → j < H.next := by
    intro j o hj
    obtain ⟨r, O, h1, _⟩ := h.obj j o hj
    rcases Nat.lt_or_ge j H.next with h' | h'
    · exact h'
    · rw [h.fresh j h'] at h1; cases h1
  have hin := hlt i _ hg
  have hrl : ∀ j cj tj l2, H.objs.get j = some (.cells cj tj (some l2)) → l2 ≠ H.next := fun j cj tj l2 hj e => by
    have h1 := h.wf.root j cj tj l2 hj
    rw [e, h.wf.clean H.next (Nat.le_refl _)] at h1; cases h1
  have hln : l ≠ H.next := hrl i c t l hgo
  let H' : Heap := { next := H.next + 1, objs := H.objs.set H.next (.cells c' t (some H.next)), lines := (H.lines.set l (H.next + 1, tp)).set H.next (H.next, H.next) }
  have hself : H'.get H.next = some (.cells c' t (some H.next)) := by
    simp only [H', Heap.get, Tr.get_set, if_true]
    rw [if_pos (Nat.le_refl _)]
  have hother : ∀ j o, j ≠ H.next → H'.get j = some o → H.get j = some o ∧ o.line ≠ some l := by
    intro j o hj hjo
    simp only [H', Heap.get, Tr.get_set, if_neg hj] at hjo
    unfold Heap.get
    cases hob : H.objs.get j with
    | none => rw [hob] at hjo; cases hjo
    | some ob =>
      rw [hob] at hjo
      cases ob with
      | cells c2 t2 ln =>
        cases ln with
        | none => exact ⟨hjo, by cases hjo; simp [AObj.line]⟩
        | some l2 =>
          have hl2 := hrl j c2 t2 l2 hob
          simp only [if_neg hl2] at hjo
          by_cases el : l2 = l
          · subst el
            simp only [if_true] at hjo
            have hjn : j < H.next := by
              rcases Nat.lt_or_ge j H.next with h' | h'
              · exact h'
              · rw [h.wf.clean j h'] at hob; cases hob
            rw [if_neg (by omega)] at hjo; cases hjo
          · simp only [if_neg el] at hjo
            refine ⟨hjo, ?_⟩
            split at hjo
            · split at hjo
              · cases hjo; simp only [AObj.line]; exact fun e => el (Option.some.inj e)
              · cases hjo
            · cases hjo
      | _ => exact ⟨hjo, by cases hjo; simp [AObj.line]⟩
  -- nobody else lies there
  have hnone : ∀ j o, j ≠ H.next → H'.get j = some o → μ.blk j ≠ some r' := by
    intro j o hj hjo hb
    obtain ⟨h1, h2⟩ := hother j o hj hjo
    rcases hcase with rfl | hbi
    · have := (h.dom j _ hb).2; omega
    · by_cases e : j = i
      · subst e; rw [hg] at h1; cases h1; exact h2 rfl
      · obtain ⟨l2, h3, h4, _⟩ := h.inj i j r' _ _ hg h1 hbi hb (fun e' => e e'.symm)
        simp [AObj.line] at h3
        subst h3
        exact h2 h4
  have holdr : W.heap.size ≤ r' := by
    rcases hcase with rfl | hbi
    · exact h.size
    · exact (h.dom i r' hbi).1
  refine ⟨⟨hos.trans h.os, htp.trans h.tape, hou.trans h.output, Nat.le_trans h.size hws, ?_, ?_, ?_, ?_, ?_, ?_, ?_, ?_, ?_⟩, ⟨⟨hle, hws, ?_, ?_⟩, Nat.le_succ _, fun j hj => hblk j (by omega), fun j hj ho => ?_⟩⟩
  · intro b hb
    have := h.size
    rw [hoth b (by omega) (by omega)]; exact h.old b hb
  · intro j r hj
    by_cases e : j = H.next
    · subst e; rw [hbn] at hj; cases hj; exact ⟨holdr, hr'⟩
    · rw [hblk j e] at hj; have := h.dom j r hj; omega
  · intro j hj
    have hj' : H.next + 1 ≤ j := hj
    rw [hblk j (by omega)]; exact h.fresh j (by omega)
  · intro j o hj
    have hj' : H'.get j = some o := hj
    by_cases e : j = H.next
    · subst e
      rw [hself] at hj'; cases hj'
      exact ⟨r', _, hbn, hnew, ⟨rfl, by simp only [Emb.addS, if_true]; exact hcr, by simp [Emb.addS]; exact hns, hfz⟩⟩
    · have hne := hnone j o e hj'
      obtain ⟨hj2, _⟩ := hother j o e hj'
      obtain ⟨r, O, h1, h2, h3⟩ := h.obj j o hj2
      have er : r ≠ r' := fun e' => hne (by rw [h1, e'])
      exact ⟨r, O, (hle j r h1).1, by rw [hoth r er (h.dom j r h1).2]; exact h2, h3.le hle h1⟩
  · intro j k r oj ok hj hk hrj hrk hne
    have hj' : H'.get j = some oj := hj
    have hk' : H'.get k = some ok := hk
    by_cases ej : j = H.next
    · subst ej
      rw [hbn] at hrj; cases hrj
      have ek : k ≠ H.next := fun e => hne e.symm
      rw [hblk k ek] at hrk
      exact absurd hrk (hnone k ok ek hk')
    · by_cases ek : k = H.next
      · subst ek
        rw [hbn] at hrk; cases hrk
        rw [hblk j ej] at hrj
        exact absurd hrj (hnone j oj ej hj')
      · rw [hblk j ej] at hrj
        rw [hblk k ek] at hrk
        rw [(hle j r hrj).2.2, (hle k r hrk).2.2]
        exact h.inj j k r oj ok (hother j oj ej hj').1 (hother k ok ek hk').1 hrj hrk hne
  · intro j o l2 hj hlj
    have hj' : H'.get j = some o := hj
    by_cases e : j = H.next
    · subst e
      rw [hself] at hj'; cases hj'
      simp [AObj.line] at hlj
      subst hlj
      exact ⟨H.next, H.next, by simp [Tr.get_set], Nat.le_refl _⟩
    · obtain ⟨h1, h2⟩ := hother j o e hj'
      obtain ⟨f2, t2, h3, h4⟩ := h.tip j o l2 h1 hlj
      have el : l2 ≠ l := fun e' => h2 (by rw [hlj, e'])
      have en : l2 ≠ H.next := by
        cases o <;> simp [AObj.line] at hlj
        subst hlj
        exact hrl j _ _ l2 (Heap.get_of_objs h1)
      exact ⟨f2, t2, by simp only [Tr.get_set, if_neg en, if_neg el]; exact h3, h4⟩
  · intro j cj tj l2 hj
    simp only [Tr.get_set] at hj
    split at hj
    · cases hj
      rw [hbn]; rfl
    · obtain ⟨q, hq⟩ := Option.isSome_iff_exists.1 (h.root j cj tj l2 hj)
      rw [(hle l2 q hq).1]; rfl
  · intro j k cj tj ck tk l2 hj hk hjk
    have hj' : H'.get j = some _ := hj
    have hk' : H'.get k = some _ := hk
    by_cases ej : j = H.next
    · subst ej
      by_cases ek : k = H.next
      · subst ek
        rw [hj'] at hk'; cases hk'; exact Nat.le_refl _
      · have := hlt k _ (hother k _ ek hk').1; omega
    · by_cases ek : k = H.next
      · subst ek
        rw [hself] at hk'; cases hk'
        exact absurd rfl (hrl j _ _ _ (Heap.get_of_objs (hother j _ ej hj').1))
      · exact h.mono j k cj tj ck tk l2 (hother j _ ej hj').1 (hother k _ ek hk').1 hjk
  · exact h.wf.set (Nat.le_succ _) (Nat.lt_succ_self _) (fun l2 e => by cases e; exact .inl rfl)
  · intro q hq hno
    refine hoth q (fun e => ?_) hq
    subst e
    rcases hcase with er | hbi
    · omega
    · exact hno i _ hg hbi
  · intro j o q hj hqj hq
    have hj' : H'.get j = some o := hj
    by_cases e : j = H.next
    · subst e
      rw [hbn] at hqj; cases hqj
      rcases hcase with er | hbi
      · omega
      · exact ⟨i, _, hg, hbi⟩
    · rw [hblk j e] at hqj
      exact ⟨j, o, (hother j o e hj').1, hqj⟩
  · simp only [Tr.get_set]
    rw [if_neg (by omega)]; exact ho
end Go.Proofs.YtjfnhdiimibmiaaDoor.Sx

/- append. -/
namespace Go.Proofs.YtjfnhdiimibmiaaDoor.Sx
variable {comp : Nat → Code → Option SC} {P : Program} {W : World} {μ : Emb} {H : Heap} {w : World} {A : Tm} {a : Act} {v : AV}

theorem zeroCells_VRL {z' : Array Value} (n : Nat) : (Builtin.zeroCells z' n).size = n * z'.size := by simp [Builtin.zeroCells]

/-- append: what its types and its source come to. -/
structure AppIn (P : Program) (at_ : Array TypeId) (T U e es b : Nat) (z : List AV) : Prop where
  h0 : at_[0]? = some T
  h1 : at_[1]? = some U
  hT : P.underlying T = some (.slice e)
  hs : sizeT P e = some es
  hb : bytesT P e = some b
  hb0 : 0 < b
  hz : zeroL P e = some z
  hzl : z.length = es

theorem app_new {at_ : Array TypeId} {T U e es b : Nat} {z : List AV} (ai : AppIn P at_ T U e es b z) {ty : TypeId} {args : Array Value} {base : Option Addr} {sLen sCap k need : Nat} {src : World → Array Value → Prop} (sr : AppSrc P at_ ty e es b k args src) {v : AV} {H' : Heap} {old new : List AV} (h : HR comp W μ H w)
    (a0 : args[0]? = some (.slice base sLen sCap)) (hneed : need = sLen + k) (hroom : ¬ sLen + k ≤ sCap)
    (hold : ∀ w, HR comp W μ H w → ∃ old', (Builtin.firstCells es sLen (.slice base sLen sCap)).run P w = .ok old' w ∧ VRL μ old old'.toList) (hnew : ∀ w, HR comp W μ H w → ∃ new', src w new' ∧ VRL μ new new'.toList)
    (hol : old.length = sLen * es) (hnl : new.length = k * es) (hv : appNew H e b es old new need = some (v, H')) :
    ∃ μ' w' v', (Builtin.append_ at_ ty args).run P w = .ok v' w' ∧ HR comp W μ' H' w' ∧ Step μ H w μ' H' w' ∧ VR μ' v v' := by
  subst hneed
  unfold appNew at hv
  split at hv
  · rename_i hfit
    cases hv
    obtain ⟨z', hz1, hzr, _⟩ := zeroL_spec ai.hz
    have hd := h.drew (w.drawn + 1)
    obtain ⟨old', ho1, ho2⟩ := hold _ hd
    obtain ⟨new', hn1, hn2⟩ := hnew _ hd
    have hrun := sr.grow a0 hz1 hroom hfit rfl ho1 hn1
    generalize hcap : (Question.appendCap (sLen + k) sCap e).cut (w.tape w.drawn (Question.appendCap (sLen + k) sCap e)) = cap at hrun
    have hcap2 : sLen + k ≤ cap := by rw [← hcap]; simp [Question.cut]
    let arr := old' ++ new' ++ Builtin.zeroCells z'.cells (cap - (sLen + k))
    have hzs : z'.cells.size = es := by have := (hzr μ).length; simp at this; rw [this]; exact ai.hzl
    have hos : old'.size = sLen * es := by have := ho2.length; simp at this; omega
    have hns : new'.size = k * es := by have := hn2.length; simp at this; omega
    have harr : arr.size = cap * es := by
      simp only [arr, Array.size_append, zeroCells_VRL, hzs, hos, hns]
      rw [← Nat.add_mul, ← Nat.add_mul]
      congr 1; omega
    let μ' := μ.add H.next w.heap.size (objSize (.cells arr e))
    have hle : μ.le μ' := Emb.le_add (h.fresh _ (Nat.le_refl _))
    obtain ⟨g1, g2⟩ := h.push (o := .cells (.lst (old ++ new)) e (some H.next)) (O := .cells arr e) (by intro l hl; simp [AObj.line] at hl; exact hl.symm) (by
      refine ⟨rfl, ⟨?_, ?_⟩, by simp [Emb.add, objSize], ?_⟩
      · rw [Emb.add_sh, Nat.zero_add]
        simp only [Cells.size, List.length_append]; rw [harr]; rw [hol, hnl, ← Nat.add_mul]; exact Nat.mul_le_mul_right _ hcap2
      · intro j u hj
        rw [Emb.add_sh, Nat.zero_add]
        obtain ⟨u', hu1, hu2⟩ := ((ho2.append hn2).le hle).get hj
        refine ⟨u', ?_, hu2⟩
        have hu1' : (old' ++ new')[j]? = some u' := by rw [← Array.getElem?_toList, Array.toList_append]; exact hu1
        have hlt := (Array.getElem?_eq_some_iff.1 hu1').1
        simp only [arr]
        rw [Array.getElem?_append_left hlt]; exact hu1'
      · intro o' _ hh; simp at hh)
    refine ⟨μ', _, _, hrun, g1.drew (w.drawn + 1), g2.drew w.drawn (w.drawn + 1), .sl ⟨by simp [RR, μ', Emb.add], by simp [shR, μ', Emb.add], rfl⟩ ⟨H.next, rfl, ?_, hcap2⟩⟩
    simp only [μ', Emb.add, objSize, if_true, harr]; omega
  · cases hv

theorem firstCells_blk {r : Rf} {off es n len c' : Nat} {d' : Addr} (hr : AR μ ⟨r, off⟩ d') {c : Cells} (hc : blkOf W H r = some c) {l : List AV} (hl : c.getN off (n * es) = some l) :
    ∀ w, HR comp W μ H w → ∃ old', (Builtin.firstCells es n (.slice (some d') len c')).run P w = .ok old' w ∧ VRL μ l old'.toList := by
  intro w h
  obtain ⟨rc, t', fz, hb, hcr⟩ := h.blk hr.rf hc
  obtain ⟨l', h3, h4, _⟩ := run_loadN (P := P) hb hcr rfl hr.spot hr.off hl
  exact ⟨l'.toArray, by simpa [Builtin.firstCells] using h3, by simpa using h4⟩

theorem appN_run {at_ : Array TypeId} {T U e es b : Nat} {z : List AV} (ai : AppIn P at_ T U e es b z) {ty : TypeId} {args : Array Value} {k : Nat} {src : World → Array Value → Prop} (sr : AppSrc P at_ ty e es b k args src) {s : AV} {s' : Value} (h : HR comp W μ H w) (a0 : args[0]? = some s')
    (hs : VR μ s s') {new : List AV} (hnl : new.length = k * es) (hnew : ∀ w, HR comp W μ H w → ∃ new', src w new' ∧ VRL μ new new'.toList) {v : AV} {H' : Heap} (hv : appN W H e es b s k new = some (v, H')) :
    ∃ μ' w' v', (Builtin.append_ at_ ty args).run P w = .ok v' w' ∧ HR comp W μ' H' w' ∧ Step μ H w μ' H' w' ∧ VR μ' v v' := by
  unfold appN at hv
  · skip
    -- nothing is appended
    have none_app : ∀ {base : Option Addr} {len c' : Nat}, s' = .slice base len c' → k = 0 → len ≤ c' → H' = H → (VR μ v (.slice base len c')) →
        ∃ μ' w' v', (Builtin.append_ at_ ty args).run P w = .ok v' w' ∧ HR comp W μ' H' w' ∧ Step μ H w μ' H' w' ∧ VR μ' v v' := by
      intro base len c' e1 hk0 hle hH hvr
      subst e1; subst hk0; subst hH
      obtain ⟨new', hn1, hn2⟩ := hnew w h
      have hn0 : new'.toList = [] := by
        have := hn2.length
        rw [hnl] at this
        exact List.eq_nil_of_length_eq_zero (by simpa using this)
      have hrun := sr.room a0 (by omega) hn1 (w' := w) (by cases base <;> simp [hn0, storeCells])
      exact ⟨μ, w, _, hrun, h, Step.refl _ _ _, by simpa using hvr⟩
    -- it is written behind
    have in_place : ∀ {i off len c' : Nat} {d' : Addr} {H2 : Heap}, s' = .slice (some d') len c' → AR μ ⟨.own i, off⟩ d' → len + k ≤ c' → H.write i (off + len * es) new = some H2 → H' = H2 → (VR μ v (.slice (some d') (len + k) c')) →
        ∃ μ' w' v', (Builtin.append_ at_ ty args).run P w = .ok v' w' ∧ HR comp W μ' H' w' ∧ Step μ H w μ' H' w' ∧ VR μ' v v' := by
      intro i off len c' d' H2 e1 hd hle hw hH hvr
      subst e1; subst hH
      obtain ⟨new', hn1, hn2⟩ := hnew w h
      obtain ⟨r, rc, t', fz, hr, hb, hoff, hfz, hone, g1, g2, _⟩ := h.write hw hn2
      have hblk : d'.block = r := by
        have : μ.blk i = some d'.block := hd.rf
        rw [hr] at this; cases this; rfl
      have hd2 := hd.add (len * es)
      have hoff2 : (d'.add (len * es)).off + 0 = μ.sh i + (off + len * es) := by
        have : (d'.add (len * es)).off = off + len * es + μ.sh i := hd2.off
        omega
      have hst := run_storeCells (P := P) (a' := d'.add (len * es)) (by rw [← hblk]; unfold Addr.add; split <;> rfl) hd2.spot new'.toList 0 rc w hb (by rw [hoff2]; exact hoff) hfz hone
      rw [hoff2] at hst
      have hrun := sr.room a0 hle hn1 hst
      exact ⟨μ, _, _, hrun, g1, g2, hvr⟩
    split at hv
    · -- nil
      rename_i len c
      split at hv
      · rename_i h00
        obtain ⟨rfl, rfl⟩ := h00
        cases hs
        split at hv
        · rename_i hk0
          cases hv
          exact none_app rfl hk0 (Nat.le_refl _) rfl (.slN 0 0)
        · rename_i hk0
          refine app_new ai sr h a0 (by omega) (by omega) (old := []) (fun w _ => ⟨#[], rfl, .nil⟩) hnew (by simp) hnl hv
      · cases hv
    · -- an empty slice
      split at hv
      · rename_i hk0
        cases hv
        cases hs
        exact none_app rfl hk0 (Nat.zero_le _) rfl (.emp _ _)
      · cases hv
    · -- the empty end of a row
      rename_i d e2
      split at hv
      · rename_i hk0
        cases hv
        cases hs
        rename_i hf
        exact none_app rfl hk0 (Nat.zero_le _) rfl (.fin _ _ hf)
      · rename_i hk0
        split at hv
        · rename_i i hrf
          split at hv
          · rename_i hes
            obtain ⟨rfl, hes0⟩ := hes
            split at hv
            · rename_i c t' l hg
              split at hv
              · rename_i hcond
                obtain ⟨hoffc, rfl⟩ := hcond
                split at hv
                · rename_i fl tp hl
                  split at hv
                  · rename_i hfit1
                    obtain ⟨hfit, hall⟩ := hfit1
                    cases hv
                    cases hs
                    rename_i d' c' hf
                    obtain ⟨r, O, hr, hO, hor⟩ := h.obj i _ hg
                    cases O <;> simp only [OR] at hor
                    rename_i rc t2 fz
                    obtain ⟨ht2, hcr, hsz, hfz⟩ := hor
                    have hcs0 := hcr.size
                    by_cases hroom : k ≤ c'
                    · -- in place
                      rcases hf with hf | ⟨hd, hcap⟩
                      · omega
                      obtain ⟨i2, hi1, hi2, hi3⟩ := hcap
                      rw [hrf] at hi1
                      cases hi1
                      have hblk : d'.block = r := by
                        have : μ.blk i = some d'.block := by have := hd.rf; rw [hrf] at this; exact this
                        rw [hr] at this; cases this; rfl
                      have hdoff : d'.off = d.off + μ.sh i := by have := hd.off; rw [hrf] at this; exact this
                      obtain ⟨new', hn1, hn2⟩ := hnew w h
                      have hn2l := hn2.length
                      have hone : ∀ v ∈ new'.toList, oneR v = true := oneR_all hn2 hall
                      have hmul : k * e2 ≤ c' * e2 := Nat.mul_le_mul_right e2 hroom
                      have hfits : μ.sh i + d.off + new'.toList.length ≤ rc.size := by
                        rw [hn2l, hnl]; omega
                      have hadd0 : d'.add (0 * e2) = d' := by simp [Addr.add]
                      have hst := run_storeCells (P := P) (a' := d'.add (0 * e2)) (by rw [hadd0]; exact hblk) (by rw [hadd0]; exact hd.spot) new'.toList 0 rc w hO (by rw [hadd0]; omega) hfz hone
                      have hoff2 : (d'.add (0 * e2)).off + 0 = μ.sh i + d.off := by rw [hadd0]; omega
                      rw [hoff2] at hst
                      have hrun := sr.room a0 (show 0 + k ≤ c' by omega) hn1 hst
                      rw [Nat.zero_add] at hrun
                      have hlt := (h.dom i r hr).2
                      have hle : μ.le (μ.addS H.next r (c' * e2) (μ.sh i + d.off)) := Emb.le_addS (h.fresh _ (Nat.le_refl _))
                      obtain ⟨g1, g2⟩ := h.shift hg hl (n' := c' * e2) (s' := μ.sh i + d.off) (c' := .lst new) (w' := setB w r (.cells (ovw rc (μ.sh i + d.off) new'.toList) t2 fz)) (r' := r) (rc' := ovw rc (μ.sh i + d.off) new'.toList) (fz' := fz)
                        rfl rfl rfl (by simp [setB]) (by simp [setB]; exact hlt) (fun q hq _ => setB_other _ hq) (by rw [setB_self _ hlt, ht2]) (by
                          have hcsz : (Cells.lst new).size = k * e2 := hnl
                          refine ⟨by rw [hcsz, ovw_size]; omega, fun j u hj => ?_⟩
                          have hjl := Cells.get_lt hj
                          rw [hcsz] at hjl
                          simp only [Cells.get] at hj
                          rw [ovw_get _ _ _ _ (by omega), if_pos (by omega)]
                          obtain ⟨u', hu1, hu2⟩ := hn2.get hj
                          refine ⟨u', ?_, hu2.le hle⟩
                          rw [show μ.sh i + d.off + j - (μ.sh i + d.off) = j from by omega]; exact hu1) (by rw [ovw_size]; omega) (by rw [ovw_size]; exact hfz)
                        (.inr hr)
                      refine ⟨_, _, _, hrun, g1, g2, .sl ⟨by simp only [RR, Emb.addS, if_true]; rw [hblk], by simp only [shR, Emb.addS, if_true]; omega, hd.spot⟩ ⟨H.next, rfl, ?_, hroom⟩⟩
                      simp only [Emb.addS, if_true]; omega
                    · -- a new row
                      obtain ⟨z', hz1, hzr, _⟩ := zeroL_spec ai.hz
                      have hdr := h.drew (w.drawn + 1)
                      obtain ⟨new', hn1, hn2⟩ := hnew _ hdr
                      have hold : (Builtin.firstCells e2 0 (.slice (some d') 0 c')).run P { w with drawn := w.drawn + 1 } = .ok #[] { w with drawn := w.drawn + 1 } := by
                        simp [Builtin.firstCells, loadCells, loadCellsFrom]
                      have hrun := sr.grow a0 hz1 (show ¬ 0 + k ≤ c' by omega) (show (0 + k) * b ≤ _ by rw [Nat.zero_add]; exact hfit) rfl hold hn1
                      rw [Nat.zero_add] at hrun
                      generalize hcap : (Question.appendCap k c' t').cut (w.tape w.drawn (Question.appendCap k c' t')) = cap at hrun
                      have hcap2 : k ≤ cap := by rw [← hcap]; simp [Question.cut]
                      have hzs : z'.cells.size = e2 := by have := (hzr μ).length; simp at this; rw [this]; exact ai.hzl
                      have hns : new'.size = k * e2 := by have := hn2.length; simp at this; omega
                      generalize harrd : #[] ++ new' ++ Builtin.zeroCells z'.cells (cap - k) = arr at hrun
                      have harr : arr.size = cap * e2 := by
                        rw [← harrd]
                        simp only [Array.size_append, zeroCells_VRL, hzs, hns]
                        simp only [List.size_toArray, List.length_nil, Nat.zero_add]
                        rw [← Nat.add_mul]
                        congr 1; omega
                      have hle : μ.le (μ.addS H.next w.heap.size arr.size 0) := Emb.le_addS (h.fresh _ (Nat.le_refl _))
                      obtain ⟨g1, g2⟩ := h.shift hg hl (n' := arr.size) (s' := 0) (c' := .lst new) (w' := { w with heap := w.heap.push (.cells arr t'), drawn := w.drawn + 1 }) (r' := w.heap.size) (rc' := arr) (fz' := (0, 0))
                        rfl rfl rfl (by simp) (by simp) (fun q hq hq2 => by show (w.heap.push _)[q]? = _; rw [Array.getElem?_push, if_neg hq]) (by simp) (by
                          refine ⟨?_, fun j u hj => ?_⟩
                          · have hcsz : (Cells.lst new).size = k * e2 := hnl
                            rw [Nat.zero_add, hcsz, harr]; exact Nat.mul_le_mul_right _ hcap2
                          · rw [Nat.zero_add]
                            obtain ⟨u', hu1, hu2⟩ := (hn2.le hle).get hj
                            refine ⟨u', ?_, hu2⟩
                            have hu1' : new'[j]? = some u' := by rw [← Array.getElem?_toList]; exact hu1
                            have hlt := (Array.getElem?_eq_some_iff.1 hu1').1
                            rw [← harrd, Array.getElem?_append_left (by simpa using hlt)]; simpa using hu1') (Nat.zero_add _) (fun o' _ hh => by simp at hh)
                        (.inl rfl)
                      refine ⟨_, _, _, hrun, g1, g2, .sl ⟨by simp [RR, Emb.addS], by simp [shR, Emb.addS], rfl⟩ ⟨H.next, rfl, ?_, hcap2⟩⟩
                      simp only [Emb.addS, if_true, harr]; omega
                  · cases hv
                · cases hv
              · cases hv
            · cases hv
          · cases hv
        · cases hv
    · -- a slice of known capacity
      rename_i d len c
      cases hs
      rename_i d' c' hd hcap
      have hcc : c' = c := hcap
      subst hcc
      split at hv
      · rename_i hk0
        cases hv
        exact none_app rfl hk0.1 hk0.2 rfl (.sl hd rfl)
      · split at hv
        · rename_i hle
          split at hv
          · rename_i i hrf
            split at hv
            · rename_i H2 hw
              cases hv
              have hd3 : AR μ ⟨.own i, d.off⟩ d' := by rw [← hrf]; exact hd
              exact in_place rfl hd3 hle hw rfl (.sl hd rfl)
            · cases hv
          · cases hv
        · rename_i hnle
          split at hv
          · rename_i cs hcs
            split at hv
            · rename_i old hol
              exact app_new ai sr h a0 rfl hnle (firstCells_blk hd hcs hol) hnew (Cells.getN_get hol).1 hnl hv
            · cases hv
          · cases hv
    · -- a slice of a row that append has made
      rename_i i off len e2
      cases hs
      rename_i d' c' hd hcap
      obtain ⟨i2, hi1, hi2, hi3⟩ := hcap
      cases hi1
      split at hv
      · rename_i hes
        obtain ⟨rfl, hes0⟩ := hes
        split at hv
        · rename_i hk0
          cases hv
          exact none_app rfl hk0 hi3 rfl (.sl hd ⟨i, rfl, hi2, hi3⟩)
        · rename_i hk0
          split at hv
          · rename_i c t' l hg
            obtain ⟨r, O, hr, hO, hor⟩ := h.obj i _ hg
            cases O <;> simp only [OR] at hor
            rename_i rc t2 fz
            obtain ⟨ht2, hcr, hsz, hfz⟩ := hor
            have hblk : d'.block = r := by
              have : μ.blk i = some d'.block := hd.rf
              rw [hr] at this; cases this; rfl
            split at hv
            · rename_i hin
              split at hv
              · rename_i H2 hw
                cases hv
                have hroom : len + k ≤ c' := by
                  have h1 : off + (len + k) * e2 ≤ off + c' * e2 := by
                    have := hcr.size
                    have hi2' : off + c' * e2 = μ.siz i := hi2
                    omega
                  exact Nat.le_of_mul_le_mul_right (by omega) hes0
                exact in_place rfl hd hroom hw rfl (.sl hd ⟨i, rfl, hi2, hroom⟩)
              · cases hv
            · rename_i hnin
              split at hv
              · rename_i hcond
                obtain ⟨rfl, hlen, rfl⟩ := hcond
                split at hv
                · rename_i fl tp hl
                  split at hv
                  · rename_i htp
                    subst htp
                    split at hv
                    · rename_i old hol
                      split at hv
                      · rename_i hfit1
                        obtain ⟨hfit, hall⟩ := hfit1
                        cases hv
                        obtain ⟨hol1, hol2⟩ := Cells.getN_get hol
                        have hi2' : 0 + c' * e2 = μ.siz tp := hi2
                        have hdoff : d'.off = 0 + μ.sh tp := hd.off
                        -- the cells of the longer row
                        have hcget : ∀ j u, (Cells.lst (old ++ new)).get j = some u → (j < c.size → c.get j = some u) ∧ (c.size ≤ j → new[j - c.size]? = some u) := by
                          intro j u hj
                          simp only [Cells.get] at hj
                          constructor
                          · intro hlt
                            rw [List.getElem?_append_left (by omega)] at hj
                            have := hol2 j (by omega)
                            rw [Nat.zero_add] at this
                            rw [this]; exact hj
                          · intro hge
                            rw [List.getElem?_append_right (by omega)] at hj
                            rw [hol1, hlen] at hj; exact hj
                        have hcsz : (Cells.lst (old ++ new)).size = c.size + k * e2 := by show (old ++ new).length = _; rw [List.length_append]; omega
                        by_cases hroom : len + k ≤ c'
                        · -- in place
                          obtain ⟨new', hn1, hn2⟩ := hnew w h
                          have hn2l := hn2.length
                          have hone : ∀ v ∈ new'.toList, oneR v = true := oneR_all hn2 hall
                          have hd2 := hd.add (len * e2)
                          have hfits : μ.sh tp + len * e2 + new'.toList.length ≤ rc.size := by
                            have h1 : (len + k) * e2 ≤ c' * e2 := Nat.mul_le_mul_right e2 hroom
                            rw [Nat.add_mul] at h1
                            rw [hn2l, hnl]; omega
                          have hoff2 : (d'.add (len * e2)).off + 0 = μ.sh tp + len * e2 := by
                            have : (d'.add (len * e2)).off = 0 + len * e2 + μ.sh tp := hd2.off
                            omega
                          have hst := run_storeCells (P := P) (a' := d'.add (len * e2)) (by rw [← hblk]; unfold Addr.add; split <;> rfl) hd2.spot new'.toList 0 rc w hO (by rw [hoff2]; exact hfits) hfz hone
                          rw [hoff2] at hst
                          have hrun := sr.room a0 hroom hn1 hst
                          have hlt := (h.dom tp r hr).2
                          have hle : μ.le (μ.addS H.next r (μ.siz tp) (μ.sh tp)) := Emb.le_addS (h.fresh _ (Nat.le_refl _))
                          obtain ⟨g1, g2⟩ := h.extend hg hl (n' := μ.siz tp) (s' := μ.sh tp) (c' := .lst (old ++ new)) (by rw [hcsz]; omega) (w' := setB w r (.cells (ovw rc (μ.sh tp + len * e2) new'.toList) t2 fz)) (r' := r) (rc' := ovw rc (μ.sh tp + len * e2) new'.toList) (fz' := fz)
                            rfl rfl rfl (by simp [setB]) (by simp [setB]; exact hlt) (fun q hq _ => setB_other _ hq) (by rw [setB_self _ hlt, ht2]) (by
                              refine ⟨by rw [hcsz, ovw_size]; omega, fun j u hj => ?_⟩
                              obtain ⟨q1, q2⟩ := hcget j u hj
                              have hjl := Cells.get_lt hj
                              rw [hcsz] at hjl
                              rw [ovw_get _ _ _ _ (by omega)]
                              by_cases hjc : j < c.size
                              · rw [if_neg (by omega)]
                                obtain ⟨u', hu1, hu2⟩ := hcr.get j u (q1 hjc)
                                exact ⟨u', hu1, hu2.le hle⟩
                              · rw [if_pos (by omega)]
                                obtain ⟨u', hu1, hu2⟩ := hn2.get (q2 (by omega))
                                refine ⟨u', ?_, hu2.le hle⟩
                                rw [show μ.sh tp + j - (μ.sh tp + len * e2) = j - c.size from by omega]; exact hu1) (by rw [ovw_size]; exact hsz) (by rw [ovw_size]; exact hfz)
                            (.inr ⟨hr, rfl, rc, by rw [← ht2]; exact hO, ovw_size _ _ _, fun j hj => by rw [ovw_get _ _ _ _ (by omega), if_neg (by omega)]⟩)
                          refine ⟨_, _, _, hrun, g1, g2, .sl ⟨by simp only [RR, Emb.addS, if_true]; rw [hblk], by simp only [shR, Emb.addS, if_true]; exact hd.off, hd.spot⟩ ⟨H.next, rfl, ?_, hroom⟩⟩
                          simp only [Emb.addS, if_true]
                          exact hi2'
                        · -- a new row
                          obtain ⟨z', hz1, hzr, _⟩ := zeroL_spec ai.hz
                          have hdr := h.drew (w.drawn + 1)
                          have hcs : blkOf W H (.own tp) = some c := by simp [blkOf, hg]
                          obtain ⟨old', ho1, ho2⟩ := firstCells_blk (P := P) (len := len) (c' := c') (n := len) hd hcs hol _ hdr
                          obtain ⟨new', hn1, hn2⟩ := hnew _ hdr
                          have hrun := sr.grow a0 hz1 hroom hfit rfl ho1 hn1
                          generalize hcap : (Question.appendCap (len + k) c' t').cut (w.tape w.drawn (Question.appendCap (len + k) c' t')) = cap at hrun
                          have hcap2 : len + k ≤ cap := by rw [← hcap]; simp [Question.cut]
                          have hzs : z'.cells.size = e2 := by have := (hzr μ).length; simp at this; rw [this]; exact ai.hzl
                          have hos : old'.size = len * e2 := by have := ho2.length; simp at this; omega
                          have hns : new'.size = k * e2 := by have := hn2.length; simp at this; omega
                          generalize harrd : old' ++ new' ++ Builtin.zeroCells z'.cells (cap - (len + k)) = arr at hrun
                          have harr : arr.size = cap * e2 := by
                            rw [← harrd]
                            simp only [Array.size_append, zeroCells_VRL, hzs, hos, hns]
                            rw [← Nat.add_mul, ← Nat.add_mul]
                            congr 1; omega
                          have hle : μ.le (μ.addS H.next w.heap.size arr.size 0) := Emb.le_addS (h.fresh _ (Nat.le_refl _))
                          obtain ⟨g1, g2⟩ := h.extend hg hl (n' := arr.size) (s' := 0) (c' := .lst (old ++ new)) (by rw [hcsz]; omega) (w' := { w with heap := w.heap.push (.cells arr t'), drawn := w.drawn + 1 }) (r' := w.heap.size) (rc' := arr) (fz' := (0, 0))
                            rfl rfl rfl (by simp) (by simp) (fun q hq hq2 => by show (w.heap.push _)[q]? = _; rw [Array.getElem?_push, if_neg hq]) (by simp) (by
                              refine ⟨?_, fun j u hj => ?_⟩
                              · rw [Nat.zero_add, hcsz, harr, ← hlen, ← Nat.add_mul]; exact Nat.mul_le_mul_right _ hcap2
                              · rw [Nat.zero_add]
                                obtain ⟨u', hu1, hu2⟩ := ((ho2.append hn2).le hle).get hj
                                refine ⟨u', ?_, hu2⟩
                                have hu1' : (old' ++ new')[j]? = some u' := by rw [← Array.getElem?_toList, Array.toList_append]; exact hu1
                                have hlt := (Array.getElem?_eq_some_iff.1 hu1').1
                                rw [← harrd, Array.getElem?_append_left hlt]; exact hu1') (Nat.zero_add _) (fun o' _ hh => by simp at hh)
                            (.inl rfl)
                          refine ⟨_, _, _, hrun, g1, g2, .sl ⟨by simp [RR, Emb.addS], by simp [shR, Emb.addS], rfl⟩ ⟨H.next, rfl, ?_, hcap2⟩⟩
                          simp only [Emb.addS, if_true, harr]; omega
                      · cases hv
                    · cases hv
                  · cases hv
                · cases hv
              · -- a row that is cut off in front
                split at hv
                · rename_i hcond
                  obtain ⟨hoff0, hlen, rfl⟩ := hcond
                  split at hv
                  · rename_i fl tp hl
                    split at hv
                    · rename_i old hol
                      split at hv
                      · rename_i hfit1
                        obtain ⟨hfit, hall⟩ := hfit1
                        cases hv
                        obtain ⟨hol1, hol2⟩ := Cells.getN_get hol
                        have hi2' : off + c' * e2 = μ.siz i := hi2
                        have hdoff : d'.off = off + μ.sh i := hd.off
                        have hcs0 := hcr.size
                        by_cases hroom : len + k ≤ c'
                        · -- in place
                          obtain ⟨new', hn1, hn2⟩ := hnew w h
                          have hn2l := hn2.length
                          have hone : ∀ v ∈ new'.toList, oneR v = true := oneR_all hn2 hall
                          have hd2 := hd.add (len * e2)
                          have hmul : (len + k) * e2 ≤ c' * e2 := Nat.mul_le_mul_right e2 hroom
                          rw [Nat.add_mul] at hmul
                          have hfits : μ.sh i + (off + len * e2) + new'.toList.length ≤ rc.size := by
                            rw [hn2l, hnl]; omega
                          have hoff2 : (d'.add (len * e2)).off + 0 = μ.sh i + (off + len * e2) := by
                            have : (d'.add (len * e2)).off = off + len * e2 + μ.sh i := hd2.off
                            omega
                          have hst := run_storeCells (P := P) (a' := d'.add (len * e2)) (by rw [← hblk]; unfold Addr.add; split <;> rfl) hd2.spot new'.toList 0 rc w hO (by rw [hoff2]; exact hfits) hfz hone
                          rw [hoff2] at hst
                          have hrun := sr.room a0 hroom hn1 hst
                          have hlt := (h.dom i r hr).2
                          have hle : μ.le (μ.addS H.next r (c' * e2) (μ.sh i + off)) := Emb.le_addS (h.fresh _ (Nat.le_refl _))
                          obtain ⟨g1, g2⟩ := h.shift hg hl (n' := c' * e2) (s' := μ.sh i + off) (c' := .lst (old ++ new)) (w' := setB w r (.cells (ovw rc (μ.sh i + (off + len * e2)) new'.toList) t2 fz)) (r' := r) (rc' := ovw rc (μ.sh i + (off + len * e2)) new'.toList) (fz' := fz)
                            rfl rfl rfl (by simp [setB]) (by simp [setB]; exact hlt) (fun q hq _ => setB_other _ hq) (by rw [setB_self _ hlt, ht2]) (by
                              have hcsz : (Cells.lst (old ++ new)).size = len * e2 + k * e2 := by show (old ++ new).length = _; rw [List.length_append]; omega
                              refine ⟨by rw [hcsz, ovw_size]; omega, fun j u hj => ?_⟩
                              have hjl := Cells.get_lt hj
                              rw [hcsz] at hjl
                              simp only [Cells.get] at hj
                              rw [ovw_get _ _ _ _ (by omega)]
                              by_cases hjc : j < len * e2
                              · rw [if_neg (by omega)]
                                rw [List.getElem?_append_left (by omega)] at hj
                                obtain ⟨u', hu1, hu2⟩ := hcr.get (off + j) u (by rw [hol2 j (by omega)]; exact hj)
                                exact ⟨u', by rw [show μ.sh i + off + j = μ.sh i + (off + j) from by omega]; exact hu1, hu2.le hle⟩
                              · rw [if_pos (by omega)]
                                rw [List.getElem?_append_right (by omega)] at hj
                                obtain ⟨u', hu1, hu2⟩ := hn2.get hj
                                refine ⟨u', ?_, hu2.le hle⟩
                                rw [show μ.sh i + off + j - (μ.sh i + (off + len * e2)) = j - old.length from by omega]; exact hu1) (by rw [ovw_size]; omega) (by rw [ovw_size]; exact hfz)
                            (.inr hr)
                          refine ⟨_, _, _, hrun, g1, g2, .sl ⟨by simp only [RR, Emb.addS, if_true]; rw [hblk], by simp only [shR, Emb.addS, if_true]; omega, hd.spot⟩ ⟨H.next, rfl, ?_, hroom⟩⟩
                          simp only [Emb.addS, if_true]; omega
                        · -- a new row
                          obtain ⟨z', hz1, hzr, _⟩ := zeroL_spec ai.hz
                          have hdr := h.drew (w.drawn + 1)
                          have hcs : blkOf W H (.own i) = some c := by simp [blkOf, hg]
                          obtain ⟨old', ho1, ho2⟩ := firstCells_blk (P := P) (len := len) (c' := c') (n := len) hd hcs hol _ hdr
                          obtain ⟨new', hn1, hn2⟩ := hnew _ hdr
                          have hrun := sr.grow a0 hz1 hroom hfit rfl ho1 hn1
                          generalize hcap : (Question.appendCap (len + k) c' t').cut (w.tape w.drawn (Question.appendCap (len + k) c' t')) = cap at hrun
                          have hcap2 : len + k ≤ cap := by rw [← hcap]; simp [Question.cut]
                          have hzs : z'.cells.size = e2 := by have := (hzr μ).length; simp at this; rw [this]; exact ai.hzl
                          have hos : old'.size = len * e2 := by have := ho2.length; simp at this; omega
                          have hns : new'.size = k * e2 := by have := hn2.length; simp at this; omega
                          generalize harrd : old' ++ new' ++ Builtin.zeroCells z'.cells (cap - (len + k)) = arr at hrun
                          have harr : arr.size = cap * e2 := by
                            rw [← harrd]
                            simp only [Array.size_append, zeroCells_VRL, hzs, hos, hns]
                            rw [← Nat.add_mul, ← Nat.add_mul]
                            congr 1; omega
                          have hle : μ.le (μ.addS H.next w.heap.size arr.size 0) := Emb.le_addS (h.fresh _ (Nat.le_refl _))
                          obtain ⟨g1, g2⟩ := h.shift hg hl (n' := arr.size) (s' := 0) (c' := .lst (old ++ new)) (w' := { w with heap := w.heap.push (.cells arr t'), drawn := w.drawn + 1 }) (r' := w.heap.size) (rc' := arr) (fz' := (0, 0))
                            rfl rfl rfl (by simp) (by simp) (fun q hq hq2 => by show (w.heap.push _)[q]? = _; rw [Array.getElem?_push, if_neg hq]) (by simp) (by
                              refine ⟨?_, fun j u hj => ?_⟩
                              · have hcsz : (Cells.lst (old ++ new)).size = len * e2 + k * e2 := by show (old ++ new).length = _; rw [List.length_append]; omega
                                rw [Nat.zero_add, hcsz, harr, ← Nat.add_mul]; exact Nat.mul_le_mul_right _ hcap2
                              · rw [Nat.zero_add]
                                obtain ⟨u', hu1, hu2⟩ := ((ho2.append hn2).le hle).get hj
                                refine ⟨u', ?_, hu2⟩
                                have hu1' : (old' ++ new')[j]? = some u' := by rw [← Array.getElem?_toList, Array.toList_append]; exact hu1
                                have hlt := (Array.getElem?_eq_some_iff.1 hu1').1
                                rw [← harrd, Array.getElem?_append_left hlt]; exact hu1') (Nat.zero_add _) (fun o' _ hh => by simp at hh)
                            (.inl rfl)
                          refine ⟨_, _, _, hrun, g1, g2, .sl ⟨by simp [RR, Emb.addS], by simp [shR, Emb.addS], rfl⟩ ⟨H.next, rfl, ?_, hcap2⟩⟩
                          simp only [Emb.addS, if_true, harr]; omega
                      · cases hv
                    · cases hv
                  · cases hv
                · cases hv
          · cases hv
      · cases hv
    · cases hv
theorem app_run {at_ : Array TypeId} {T U e es b : Nat} {z : List AV} (ai : AppIn P at_ T U e es b z) (hU : P.underlying U = some .string ∨ ∃ q, P.underlying U = some (.slice q)) {ty : TypeId} {args : Array Value} {ofStr : Bool} (hstr : ofStr = true → es = 1) {s x : AV} {s' x' : Value} (h : HR comp W μ H w) (a0 : args[0]? = some s') (a1 : args[1]? = some x')
    (hs : VR μ s s') (hx : VR μ x x') {v : AV} {H' : Heap} (hv : appA W H e es b ofStr s x = some (v, H')) :
    ∃ μ' w' v', (Builtin.append_ at_ ty args).run P w = .ok v' w' ∧ HR comp W μ' H' w' ∧ Step μ H w μ' H' w' ∧ VR μ' v v' := by
  unfold appA at hv
  split at hv
  · cases hv
  · rename_i k new hsrc
    obtain ⟨hk, hnl, hnew⟩ := run_src (comp := comp) (P := P) hx hsrc hstr
    exact appN_run ai (AppSrc.std ai.h0 ai.h1 ai.hT hU ai.hs ai.hb ai.hb0 a1 hk) h a0 hs hnl hnew hv
theorem appZ_run {at_ : Array TypeId} {T U e b : Nat} {z : List AV} (ai : AppIn P at_ T U e 1 b z) {kd : IntKind} (hU : P.underlying U = some (.int kd)) (hz : z = [.int .u8 0]) {ty : TypeId} {args : Array Value} {s x : AV} {s' x' : Value} (h : HR comp W μ H w) (a0 : args[0]? = some s') (a1 : args[1]? = some x')
    (hs : VR μ s s') (hx : VR μ x x') {v : AV} {H' : Heap} (hb1 : b ≤ 128) (hv : appZ W H e b s x = some (v, H')) :
    ∃ μ' w' v', (Builtin.append_ at_ ty args).run P w = .ok v' w' ∧ HR comp W μ' H' w' ∧ Step μ H w μ' H' w' ∧ VR μ' v v' := by
  unfold appZ at hv
  split at hv
  · rename_i m
    split at hv
    · rename_i hm
      cases hx
      obtain ⟨z', hz1, hzr, _⟩ := zeroL_spec ai.hz
      have hmb : m.toNat * b ≤ 140737488355328 := Nat.le_trans (Nat.mul_le_mul (show m.toNat ≤ 1099511627776 by omega) hb1) (by decide)
      refine appN_run ai (AppSrc.zeros ai.h0 ai.h1 ai.hT hU ai.hs ai.hb ai.hb0 hz1 a1 hm hmb) h a0 hs (by simp) (fun w _ => ⟨_, rfl, ?_⟩) hv
      have hzz := hzr μ
      rw [hz] at hzz
      have := zeros_VRL hzz m.toNat (by simp)
      have hsz : z'.cells.size = 1 := by have := hzz.length; simpa using this
      simp only [zerosL, List.length_singleton, Nat.mul_one] at this
      have e1 : (List.replicate m.toNat [AV.int IntKind.u8 0]).flatten = List.replicate m.toNat (AV.int .u8 0) := by simp
      rw [e1] at this
      simp only [Builtin.zeroCells, hsz, Nat.mul_one]
      rw [hsz] at this
      exact this
    · cases hv
  · cases hv
end Go.Proofs.YtjfnhdiimibmiaaDoor.Sx

/- Deeds, the whole. -/
namespace Go.Proofs.YtjfnhdiimibmiaaDoor.Sx
variable {comp : Nat → Code → Option SC} {P : Program} {W : World} {μ : Emb} {H : Heap} {w : World} {A : Tm} {a : Act} {v : AV}

theorem Acts.val {o : Oper} {c : Call} {b : Builtin} {v : AV} {H' : Heap} (hop : o.op = .call c) (hb : c.callee = .builtin b) {s : Sem Value} (hs : ∀ cs, builtin b c.argTypes o.type cs (c.args.map a.eval) = (do pure (.value (← s))))
    (h : ∃ μ' w' v', s.run P w = .ok v' w' ∧ HR comp W μ' H' w' ∧ Step μ H w μ' H' w' ∧ VR μ' v v') : Acts comp P W μ H w a o v H' := by
  obtain ⟨μ', w', v', h1, h2, h3, h4⟩ := h
  refine ⟨μ', w', .value v', v', ?_, .inl rfl, h2, h3, h4⟩
  rw [run_builtin hop hb, hs]
  simp only [Sem.run_bind, h1, Result.andThen_ok, Sem.run_pure]

theorem copy_run {at_ : Array TypeId} {ty T e es : Nat} {args : Array Value} {d s : AV} {d' s' : Value} (h : HR comp W μ H w) (h0 : at_[0]? = some T) (hT : P.underlying T = some (.slice e)) (hs : sizeT P e = some es) (a0 : args[0]? = some d') (a1 : args[1]? = some s')
    (hd : VR μ d d') (hsv : VR μ s s') {v : AV} {H' : Heap} (hv : copyA W H es d s = some (v, H')) :
    ∃ μ' w' v', (Builtin.copy_ at_ ty args).run P w = .ok v' w' ∧ HR comp W μ' H' w' ∧ Step μ H w μ' H' w' ∧ VR μ' v v' := by
  -- the run, from what is read and written
  have key : ∀ {base : Option Addr} {dl dc m : Nat} {cs : Array Value} {w' : World}, d' = .slice base dl dc → (Builtin.lenOf s').run P w = .ok m w → (Builtin.firstCells es (Nat.min m dl) s').run P w = .ok cs w →
      (match base with | some a => storeCells a cs.toList | none => pure ()).run P w = .ok () w' → (Builtin.copy_ at_ ty args).run P w = .ok (.int .i64 ((Nat.min m dl : Nat) : Int)) w' := by
    intro base dl dc m cs w' e1 hl hc hst
    subst e1
    simp only [Builtin.copy_, h0, a0, a1, Sem.run_bind, run_underlying hT, Result.andThen_ok, hl, run_sizeT hs, hc]
    cases base with
    | none => simp only [Sem.run_pure] at hst ⊢; cases hst; rfl
    | some a => simp only at hst ⊢; simp only [Sem.run_bind, hst, Result.andThen_ok, Sem.run_pure, goInt]
  have nothing : ∀ {base : Option Addr} {dl dc m : Nat}, d' = .slice base dl dc → (Builtin.lenOf s').run P w = .ok m w → Nat.min m dl = 0 → (∃ cs : Array Value, (Builtin.firstCells es 0 s').run P w = .ok cs w ∧ cs.toList = []) → H' = H → v = .int .i64 0 →
      ∃ μ' w' v', (Builtin.copy_ at_ ty args).run P w = .ok v' w' ∧ HR comp W μ' H' w' ∧ Step μ H w μ' H' w' ∧ VR μ' v v' := by
    intro base dl dc m e1 hl hm hc hH hvv
    subst hH; subst hvv
    obtain ⟨cs, hc1, hc2⟩ := hc
    have := key e1 hl (by rw [hm]; exact hc1) (w' := w) (by cases base <;> simp [hc2, storeCells])
    rw [hm] at this
    exact ⟨μ, w, _, this, h, Step.refl _ _ _, by simpa using VR.int _ _⟩
  have write : ∀ {i off dl dc m : Nat} {ad : Addr} {l : List AV} {cs : Array Value}, d' = .slice (some ad) dl dc → AR μ ⟨.own i, off⟩ ad → (Builtin.lenOf s').run P w = .ok m w → (Builtin.firstCells es (Nat.min m dl) s').run P w = .ok cs w → VRL μ l cs.toList →
      H.write i off l = some H' → v = .int .i64 ((Nat.min m dl : Nat) : Int) → ∃ μ' w' v', (Builtin.copy_ at_ ty args).run P w = .ok v' w' ∧ HR comp W μ' H' w' ∧ Step μ H w μ' H' w' ∧ VR μ' v v' := by
    intro i off dl dc m ad l cs e1 had hl hc hlr hw hvv
    subst hvv
    obtain ⟨r, rc, t', fz, hr, hb, hoff, hfz, hone, g1, g2, _⟩ := h.write hw hlr
    have hblk : ad.block = r := by
      have : μ.blk i = some ad.block := had.rf
      rw [hr] at this; cases this; rfl
    have hadoff : ad.off + 0 = μ.sh i + off := by
      have : ad.off = off + μ.sh i := had.off
      omega
    have hst := run_storeCells (P := P) hblk had.spot cs.toList 0 rc w hb (by rw [hadoff]; exact hoff) hfz hone
    rw [hadoff] at hst
    exact ⟨μ, _, _, key e1 hl hc hst, g1, g2, .int _ _⟩
  unfold copyA at hv
  split at hv
  · rename_i da dl dcap
    split at hv
    · rename_i sa sl scap
      simp only at hv
      have hlen : ∀ {b l c}, s' = .slice b l c → l = sl → (Builtin.lenOf s').run P w = .ok sl w := by intro b l c e1 e2; subst e1; subst e2; rfl
      have hsl : ∃ b c, s' = .slice b sl c := by cases hsv <;> exact ⟨_, _, rfl⟩
      obtain ⟨sb, sc, rfl⟩ := hsl
      have hdl : ∃ b c, d' = .slice b dl c := by cases hd <;> exact ⟨_, _, rfl⟩
      obtain ⟨db, dc, rfl⟩ := hdl
      have empty0 : ∃ cs : Array Value, (Builtin.firstCells es 0 (.slice sb sl sc)).run P w = .ok cs w ∧ cs.toList = [] := by
        cases sb <;> exact ⟨#[], by simp [Builtin.firstCells, loadCells, loadCellsFrom], rfl⟩
      split at hv
      · rename_i i off
        cases hd
        rename_i ad had hdc
        split at hv
        · rename_i b
          cases hsv
          rename_i sad hsad hsc
          split at hv
          · rename_i c hc
            split at hv
            · rename_i l hl
              split at hv
              · rename_i H2 hw
                cases hv
                obtain ⟨cs, hc1, hc2⟩ := firstCells_blk (comp := comp) (P := P) (es := es) (n := Nat.min sl dl) (len := sl) (c' := sc) hsad hc hl w h
                exact write rfl had rfl hc1 hc2 hw rfl
              · cases hv
            · cases hv
          · cases hv
        · split at hv
          · rename_i hn0
            cases hv
            exact nothing rfl rfl hn0 empty0 rfl rfl
          · cases hv
      · split at hv
        · rename_i hn0
          cases hv
          exact nothing rfl rfl hn0 empty0 rfl rfl
        · cases hv
      · cases hv
    · -- an empty slice
      cases hv
      cases hsv
      have hdl : ∃ b c, d' = .slice b dl c := by cases hd <;> exact ⟨_, _, rfl⟩
      obtain ⟨db, dc, rfl⟩ := hdl
      exact nothing rfl rfl (by simp) ⟨#[], by simp [Builtin.firstCells, loadCells, loadCellsFrom], rfl⟩ rfl rfl
    · -- an empty slice
      cases hv
      cases hsv
      have hdl : ∃ b c, d' = .slice b dl c := by cases hd <;> exact ⟨_, _, rfl⟩
      obtain ⟨db, dc, rfl⟩ := hdl
      exact nothing rfl rfl (by simp) ⟨#[], by simp [Builtin.firstCells, loadCells, loadCellsFrom], rfl⟩ rfl rfl
    · rename_i s
      split at hv
      · rename_i hes
        subst hes
        simp only at hv
        cases hsv
        rename_i str
        have hdl : ∃ b c, d' = .slice b dl c := by cases hd <;> exact ⟨_, _, rfl⟩
        obtain ⟨db, dc, rfl⟩ := hdl
        have hfc : ∀ n, (Builtin.firstCells 1 n (.string str)).run P w = .ok ((str.extract 0 n).data.map fun b => Value.int .u8 b.toNat) w := fun n => rfl
        have hfcl : ∀ n, ((str.extract 0 n).data.map fun b => Value.int .u8 b.toNat).toList = ((str.data.toList.take n)).map fun b => Value.int .u8 b.toNat := by
          intro n; rw [Array.toList_map, extract_str]; simp only [List.drop_zero]
        have hl : (Builtin.lenOf (.string str)).run P w = .ok str.data.toList.length w := by simp [Builtin.lenOf]
        split at hv
        · rename_i i off
          cases hd
          rename_i ad had hdc
          split at hv
          · rename_i H2 hw
            cases hv
            exact write rfl had hl (hfc _) (by rw [hfcl]; exact VRL.map _ fun b _ => .int _ _) hw rfl
          · cases hv
        · split at hv
          · rename_i hn0
            cases hv
            refine nothing rfl hl hn0 ⟨_, hfc 0, ?_⟩ rfl rfl
            rw [hfcl]; simp
          · cases hv
        · cases hv
      · cases hv
    · cases hv
  · cases hv

theorem e_del {o : Oper} {c : Call} {t kt et : TypeId} {ks : KS} {m' k' : SX} {H' : Heap} (h : HR comp W μ H w) (hop : o.op = .call c) (hb : c.callee = .builtin .delete) (h0 : c.argTypes[0]? = some t) (ht : P.underlying t = some (.map kt et)) (hks : keyT P kt = some ks)
    (hx : compXs c.args = some [m', k']) (hA : TmR μ A a.tmps) (hv : delA H ks (evX A m') (evX A k') = some H') : Acts comp P W μ H w a o (.tup []) H' := by
  obtain ⟨mr, hm0, rm⟩ := getX_args (μ := μ) hx hA (i := 0) rfl
  obtain ⟨kr, hk0, rk⟩ := getX_args (μ := μ) hx hA (i := 1) rfl
  refine Acts.val hop hb (s := Builtin.delete_ c.argTypes o.type (c.args.map a.eval)) (fun _ => rfl) ?_
  generalize evX A m' = mv at rm hv
  generalize evX A k' = kv at rk hv
  unfold delA at hv
  split at hv
  · split at hv
    · rename_i hf
      cases hv
      cases rm
      have hck := run_checkK (P := P) hks rk hf true w
      refine ⟨μ, w, undef, ?_, h, Step.refl _ _ _, .tup .nil⟩
      simp only [Builtin.delete_, h0, hm0, hk0, Sem.run_bind, run_underlying ht, Result.andThen_ok, hck, Sem.run_pure, undef]
    · cases hv
  · rename_i i
    split at hv
    · rename_i es hg
      split at hv
      · rename_i hf
        cases rm
        rename_i r hr
        have hr : μ.blk i = some r := hr
        obtain ⟨r2, O, h1, h2, h3⟩ := h.obj i _ hg
        rw [hr] at h1; cases h1
        cases O <;> simp only [OR] at h3
        rename_i res ck
        have hg2 : (getObj r).run P w = .ok (.map res ck) w := by simp [getObj, Sem.run, h2]
        have hck := run_checkK (P := P) hks rk hf res.isEmpty w
        split at hv
        · rename_i j vv hfk
          cases hv
          obtain ⟨r', q1, q2⟩ := run_findKey (P := P) hks rk hf h3 hfk
          cases r' with
          | none => cases q2
          | some q =>
            obtain ⟨j', v'⟩ := q
            obtain ⟨rfl, hvr⟩ := q2
            obtain ⟨g1, g2⟩ := h.setObj hg (o' := .map (es.eraseIdx j)) rfl rfl hr (O := .map (res.eraseIdxIfInBounds j) ck) (by
              show ER μ _ _
              rw [Array.toList_eraseIdxIfInBounds]; exact h3.erase j)
            refine ⟨μ, _, undef, ?_, g1, g2, .tup .nil⟩
            simp only [Builtin.delete_, h0, hm0, hk0, Sem.run_bind, run_underlying ht, Result.andThen_ok, hg2, hck, q1, run_setObjMap h2, Sem.run_pure, undef]
        · rename_i hfk
          cases hv
          obtain ⟨r', q1, q2⟩ := run_findKey (P := P) hks rk hf h3 hfk
          cases r' with
          | some q => cases q2
          | none =>
            refine ⟨μ, w, undef, ?_, h, Step.refl _ _ _, .tup .nil⟩
            simp only [Builtin.delete_, h0, hm0, hk0, Sem.run_bind, run_underlying ht, Result.andThen_ok, hg2, hck, q1, run_setObjMap h2, Sem.run_pure, undef, setB_same h2]
        · cases hv
      · cases hv
    · cases hv
  · cases hv

theorem evD_run {o : Oper} {ek : EK} {H' : Heap} (h : HR comp W μ H w) (hk : compK P o = some (.e ek)) (hA : TmR μ A a.tmps) (hv : evD W H A ek = some (v, H')) : Acts comp P W μ H w a o v H' := by
  unfold compK at hk
  cases hop : o.op with
  | store t x y =>
    simp only [hop] at hk
    split at hk
    · cases hk
      simp only [evD] at hv
      split at hv
      · cases hv; exact e_store h hop ‹_› hA ‹_› ‹_› ‹_›
      · cases hv
    · cases hk
  | mapUpdate t m k y =>
    simp only [hop] at hk
    split at hk
    · obtain ⟨ks, hks, e⟩ := map_some hk
      cases e
      simp only [evD] at hv
      split at hv
      · cases hv; exact e_mupd h hop ‹_› hks hA ‹_› ‹_› ‹_› ‹_›
      · cases hv
    · cases hk
  | call c =>
    simp only [hop] at hk
    cases hb : c.callee with
    | builtin b =>
      cases b with
      | append =>
        simp only [hb] at hk
        split at hk
        · rename_i T U s x h0 h1 hx
          split at hk
          · rename_i e hT
            split at hk
            · rename_i es b z hs hbt hz
              obtain ⟨sr, hs0, rs⟩ := getX_args (μ := μ) hx hA (i := 0) rfl
              obtain ⟨xr, hx0, rx⟩ := getX_args (μ := μ) hx hA (i := 1) rfl
              split at hk
              · rename_i q hU
                split at hk
                · rename_i hc
                  cases hk
                  simp only [evD] at hv
                  exact Acts.val hop hb (s := Builtin.append_ c.argTypes o.type (c.args.map a.eval)) (fun _ => rfl)
                    (app_run (ofStr := false) ⟨h0, h1, hT, hs, hbt, hc.2, hz, hc.1⟩ (.inr ⟨q, hU⟩) (by simp) h hs0 hx0 rs rx hv)
                · cases hk
              · rename_i hU
                split at hk
                · rename_i hc
                  cases hk
                  simp only [evD] at hv
                  exact Acts.val hop hb (s := Builtin.append_ c.argTypes o.type (c.args.map a.eval)) (fun _ => rfl)
                    (app_run (ofStr := true) ⟨h0, h1, hT, hs, hbt, hc.2.2, hz, by omega⟩ (.inl hU) (fun _ => hc.1) h hs0 hx0 rs rx hv)
                · cases hk
              · rename_i kd hU
                split at hk
                · rename_i hc
                  cases hk
                  obtain ⟨rfl, hc2, hc3, hc4⟩ := hc
                  simp only [evD] at hv
                  exact Acts.val hop hb (s := Builtin.append_ c.argTypes o.type (c.args.map a.eval)) (fun _ => rfl)
                    (appZ_run ⟨h0, h1, hT, hs, hbt, hc2, hz, by rw [isZ8_eq hc4]; rfl⟩ hU (isZ8_eq hc4) h hs0 hx0 rs rx hc3 hv)
                · cases hk
              · cases hk
            · cases hk
          · cases hk
        · cases hk
      | copy =>
        simp only [hb] at hk
        split at hk
        · rename_i T d s h0 hx
          split at hk
          · rename_i e hT
            obtain ⟨es, hs, e1⟩ := map_some hk
            cases e1
            simp only [evD] at hv
            obtain ⟨sr, hs0, rs⟩ := getX_args (μ := μ) hx hA (i := 0) rfl
            obtain ⟨xr, hx0, rx⟩ := getX_args (μ := μ) hx hA (i := 1) rfl
            exact Acts.val hop hb (s := Builtin.copy_ c.argTypes o.type (c.args.map a.eval)) (fun _ => rfl) (copy_run h h0 hT hs hs0 hx0 rs rx hv)
          · cases hk
        · cases hk
      | delete =>
        simp only [hb] at hk
        split at hk
        · rename_i T d s h0 hx
          split at hk
          · rename_i kt et hT
            obtain ⟨ks, hks, e1⟩ := map_some hk
            cases e1
            simp only [evD] at hv
            split at hv
            · cases hv; exact e_del h hop hb h0 hT hks hx hA ‹_›
            · cases hv
          · cases hk
        · cases hk
      | _ => simp only [hb] at hk; ((repeat' split at hk) <;> first | contradiction | (cases hk; done) | (obtain ⟨_, _, e⟩ := map_some hk; cases e; done))
    | value x =>
      simp only [hb] at hk
      split at hk <;> try contradiction
      · obtain ⟨_, _, e⟩ := map_some hk; cases e; simp [evD] at hv
      · split at hk
        · cases hk; simp [evD] at hv
        · cases hk
    | _ => simp only [hb] at hk; ((repeat' split at hk) <;> first | contradiction | (cases hk; done) | (obtain ⟨_, _, e⟩ := map_some hk; cases e; done))
  | _ => simp only [hop] at hk; ((repeat' split at hk) <;> first | contradiction | (cases hk; done) | (obtain ⟨_, _, e⟩ := map_some hk; cases e; done))
end Go.Proofs.YtjfnhdiimibmiaaDoor.Sx

/- The second reading's run of a piece of code, and of a call. -/
namespace Go.Proofs.YtjfnhdiimibmiaaDoor.Sx

mutual
/-- The same value, by its shape. -/
def AV.same : AV → AV → Bool
  | .unk, .unk => true
  | .bool a, .bool b => a == b
  | .int k a, .int j b => k == j && a == b
  | .str a, .str b => a == b
  | .ptr a, .ptr b => a == b
  | .sl a l c, .sl b m d => a == b && l == m && c == d
  | .emp, .emp => true
  | .fin a e, .fin b f => a == b && e == f
  | .map a, .map b => a == b
  | .fn f a b, .fn g c d => f == g && AV.sames a c && AV.sames b d
  | .yld a, .yld b => a == b
  | .nfn, .nfn => true
  | .ifc t v, .ifc u w => t == u && AV.same v w
  | .nif, .nif => true
  | .agg a, .agg b => AV.sames a b
  | .tup a, .tup b => AV.sames a b
  | _, _ => false
def AV.sames : List AV → List AV → Bool
  | [], [] => true
  | a :: l, b :: m => AV.same a b && AV.sames l m
  | _, _ => false
end
mutual
theorem AV.same_eq : ∀ {a b : AV}, AV.same a b = true → a = b
  | .unk, b, h => by cases b <;> simp [AV.same] at h; rfl
  | .bool a, b, h => by cases b <;> simp [AV.same] at h; rw [h]
  | .int k a, b, h => by cases b <;> simp [AV.same] at h; rw [h.1, h.2]
  | .str a, b, h => by cases b <;> simp [AV.same] at h; rw [h]
  | .ptr a, b, h => by cases b <;> simp [AV.same] at h; rw [h]
  | .sl a l c, b, h => by cases b <;> simp [AV.same] at h; rw [h.1.1, h.1.2, h.2]
  | .emp, b, h => by cases b <;> simp [AV.same] at h; rfl
  | .fin a e, b, h => by cases b <;> simp [AV.same] at h; rw [h.1, h.2]
  | .map a, b, h => by cases b <;> simp [AV.same] at h; rw [h]
  | .fn f x y, b, h => by
    cases b <;> simp [AV.same] at h
    rw [h.1.1, AV.sames_eq h.1.2, AV.sames_eq h.2]
  | .yld a, b, h => by cases b <;> simp [AV.same] at h; rw [h]
  | .nfn, b, h => by cases b <;> simp [AV.same] at h; rfl
  | .ifc t v, b, h => by cases b <;> simp [AV.same] at h; rw [h.1, AV.same_eq h.2]
  | .nif, b, h => by cases b <;> simp [AV.same] at h; rfl
  | .agg a, b, h => by cases b <;> simp [AV.same] at h; rw [AV.sames_eq h]
  | .tup a, b, h => by cases b <;> simp [AV.same] at h; rw [AV.sames_eq h]
theorem AV.sames_eq : ∀ {a b : List AV}, AV.sames a b = true → a = b
  | [], b, h => by cases b <;> simp [AV.sames] at h; rfl
  | x :: l, b, h => by
    cases b <;> simp [AV.sames] at h
    rw [AV.same_eq h.1, AV.sames_eq h.2]
end

/-- An activation: its slots, the marks among its deferred calls, the loop whose round it is. -/
structure Fr where
  tm : Tm
  df : List Nat
  ro : Option Nat
/-- A result: a slot, or what lies in memory. -/
inductive SRes where
  | tmp (t : Nat)
  | cell (t : Nat) (n : Option Nat)
  deriving Inhabited
structure SFn where
  nt : Nat
  body : SC
  res : List SRes
  deriving Inhabited
inductive SEnt where
  | code (f : SFn)
  | prim (F : List AV → Heap → Option (AV × Heap))
abbrev Env := Nat → Option SEnt
abbrev Out := Option (Lv × Fr × Heap)
abbrev Ex := SC → Fr → Heap → Out

def wantedS (A : Tm) : Option (Nat × Bool) → Option Bool
  | none => some true
  | some (g, want) => match getX A g with
    | .bool b => some (b == want)
    | .tup [] => some false
    | _ => none

def putL : Tm → Nat → List AV → Tm
  | A, _, [] => A
  | A, i, v :: l => putL (A.set i v) (i + 1) l
def putsT : Tm → List Nat → List AV → Tm
  | A, t :: ts, v :: vs => putsT (A.set t v) ts vs
  | A, _, _ => A

section
variable (W : World) (E : Env) (ex : Ex)

/-- The marks are taken: the blocks are shut. -/
def shutMarks : List Nat → Heap → Option Heap
  | [], H => some H
  | d :: ds, H => match H.get d with
    | some (.deferred true) => shutMarks ds (H.setAt d (.deferred false))
    | _ => none
def resV (H : Heap) (A : Tm) : SRes → Option AV
  | .tmp t => some (getX A t)
  | .cell t n => evR W H A (.load n (.tmp t))
def resL (H : Heap) (A : Tm) : List SRes → Option (List AV)
  | [] => some []
  | r :: rs => match resV W H A r with
    | some v => match resL H A rs with
      | some l => some (v :: l)
      | none => none
    | none => none
def oneOrTup : List AV → AV
  | [v] => v
  | l => .tup l
def finish (rs : List SRes) (f : Fr) (H : Heap) : Option (AV × Heap) :=
  match shutMarks f.df H with
  | some H' => match resL W H' f.tm rs with
    | some l => some (oneOrTup l, H')
    | none => none
  | none => none
def callS (f : FuncId) (args : List AV) (H : Heap) : Option (AV × Heap) :=
  match E f with
  | some (.prim F) => F args H
  | some (.code sf) => if args.length ≤ sf.nt then match ex sf.body ⟨putL .e 0 args, [], none⟩ H with
    | some (.normal, fr, H') => finish W sf.res fr H'
    | some (.ret, fr, H') => finish W sf.res fr H'
    | _ => none
    else none
  | none => none
/-- A round. -/
def yldS (l : Nat) (args : List AV) (H : Heap) : Option (Bool × Heap) :=
  match H.get l with
  | some (.loop _ _ tm ps asg body _) =>
    if args.length = ps.length then
      match ex asg ⟨putsT tm ps args, [], some l⟩ H with
      | some (.normal, f1, H1) => match H1.get l with
        | some (.loop .ready pend1 tm1 ps1 asg1 body1 df1) =>
          match ex body f1 (H1.setAt l (.loop .busy pend1 tm1 ps1 asg1 body1 df1)) with
          | some (x, _, H3) => match H3.get l with
            | some (.loop _ _ tm3 ps3 asg3 body3 df3) =>
              match x with
              | .normal => some (true, H3.setAt l (.loop .ready none tm3 ps3 asg3 body3 df3))
              | x => some (false, H3.setAt l (.loop .done (some x) tm3 ps3 asg3 body3 df3))
            | _ => none
          | none => none
        | _ => none
      | _ => none
    else none
  | _ => none
def evE (A : Tm) (H : Heap) : EK → Option (AV × Heap)
  | .callf f args => callS W E ex f (args.map (evX A)) H
  | .callv x args => match evX A x with
    | .fn f first cap => callS W E ex f (first ++ args.map (evX A) ++ cap) H
    | .yld l => match yldS ex l (args.map (evX A)) H with
      | some (b, H') => some (.bool b, H')
      | none => none
    | _ => none
  | o => evD W H A o
def stepK (A : Tm) (H : Heap) : SK → Option (AV × Heap)
  | .p o => match evP A o with
    | some v => some (v, H)
    | none => none
  | .r o => match evR W H A o with
    | some v => some (v, H)
    | none => none
  | .a o => match evA A H.next o with
    | some (ob, v) => some (v, H.push ob)
    | none => none
  | .e o => evE W E ex A H o
def runOps : List SOp → Tm → Heap → Option (Tm × Heap)
  | [], A, H => some (A, H)
  | o :: r, A, H => match wantedS A o.guard with
    | some true => match stepK W E ex A H o.k with
      | some (v, H') => runOps r (putT A o.dst v) H'
      | none => none
    | some false => runOps r (putT A o.dst (.tup [])) H
    | none => none

def hide (A : Tm) : List Nat → Tm
  | [] => A
  | t :: ts => hide (A.put t none) ts
def isDeed : SK → Bool
  | .e _ => true
  | _ => false
/-- An operation of a region that draws its order, at place p of our own order. What stands in memory behind each deed, with the place behind the deed, the last first. -/
def stD (base p : Nat) (d : DOp) (s : List (Nat × Heap) × Tm × Heap) : Option (List (Nat × Heap) × Tm × Heap) :=
  let A' := hide s.2.1 d.mask
  match wantedS A' d.op.guard with
  | none => none
  | some false => some (if isDeed d.op.k then (p + 1, s.2.2) :: s.1 else s.1, putT s.2.1 d.op.dst (.tup []), s.2.2)
  | some true => match d.op.k with
    | .p o => match evP A' o with
      | some v => some (s.1, putT s.2.1 d.op.dst v, s.2.2)
      | none => none
    | .r o => match s.1 with
      | h :: _ => match evR W h.2 A' o with
        | some v => if s.1.all (fun h => decide (h.1 < d.lo) || (match evR W h.2 A' o with | some u => AV.same u v | none => false)) then some (s.1, putT s.2.1 d.op.dst v, s.2.2) else none
        | none => none
      | [] => none
    | .a o => match evA A' (base + d.num) o with
      | some (ob, v) => some (s.1, putT s.2.1 d.op.dst v, s.2.2.lay (base + d.num) ob)
      | none => none
    | .e o => match evE W E ex A' s.2.2 o with
      | some (v, H') => some ((p + 1, H') :: s.1, putT s.2.1 d.op.dst v, H')
      | none => none
/-- A region that draws its order: the operations, in an order of our own. -/
def runD (base : Nat) : Nat → List DOp → List (Nat × Heap) × Tm × Heap → Option (List (Nat × Heap) × Tm × Heap)
  | _, [], s => some s
  | p, d :: r, s => match stD W E ex base p d s with
    | some s' => runD base (p + 1) r s'
    | none => none

/-- One level. -/
def stepS : Ex
  | .skip, f, H => some (.normal, f, H)
  | .ops l, f, H => match runOps W E ex l f.tm H with
    | some (A, H') => some (.normal, { f with tm := A }, H')
    | none => none
  | .draw n l, f, H => match runD W E ex H.next 0 l ([(0, { H with next := H.next + n })], f.tm, { H with next := H.next + n }) with
    | some (_, A, H') => some (.normal, { f with tm := A }, H')
    | none => none
  | .seq a b, f, H => match ex a f H with
    | some (.normal, f', H') => ex b f' H'
    | r => r
  | .cond c a b, f, H => match evX f.tm c with
    | .bool true => ex a f H
    | .bool false => ex b f H
    | _ => none
  | .block id b, f, H => match ex b f H with
    | some (.exit i, f', H') => if i = id then some (.normal, f', H') else some (.exit i, f', H')
    | r => r
  | .loop b, f, H => match ex b f H with
    | some (.normal, f', H') => ex (.loop b) f' H'
    | r => r
  | .scope b, f, H => ex b f H
  | .exit id, f, H => some (.exit id, f, H)
  | .ret, f, H => some (.ret, f, H)
  | .rangeFunc g ps asg body, f, H =>
    match evX f.tm g with
    | .fn h first cap =>
      match (match f.ro with
        | none => some (H.next, H.push (.deferred true), H.next :: f.df)
        | some l0 => match H.get l0 with
          | some (.loop _ _ _ _ _ _ df0) => some (df0, H, f.df)
          | _ => none) with
      | some (d, H1, df) =>
        match callS W E ex h (first ++ [.yld H1.next] ++ cap) (H1.push (.loop .ready none f.tm ps asg body d)) with
        | some (_, H3) => match H3.get H1.next with
          | some (.loop st pend tm3 ps3 asg3 body3 df3) =>
            if st = .busy then none else
            match pend with
            | none => some (.normal, { f with df := df }, H3.setAt H1.next (.loop .exhausted none tm3 ps3 asg3 body3 df3))
            | some x => some (x, { f with df := df }, H3.setAt H1.next (.loop .exhausted (some x) tm3 ps3 asg3 body3 df3))
          | _ => none
        | none => none
      | none => none
    | _ => none
end

/-- So many levels deep. -/
def exec (W : World) (E : Env) : Nat → Ex
  | 0 => fun _ _ _ => none
  | n + 1 => stepS W E (exec W E n)
def call (W : World) (E : Env) (n : Nat) (f : FuncId) (args : List AV) (H : Heap) : Option (AV × Heap) := callS W E (exec W E n) f args H

/-! ### Code, compiled -/
/-- A region that draws its order: which of its operations stand ahead of which. -/
def sops (P : Program) (nt : Nat) (ops : Array Oper) : Option (List SOp) := ops.toList.mapM (compOp P nt ops)
def hasBit (b : Array Nat) (j i : Nat) : Bool := (b.getD j 0).testBit i
/-- Our own order: deeds as early as they can, all else as late as it may. -/
def orderD (n : Nat) (b : Array Nat) (deed : Nat → Bool) : List Nat → List Nat → List Nat
  | [], done => done.reverse ++ (List.range n).filter fun i => !done.contains i
  | e :: es, done => orderD n b deed es (e :: (((List.range n).filter fun i => !done.contains i && !deed i && hasBit b e i).reverse ++ done))
def dopOf (ops : List SOp) (b : Array Nat) (l : List Nat) (i : Nat) : DOp :=
  { num := i, lo := (List.range ops.length).foldl (fun m j => if isDeed (ops.getD j default).k && hasBit b i j then Nat.max m (l.idxOf j + 1) else m) 0, op := ops.getD i default,
    mask := (List.range ops.length).flatMap fun j => if j != i && !hasBit b i j && !hasBit b j i then (ops.getD j default).dst.toList else [] }
/-- What must hold of our order l. -/
def okD (ops : Array Oper) (so : List SOp) (b : Array Nat) (l : List Nat) : Bool :=
  let n := ops.size
  let deed := fun i => isDeed (so.getD i default).k
  let pos := fun i => l.idxOf i
  let g := Region.linearise .gc ops 0
  so.length == n && l.length == n &&
  (List.range n).all (fun p => decide (l.getD p n < n) && pos (l.getD p n) == p) &&
  (List.range n).all (fun i => decide (pos i < n) && l.getD (pos i) n == i &&
    (match ops[i]? with
     | some o => o.after.toList.all (fun e => (!Region.binds .text e || decide (e.on < i)) && (!Region.binds .gc e || (decide (e.on < n) && decide (g.idxOf e.on < g.idxOf i)))) &&
       (List.range n).all (fun j =>
        -- who is said to stand ahead does, and does in our order
        (!hasBit b i j || (decide (pos j < pos i) && o.after.toList.any (fun e => Region.binds .any e && (e.on == j || hasBit b e.on j)))) &&
        -- deeds are in a chain
        (i == j || !deed i || !deed j || hasBit b i j || hasBit b j i) &&
        -- what is no deed stands as late as it may
        (!deed i || deed j || decide (pos i ≤ pos j) || hasBit b i j) &&
        -- each slot is written once
        (i == j || (match (so.getD i default).dst, (so.getD j default).dst with | some s, some t => s != t | _, _ => true)))
     | none => false))
def compDraw (P : Program) (nt : Nat) (ops : Array Oper) : Option SC :=
  match sops P nt ops with
  | none => none
  | some so =>
    let b := Region.before ops
    let l := orderD ops.size b (fun i => isDeed (so.getD i default).k) ((List.range ops.size).filter fun i => isDeed (so.getD i default).k) []
    if okD ops so b l then some (.draw ops.size (l.map (dopOf so b l))) else none
def compC (P : Program) (nt : Nat) : Code → Option SC
  | .skip => some .skip
  | .label _ => some .skip
  | .region _ ops draw => if draw then compDraw P nt ops else (sops P nt ops).map .ops
  | .seq a b => match compC P nt a, compC P nt b with
    | some a, some b => some (.seq a b)
    | _, _ => none
  | .cond c a b => match compX c, compC P nt a, compC P nt b with
    | some c, some a, some b => some (.cond c a b)
    | _, _, _ => none
  | .block id b => (compC P nt b).map (.block id)
  | .loop b => (compC P nt b).map .loop
  | .scope b => (compC P nt b).map .scope
  | .exit id => some (.exit id)
  | .ret => some .ret
  | .rangeFunc f ps a b => match compX f, compC P nt a, compC P nt b with
    | some f, some a, some b => if ps.toList.all (fun t => decide (t < nt)) then some (.rangeFunc f ps.toList a b) else none
    | _, _, _ => none
  | .goto _ => none
  | .refuse _ => none
def compRes (P : Program) (nt : Nat) : ResultVar → Option SRes
  | .tmp t => if t < nt then some (.tmp t) else none
  | .cell t ty => if t < nt then (aggN P ty).map (.cell t) else none
/-- A function, compiled. -/
def compFn (P : Program) (f : FuncId) : Option SFn :=
  match P.funcs[f]? with
  | some fn => match fn.body with
    | some c => match compC P fn.ntmps c, fn.results.toList.mapM (compRes P fn.ntmps) with
      | some b, some r => if fn.name == "runtime.NumGoroutine" then none else some ⟨fn.ntmps, b, r⟩
      | _, _ => none
    | none => none
  | none => none
end Go.Proofs.YtjfnhdiimibmiaaDoor.Sx

/- The machine's steps. -/
namespace Go.Proofs.YtjfnhdiimibmiaaDoor.Sx
variable {P : Program} {b : Frame} {a : Act} {k : List Item} {cs : List Frame} {w w' : World} {ops : Array Oper} {i : Nat} {rest : List Nat} {o : Oper}

theorem step_val {v : Value} (ho : ops[i]? = some o) (hw : Region.wanted o (yielded ops a.tmps) = true) (hd : ∀ c, o.op ≠ .defer c) (hr : (execOp a.eval o).run P w = .ok (.value v) w') :
    step P (lone (b.atR a (.inRegion ops (i :: rest) :: k)) cs w) = .next (lone (b.atR (a.put o.dst v) (.inRegion ops rest :: k)) cs w') := by
  have hg := stepGR_op (P := P) (b := b) (k := k) (cs := cs) (w := w) (rest := rest) ho hw
  rw [Oper.semAt_eq _ _ _ hd] at hg
  have hfin : (b.atR a (.inRegion ops (i :: rest) :: k)).finish v = b.atR (a.put o.dst v) (.inRegion ops rest :: k) := by rw [Frame.finish_atR, ho]; rfl
  refine step_lone_go ?_
  rw [hg, ← hfin]; simp [stepG.apply, hr]
theorem step_skip' (ho : ops[i]? = some o) (hw : Region.wanted o (yielded ops a.tmps) = true) (hd : ∀ c, o.op ≠ .defer c) (hr : (execOp a.eval o).run P w = .ok .skip w') :
    step P (lone (b.atR a (.inRegion ops (i :: rest) :: k)) cs w) = .next (lone (b.atR (a.put o.dst undef) (.inRegion ops rest :: k)) cs w') := by
  have hg := stepGR_op (P := P) (b := b) (k := k) (cs := cs) (w := w) (rest := rest) ho hw
  rw [Oper.semAt_eq _ _ _ hd] at hg
  have hfin : (b.atR a (.inRegion ops (i :: rest) :: k)).finish undef = b.atR (a.put o.dst undef) (.inRegion ops rest :: k) := by rw [Frame.finish_atR, ho]; rfl
  refine step_lone_go ?_
  rw [hg, ← hfin]; simp [stepG.apply, hr]
theorem step_enter {f : FuncId} {args : Array Value} (ho : ops[i]? = some o) (hw : Region.wanted o (yielded ops a.tmps) = true) (hd : ∀ c, o.op ≠ .defer c) (hr : (execOp a.eval o).run P w = .ok (.enter f args) w') :
    step P (lone (b.atR a (.inRegion ops (i :: rest) :: k)) cs w) = .next (lone (Frame.enter P f args .normal) (b.atR a (.inRegion ops (i :: rest) :: k) :: cs) w') := by
  have hg := stepGR_op (P := P) (b := b) (k := k) (cs := cs) (w := w) (rest := rest) ho hw
  rw [Oper.semAt_eq _ _ _ hd] at hg
  refine step_lone_go ?_
  rw [hg]; simp [stepG.apply, hr, Frame.atR]
theorem step_round {l : Nat} {f : FuncId} {tmps : Array Value} {asg body : Code} (ho : ops[i]? = some o) (hw : Region.wanted o (yielded ops a.tmps) = true) (hd : ∀ c, o.op ≠ .defer c) (hr : (execOp a.eval o).run P w = .ok (.round l f tmps asg body) w') :
    step P (lone (b.atR a (.inRegion ops (i :: rest) :: k)) cs w) = .next (lone (Frame.round l f tmps asg body .normal) (b.atR a (.inRegion ops (i :: rest) :: k) :: cs) w') := by
  have hg := stepGR_op (P := P) (b := b) (k := k) (cs := cs) (w := w) (rest := rest) ho hw
  rw [Oper.semAt_eq _ _ _ hd] at hg
  refine step_lone_go ?_
  rw [hg]; simp [stepG.apply, hr, Frame.atR]
/-- A callee leaves, its caller goes on. -/
theorem step_back {fr : Frame} {v : Value} (ho : ops[i]? = some o) (h : fr.leaving P w (.returned v)) :
    step P (lone fr (b.atR a (.inRegion ops (i :: rest) :: k) :: cs) w) = .next (lone (b.atR (a.put o.dst v) (.inRegion ops rest :: k)) cs w) := by
  rw [step_leave_returned h, Frame.finish_atR, ho]; rfl
theorem stepR_scope {c : Code} : step P (lone (b.atR a (.code (.scope c) :: k)) cs w) = .next (lone (b.atR a (.code c :: .inScope c :: k)) cs w) :=
  step_lone_go (by simp [stepG, stepG.exec, Frame.atR])
theorem stepR_inScope {c : Code} : step P (lone (b.atR a (.inScope c :: k)) cs w) = .next (lone (b.atR a k) cs w) :=
  step_lone_go (by simp [stepG, stepG.exec, Frame.atR])
theorem no_defer {k : SK} {o : Oper} (h : compK P o = some k) : ∀ c, o.op ≠ .defer c := by
  intro c e
  simp [compK, e] at h

/-! ### Guards -/
theorem wanted_of {A : Tm} {μ : Emb} {nt : Nat} {so : SOp} (hc : compOp P nt ops o = some so) (hA : TmR μ A a.tmps) {bl : Bool} (h : wantedS A so.guard = some bl) : Region.wanted o (yielded ops a.tmps) = bl := by
  unfold compOp at hc
  split at hc
  · cases hc
  · rename_i k hk
    split at hc
    · rename_i d hd hgd
      split at hc
      · cases hc; cases h; simp [Region.wanted, hgd]
      · cases hc
    · rename_i hd hgd
      cases hc; cases h; simp [Region.wanted, hgd]
    · rename_i d j want hgd
      split at hc
      · rename_i g hg
        split at hc
        · have hgu : so.guard = some (g, want) := by
            split at hc
            · split at hc <;> cases hc; rfl
            · cases hc; rfl
          rw [hgu] at h
          simp only [wantedS, getX] at h
          have hy : yielded ops a.tmps j = match a.tmps[g]? with | some (.bool b) => some b | _ => none := by
            unfold yielded
            rw [hg]; rfl
          simp only [Region.wanted, hgd, hy]
          cases hag : A.get g with
          | none => simp [hag] at h
          | some v =>
            obtain ⟨v', h1, h2⟩ := hA g v hag
            rw [h1]
            simp only [hag] at h
            split at h
            · cases h; cases h2; simp
            · cases h
              cases h2
              simp
            · cases h
        · cases hc
      · cases hc
theorem compOp_k {nt : Nat} {so : SOp} (hc : compOp P nt ops o = some so) : compK P o = some so.k ∧ so.dst = o.dst ∧ ∀ x, o.dst = some x → x < nt := by
  unfold compOp at hc
  split at hc
  · cases hc
  · rename_i k hk
    rw [hk]
    split at hc
    · rename_i d hd hgd
      split at hc
      · rename_i hlt
        cases hc; exact ⟨rfl, hd.symm, fun x hx => by rw [hd] at hx; cases hx; exact hlt⟩
      · cases hc
    · rename_i hd hgd
      cases hc; exact ⟨rfl, hd.symm, fun x hx => by rw [hd] at hx; cases hx⟩
    · rename_i d j want hgd
      split at hc
      · split at hc
        · split at hc
          · rename_i d' hd'
            split at hc
            · rename_i hlt
              cases hc; exact ⟨rfl, hd'.symm, fun x hx => by rw [hd'] at hx; cases hx; exact hlt⟩
            · cases hc
          · rename_i hd'
            cases hc; exact ⟨rfl, hd'.symm, fun x hx => by rw [hd'] at hx; cases hx⟩
        · cases hc
      · cases hc

/-! ### Values that are handed over -/
theorem putL_VR {μ : Emb} : ∀ {l : List AV} {l' : List Value} {A : Tm} {i : Nat} {tm : Array Value}, VRL μ l l' → TmR μ A tm → (∀ j v', l'[j]? = some v' → tm[i + j]? = some v') → TmR μ (putL A i l) tm := by
  intro l
  induction l with
  | nil => intro l' A i tm _ hA _; exact hA
  | cons v l ih =>
    intro l' A i tm hl hA h
    cases hl with
    | cons hv hl =>
      rename_i v' l''
      refine ih hl ?_ (fun j u hj => by have := h (j + 1) u (by simpa using hj); rw [show i + 1 + j = i + (j + 1) from by omega]; exact this)
      intro t u ht
      rw [Tr.get_set] at ht
      split at ht
      · rename_i e; subst e; cases ht
        exact ⟨v', by simpa using h 0 v' rfl, hv⟩
      · exact hA t u ht
theorem putsT_VR {μ : Emb} : ∀ {ts : List Nat} {l : List AV} {l' : List Value} {A : Tm} {tm : Array Value}, VRL μ l l' → ts.length = l.length → (∀ t ∈ ts, t < tm.size) → TmR μ A tm → TmR μ (putsT A ts l) ((ts.zip l').foldl (fun tmps (t, a) => tmps.setIfInBounds t a) tm) := by
  intro ts
  induction ts with
  | nil => intro l l' A tm hl hlen _ hA; cases l with | nil => cases hl; exact hA | cons => simp at hlen
  | cons t ts ih =>
    intro l l' A tm hl hlen hlt hA
    cases hl with
    | nil => simp at hlen
    | cons hv hl =>
      rename_i v v' l l'
      simp only [putsT, List.zip_cons_cons, List.foldl_cons]
      refine ih hl (by simpa using hlen) (fun u hu => by simp; exact hlt u (by simp [hu])) ?_
      have := TmR.put (μ := μ) (A := A) (a := ⟨tm, []⟩) hA (d := some t) (fun x hx => by cases hx; exact hlt t (by simp)) hv
      exact this
theorem puts_size : ∀ (l : List (Nat × Value)) (tm : Array Value), (l.foldl (fun tmps (t, a) => tmps.setIfInBounds t a) tm).size = tm.size := by
  intro l
  induction l with
  | nil => intro tm; rfl
  | cons p l ih => intro tm; rw [List.foldl_cons, ih]; simp
end Go.Proofs.YtjfnhdiimibmiaaDoor.Sx

/- A call, a round, an operation: what the second reading answers the machine comes to. -/
namespace Go.Proofs.YtjfnhdiimibmiaaDoor.Sx

/-- The marks among the deferred calls. -/
inductive DfR (μ : Emb) : List Nat → List Deferred → Prop
  | nil : DfR μ [] []
  | cons {d r : Nat} {ds : List Nat} {l : List Deferred} (h : μ.blk d = some r) (hl : DfR μ ds l) : DfR μ (d :: ds) ({ target := .collected r, args := #[] } :: l)
theorem DfR.le {μ μ' : Emb} (h : μ.le μ') {ds : List Nat} {l : List Deferred} (hd : DfR μ ds l) : DfR μ' ds l := by
  induction hd with
  | nil => exact .nil
  | cons hb _ ih => exact .cons (h _ _ hb).1 ih
def RoR (μ : Emb) : Option Nat → Option Nat → Prop
  | none, none => True
  | some l, some r => μ.blk l = some r
  | _, _ => False
theorem RoR.le {μ μ' : Emb} (h : μ.le μ') {x y : Option Nat} (hr : RoR μ x y) : RoR μ' x y := by
  cases x <;> cases y <;> first | exact hr | exact (h _ _ hr).1
structure FrR (μ : Emb) (f : Fr) (b : Frame) (a : Act) (nt : Nat) : Prop where
  tm : TmR μ f.tm a.tmps
  size : a.tmps.size = nt
  df : DfR μ f.df a.defers
  ro : RoR μ f.ro b.roundOf
theorem FrR.le {μ μ' : Emb} (h : μ.le μ') {f : Fr} {b : Frame} {a : Act} {nt : Nat} (hf : FrR μ f b a nt) : FrR μ' f b a nt := ⟨hf.tm.le h, hf.size, hf.df.le h, hf.ro.le h⟩

/-- Where the machine arrives. -/
def Arr (P : Program) (m : Machine) (b : Frame) (a : Act) (k : List Item) (cs : List Frame) (w : World) : Lv → Prop
  | .normal => Steps P m (lone (b.atR a k) cs w)
  | .exit id => ∃ todo, Steps P m (lone (b.atR a (.code (.exit id) :: todo)) cs w) ∧ exitTo id todo = exitTo id k
  | .ret => ∃ todo, Steps P m (lone (b.atR a (.code .ret :: todo)) cs w)
theorem Arr.of_steps {P : Program} {m m' : Machine} {b : Frame} {a : Act} {k : List Item} {cs : List Frame} {w : World} {x : Lv} (h : Steps P m m') (h' : Arr P m' b a k cs w x) : Arr P m b a k cs w x := by
  cases x with
  | normal => exact h.trans h'
  | exit id => obtain ⟨todo, h1, h2⟩ := h'; exact ⟨todo, h.trans h1, h2⟩
  | ret => obtain ⟨todo, h1⟩ := h'; exact ⟨todo, h.trans h1⟩

abbrev HRP (P : Program) := HR (fun nt c => compC P nt c)

/-- A call of the function f comes to what is answered. -/
def SimC (P : Program) (W : World) (f : FuncId) (F : List AV → Heap → Option (AV × Heap)) : Prop :=
  ∀ args H v H', F args H = some (v, H') → ∀ μ w args', HRP P W μ H w → VRL μ args args'.toList → (callFunc f args').run P w = .ok (.enter f args') w ∧
    ∀ cs, ∃ μ' w' fr v', Steps P (lone (Frame.enter P f args' .normal) cs w) (lone fr cs w') ∧ fr.leaving P w' (.returned v') ∧ fr.fn = f ∧ HRP P W μ' H' w' ∧ Step μ H w μ' H' w' ∧ VR μ' v v'
/-- The functions that the second reading knows. -/
def EnvOk (P : Program) (W : World) (E : Env) : Prop := ∀ f e, E f = some e → match e with
  | .code sf => compFn P f = some sf
  | .prim F => SimC P W f F
/-- What code comes to. -/
def Sound (P : Program) (W : World) (ex : Ex) : Prop :=
  ∀ (nt : Nat) (c : Code) (sc : SC) (f : Fr) (H : Heap) (x : Lv) (f' : Fr) (H' : Heap), compC P nt c = some sc → ex sc f H = some (x, f', H') →
    ∀ (μ : Emb) (w : World) (b : Frame) (a : Act) (k : List Item) (cs : List Frame), HRP P W μ H w → FrR μ f b a nt →
      ∃ μ' w' a', HRP P W μ' H' w' ∧ Step μ H w μ' H' w' ∧ FrR μ' f' b a' nt ∧ Arr P (lone (b.atR a (.code c :: k)) cs w) b a' k cs w' x

section
variable {P : Program} {W : World} {E : Env} {ex : Ex} {μ : Emb} {H : Heap} {w : World}

/-! ### A call -/
theorem step_mark {fr : Frame} {cs : List Frame} {r : Nat} {ds : List Deferred} (hm : fr.mode = .returning) (hd : fr.defers = { target := .collected r, args := #[] } :: ds) (hb : w.heap[r]? = some (.deferred (some []))) :
    step P (lone fr cs w) = .next (lone { fr with defers := ds } cs (setB w r (.deferred none))) := by
  have ht : (Instr.takeDeferred r).run P w = .ok [] (setB w r (.deferred none)) := by
    simp [Instr.takeDeferred, getObj, Go.setObj, Sem.run, hb, setB]
  refine step_lone_go ?_
  simp [stepG, unwind, hm, hd, Sem.runT_eq, ht]

theorem shut_run : ∀ {ds : List Nat} {H H' : Heap} {μ : Emb} {w : World} {l : List Deferred}, shutMarks ds H = some H' → HRP P W μ H w → DfR μ ds l → ∀ (fr : Frame) (cs : List Frame), fr.mode = .returning → fr.defers = l →
    ∃ w', Steps P (lone fr cs w) (lone { fr with defers := [] } cs w') ∧ HRP P W μ H' w' ∧ Step μ H w μ H' w' := by
  intro ds
  induction ds with
  | nil =>
    intro H H' μ w l h hr hd fr cs hm hl
    cases hd
    cases h
    refine ⟨w, ?_, hr, Step.refl _ _ _⟩
    have : ({ fr with defers := [] } : Frame) = fr := by cases fr; simp at hl ⊢; exact hl
    rw [this]; exact Steps.refl _ _
  | cons d ds ih =>
    intro H H' μ w l h hr hd fr cs hm hl
    cases hd with
    | cons hb hl2 =>
      rename_i r l2
      simp only [shutMarks] at h
      split at h
      · rename_i hg
        obtain ⟨r2, O, h1, h2, h3⟩ := hr.obj d _ hg
        rw [hb] at h1; cases h1
        cases O <;> simp only [OR] at h3
        subst h3
        obtain ⟨g1, g2⟩ := hr.setObj hg (o' := .deferred false) rfl rfl hb (O := .deferred none) rfl
        obtain ⟨w', q1, q2, q3⟩ := ih h g1 hl2 { fr with defers := l2 } cs hm rfl
        exact ⟨w', .head (step_mark hm hl h2) q1, q2, g2.trans q3⟩
      · cases h

def resOf (tm : Array Value) : ResultVar → Sem Value
  | .tmp t => pure (tm.getD t undef)
  | .cell a t => do loadVar t (← asAddr (tm.getD a undef))
theorem results_eq (fn : Func) (tm : Array Value) : results fn tm = (fn.results.mapM (resOf tm) >>= fun vs => pure (if h : vs.size = 1 then vs[0] else .tuple vs)) := by
  unfold results
  congr 1
theorem compRes_run {nt : Nat} {H : Heap} {A : Tm} {tm : Array Value} (h : HRP P W μ H w) (hA : TmR μ A tm) : ∀ {rs : List ResultVar} {srs : List SRes} {l : List AV}, rs.mapM (compRes P nt) = some srs → resL W H A srs = some l →
    ∃ l' : List Value, (rs.mapM (resOf tm)).run P w = .ok l' w ∧ VRL μ l l' := by
  intro rs
  induction rs with
  | nil => intro srs l h1 h2; simp at h1; subst h1; simp [resL] at h2; subst h2; exact ⟨[], by simp, .nil⟩
  | cons r rs ih =>
    intro srs l h1 h2
    rw [List.mapM_cons] at h1
    cases hr : compRes P nt r with
    | none => simp [hr] at h1
    | some sr =>
      cases hrs : rs.mapM (compRes P nt) with
      | none => simp [hr, hrs] at h1
      | some srs' =>
        simp [hr, hrs] at h1
        subst h1
        simp only [resL] at h2
        split at h2
        · rename_i v hv
          split at h2
          · rename_i l2 hl2
            cases h2
            obtain ⟨l', q1, q2⟩ := ih hrs hl2
            have hone : ∃ v', (resOf tm r).run P w = .ok v' w ∧ VR μ v v' := by
              cases r with
              | tmp t =>
                simp only [compRes] at hr
                split at hr
                · cases hr
                  simp only [resV, Option.some.injEq] at hv
                  subst hv
                  have := evX_VR (μ := μ) (A := A) (a := ⟨tm, []⟩) hA (x := .tmp t) (sx := .tmp t) rfl
                  exact ⟨_, rfl, this⟩
                · cases hr
              | cell t ty =>
                simp only [compRes] at hr
                split at hr
                · obtain ⟨n, hn, e⟩ := map_some hr
                  subst e
                  simp only [resV] at hv
                  obtain ⟨v', y1, y2⟩ := r_load (P := P) (a := ⟨tm, []⟩) (o := ⟨none, .load ty (.tmp t), 0, "", #[], none⟩) h rfl hn hA (x := .tmp t) rfl hv
                  refine ⟨v', ?_, y2⟩
                  have hx : Act.eval ⟨tm, []⟩ (.tmp t) = tm.getD t undef := rfl
                  simp only [execOp, hx, Instr.loadAt, Sem.run_bind] at y1
                  simp only [resOf, Sem.run_bind]
                  generalize tm.getD t undef = u at y1 ⊢
                  cases u <;> simp only [Instr.sureAddr, run_stuck, Result.andThen_halt] at y1 <;> try (cases y1; done)
                  rename_i ad
                  cases ad with
                  | none => simp only [run_stuck, Result.andThen_halt] at y1; cases y1
                  | some ad =>
                    simp only [Sem.run_pure, Result.andThen_ok, asAddr] at y1 ⊢
                    generalize (loadVar ty ad).run P w = R at y1 ⊢
                    cases R with
                    | ok u w2 => simp only [Result.andThen_ok] at y1; cases y1; rfl
                    | halt x w2 => simp only [Result.andThen_halt] at y1; cases y1
                · cases hr
            obtain ⟨v', z1, z2⟩ := hone
            refine ⟨v' :: l', ?_, .cons z2 q2⟩
            rw [List.mapM_cons]
            simp only [Sem.run_bind]
            rw [z1]
            simp only [Result.andThen_ok, q1, Sem.run_pure]
          · cases h2
        · cases h2

theorem oneOrTup_VR {l : List AV} {l' : List Value} (h : VRL μ l l') : VR μ (oneOrTup l) (if h : l'.toArray.size = 1 then l'.toArray[0] else .tuple l'.toArray) := by
  cases h with
  | nil => exact .tup .nil
  | cons hv hl =>
    cases hl with
    | nil => simpa [oneOrTup] using hv
    | cons hv2 hl2 =>
      rw [dif_neg (by simp)]
      exact .tup (.cons hv (.cons hv2 hl2))

theorem finish_run {nt : Nat} {fn : Func} {rs : List SRes} {f : Fr} {b : Frame} {a : Act} {v : AV} {H' : Heap} (hfn : P.funcs[b.fn]? = some fn) (hrs : fn.results.toList.mapM (compRes P nt) = some rs) (hk : b.kind = .normal) (h : HRP P W μ H w) (hf : FrR μ f b a nt)
    (hv : finish W rs f H = some (v, H')) (todo : List Item) (cs : List Frame) :
    ∃ w' fr v', Steps P (lone { b.atR a todo with mode := .returning } cs w) (lone fr cs w') ∧ fr.leaving P w' (.returned v') ∧ fr.fn = b.fn ∧ HRP P W μ H' w' ∧ Step μ H w μ H' w' ∧ VR μ v v' := by
  unfold finish at hv
  split at hv
  · rename_i H2 hs
    split at hv
    · rename_i l hl
      cases hv
      obtain ⟨w', q1, q2, q3⟩ := shut_run hs h hf.df { b.atR a todo with mode := .returning } cs rfl rfl
      obtain ⟨l', r1, r2⟩ := compRes_run (nt := nt) q2 hf.tm hrs hl
      refine ⟨w', _, _, q1, ⟨rfl, rfl, by simp [Frame.atR, hk], fn, hfn, ?_⟩, rfl, q2, q3, oneOrTup_VR r2⟩
      show (results fn a.tmps).run P w' = _
      rw [results_eq, Sem.run_bind, Array.mapM_eq_mapM_toList, Sem.run_map, r1]
      rfl
    · cases hv
  · cases hv
end
end Go.Proofs.YtjfnhdiimibmiaaDoor.Sx

/- A call, a round, an operation, a region. -/
namespace Go.Proofs.YtjfnhdiimibmiaaDoor.Sx
variable {P : Program} {W : World} {E : Env} {ex : Ex} {μ : Emb} {H : Heap} {w : World}

theorem compFn_spec {f : FuncId} {sf : SFn} (h : compFn P f = some sf) : ∃ fn c, P.funcs[f]? = some fn ∧ fn.body = some c ∧ compC P fn.ntmps c = some sf.body ∧ fn.results.toList.mapM (compRes P fn.ntmps) = some sf.res ∧ (fn.name == "runtime.NumGoroutine") = false ∧ sf.nt = fn.ntmps := by
  unfold compFn at h
  split at h
  · rename_i fn hfn
    split at h
    · rename_i c hc
      split at h
      · rename_i b r hb hr
        split at h
        · cases h
        · rename_i hn
          cases h
          exact ⟨fn, c, hfn, hc, hb, hr, by simpa using hn, rfl⟩
      · cases h
    · cases h
  · cases h

theorem callS_sound (hE : EnvOk P W E) (hex : Sound P W ex) (f : FuncId) : SimC P W f (callS W E ex f) := by
  intro args H v H' hv μ w args' h hargs
  unfold callS at hv
  split at hv
  · rename_i F hF
    have := hE f _ hF
    exact this args H v H' hv μ w args' h hargs
  · rename_i sf hsf
    have hc := hE f _ hsf
    obtain ⟨fn, c, hfn, hbody, hcc, hres, hname, hnt⟩ := compFn_spec hc
    have hname' : ¬ fn.name = "runtime.NumGoroutine" := by simpa using hname
    refine ⟨by simp [callFunc, hfn, hname', hbody], fun cs => ?_⟩
    let b : Frame := { (default : Frame) with fn := f, kind := .normal }
    let a : Act := { tmps := args' ++ Array.replicate (fn.ntmps - args'.size) undef, defers := [] }
    have henter : Frame.enter P f args' .normal = b.atR a [.code c] := by
      simp [Frame.enter, Frame.atR, hfn, hbody, b, a]
      rfl
    rw [henter]
    -- the arguments fit in the slots
    split at hv
    · rename_i hsz0
      have hsz : args'.size ≤ fn.ntmps := by
        have := hargs.length
        simp at this; omega
      have hfr : FrR μ ⟨putL .e 0 args, [], none⟩ b a fn.ntmps := by
        refine ⟨putL_VR hargs (fun t u ht => by simp [Tr.get_e] at ht) (fun j v' hj => ?_), by simp [a]; omega, .nil, trivial⟩
        have hlt : j < args'.size := by have := (List.getElem?_eq_some_iff.1 hj).1; simpa using this
        simp only [a, Nat.zero_add]
        rw [Array.getElem?_append_left hlt, ← Array.getElem?_toList]; exact hj
      split at hv
      · rename_i fr H1 hx
        obtain ⟨μ1, w1, a1, g1, g2, g3, g4⟩ := hex fn.ntmps c sf.body _ H .normal fr H1 hcc hx μ w b a [] cs h hfr
        obtain ⟨w2, fr2, v', q1, q2, q3, q4, q5, q6⟩ := finish_run (b := b) hfn hres rfl g1 g3 hv [] cs
        exact ⟨μ1, w2, fr2, v', Steps.trans (Steps.trans g4 (.one (stepR_end rfl))) q1, q2, q3, q4, g2.trans q5, q6⟩
      · rename_i fr H1 hx
        obtain ⟨μ1, w1, a1, g1, g2, g3, todo, g4⟩ := hex fn.ntmps c sf.body _ H .ret fr H1 hcc hx μ w b a [] cs h hfr
        obtain ⟨w2, fr2, v', q1, q2, q3, q4, q5, q6⟩ := finish_run (b := b) hfn hres rfl g1 g3 hv (.code .ret :: todo) cs
        exact ⟨μ1, w2, fr2, v', Steps.trans (Steps.trans g4 (.one (stepR_ret rfl))) q1, q2, q3, q4, g2.trans q5, q6⟩
      · cases hv
    · cases hv
  · cases hv

theorem run_getLoop {r : Nat} {L : Loop} (h : w.heap[r]? = some (.loop L)) : (Instr.getLoop r).run P w = .ok L w := by
  simp [Instr.getLoop, getObj, Sem.run, h]
theorem run_setObjLoop {r : Nat} {L : Loop} {O : Obj} (h : w.heap[r]? = some (.loop L)) : (setObj r O).run P w = .ok () (setB w r O) := by
  simp [Go.setObj, Sem.run, h, setB]

theorem yldS_sound (hex : Sound P W ex) {l r : Nat} {args : List AV} {bo : Bool} {H' : Heap} (hv : yldS ex l args H = some (bo, H')) {args' : Array Value} (h : HRP P W μ H w) (hargs : VRL μ args args'.toList) (hl : μ.blk l = some r) :
    ∃ fnid tmps asg body, (Instr.yield r args').run P w = .ok (.round r fnid tmps asg body) w ∧ ∀ (c : Frame) (cs : List Frame), ∃ μ' w', Steps P (lone (Frame.round r fnid tmps asg body .normal) (c :: cs) w) (lone (c.finish (.bool bo)) cs w') ∧ HRP P W μ' H' w' ∧ Step μ H w μ' H' w' := by
  unfold yldS at hv
  split at hv
  · rename_i st0 pend0 tm ps asg body df0 hg
    split at hv
    · rename_i hlen
      obtain ⟨r', O, h1, h2, h3⟩ := h.obj l _ hg
      rw [hl] at h1; cases h1
      cases O <;> simp only [OR] at h3
      rename_i L
      obtain ⟨s1, s2, s3, ⟨s4, hpsz⟩, s5, s6, s7⟩ := h3
      have hal := hargs.length
      have hps : L.params.size = args'.size := by
        have : L.params.toList.length = ps.length := by rw [s4]
        simp at this hal; omega
      refine ⟨L.fn, (L.params.zip args').foldl (fun tmps (t, a) => tmps.setIfInBounds t a) L.tmps, L.assign, L.body, ?_, fun c cs => ?_⟩
      · simp only [Instr.yield, Sem.run_bind, run_getLoop h2, Result.andThen_ok]
        rw [if_neg (by omega)]; rfl
      let b : Frame := { (default : Frame) with fn := L.fn, kind := .normal, roundOf := some r }
      let tmps := (L.params.zip args').foldl (fun tmps (t, a) => tmps.setIfInBounds t a) L.tmps
      have hb0 : Frame.round r L.fn tmps L.assign L.body .normal = b.atR { tmps := tmps, defers := [] } [.code L.assign, .beginRound, .code L.body] := by
        simp [Frame.round, Frame.atR, b]
      have htl : tmps = (ps.zip args'.toList).foldl (fun tmps (t, a) => tmps.setIfInBounds t a) L.tmps := by
        simp only [tmps]
        rw [← Array.foldl_toList, Array.toList_zip, s4]
      show ∃ μ' w', Steps P (lone (Frame.round r L.fn tmps L.assign L.body .normal) (c :: cs) w) _ ∧ _
      rw [hb0]
      have hts : tmps.size = L.tmps.size := by rw [htl]; exact puts_size _ _
      have hfr : FrR μ ⟨putsT tm ps args, [], some l⟩ b ⟨tmps, []⟩ L.tmps.size := by
        refine ⟨?_, hts, .nil, hl⟩
        rw [htl]
        exact putsT_VR hargs (by omega) hpsz s3
      split at hv
      · rename_i f1 H1 hx1
        obtain ⟨μ1, w1, a1, g1, g2, g3, g4⟩ := hex L.tmps.size L.assign asg _ H .normal f1 H1 s5 hx1 μ w b ⟨tmps, []⟩ [.beginRound, .code L.body] (c :: cs) h hfr
        have hl1 := (g2.le l r hl).1
        split at hv
        · rename_i pend1 tm1 ps1 asg1 body1 df1 hg1
          obtain ⟨r1, O1, k1, k2, k3⟩ := g1.obj l _ hg1
          rw [hl1] at k1; cases k1
          cases O1 <;> simp only [OR] at k3
          rename_i L1
          obtain ⟨t1, t2, t3, t4, t5, t6, t7⟩ := k3
          have hbr : (Instr.beginRound r).run P w1 = .ok () (setB w1 r (.loop { L1 with state := .busy })) := by
            simp only [Instr.beginRound, Sem.run_bind, run_getLoop k2, Result.andThen_ok, run_setObjLoop k2, t1, Sem.run_pure]
          obtain ⟨m1, m2⟩ := g1.setObj hg1 (o' := .loop .busy pend1 tm1 ps1 asg1 body1 df1) rfl rfl hl1 (O := .loop { L1 with state := .busy }) ⟨rfl, t2, t3, t4, t5, t6, t7⟩
          split at hv
          · rename_i x f2 H3 hx2
            obtain ⟨μ3, w3, a3, n1, n2, n3, n4⟩ := hex L.tmps.size L.body body f1 _ x f2 H3 s6 hx2 μ1 _ b a1 [] (c :: cs) m1 g3
            have hl3 := (n2.le l r hl1).1
            have hsteps : Steps P (lone (b.atR { tmps := tmps, defers := [] } [.code L.assign, .beginRound, .code L.body]) (c :: cs) w) (lone (b.atR a1 [.code L.body]) (c :: cs) (setB w1 r (.loop { L1 with state := .busy }))) :=
              Steps.trans g4 (.one (stepR_beginRound rfl hbr))
            split at hv
            · rename_i st3 pend3 tm3 ps3 asg3 body3 df3 hg3
              obtain ⟨r3, O3, z1, z2, z3⟩ := n1.obj l _ hg3
              rw [hl3] at z1; cases z1
              cases O3 <;> simp only [OR] at z3
              rename_i L3
              obtain ⟨u1, u2, u3, u4, u5, u6, u7⟩ := z3
              have hend : ∀ j : Option Code, (Instr.endRound r j).run P w3 = .ok (.bool j.isNone) (setB w3 r (.loop { L3 with state := if j.isNone then .ready else .done, pending := j })) := by
                intro j
                simp only [Instr.endRound, Sem.run_bind, run_getLoop z2, Result.andThen_ok, run_setObjLoop z2, Sem.run_pure]
              cases x with
              | normal =>
                simp only [Option.some.injEq, Prod.mk.injEq] at hv
                obtain ⟨rfl, rfl⟩ := hv
                obtain ⟨v1, v2⟩ := n1.setObj hg3 (o' := .loop .ready none tm3 ps3 asg3 body3 df3) rfl rfl hl3 (O := .loop { L3 with state := .ready, pending := none }) ⟨rfl, trivial, u3, u4, u5, u6, u7⟩
                exact ⟨μ3, _, Steps.trans (Steps.trans hsteps n4) (.one (stepR_round_end rfl rfl (hend none))), v1, ((g2.trans m2).trans n2).trans v2⟩
              | ret =>
                simp only [Option.some.injEq, Prod.mk.injEq] at hv
                obtain ⟨rfl, rfl⟩ := hv
                obtain ⟨todo, n4⟩ := n4
                obtain ⟨v1, v2⟩ := n1.setObj hg3 (o' := .loop .done (some .ret) tm3 ps3 asg3 body3 df3) rfl rfl hl3 (O := .loop { L3 with state := .done, pending := some .ret }) ⟨rfl, trivial, u3, u4, u5, u6, u7⟩
                exact ⟨μ3, _, Steps.trans (Steps.trans hsteps n4) (.one (stepR_round_ret rfl rfl (hend (some .ret)))), v1, ((g2.trans m2).trans n2).trans v2⟩
              | exit id =>
                simp only [Option.some.injEq, Prod.mk.injEq] at hv
                obtain ⟨rfl, rfl⟩ := hv
                obtain ⟨todo, n4, n5⟩ := n4
                obtain ⟨v1, v2⟩ := n1.setObj hg3 (o' := .loop .done (some (.exit id)) tm3 ps3 asg3 body3 df3) rfl rfl hl3 (O := .loop { L3 with state := .done, pending := some (.exit id) }) ⟨rfl, rfl, u3, u4, u5, u6, u7⟩
                exact ⟨μ3, _, Steps.trans (Steps.trans hsteps n4) (.one (stepR_round_exit rfl rfl (by rw [n5]; rfl) (hend (some (.exit id))))), v1, ((g2.trans m2).trans n2).trans v2⟩
            · cases hv
          · cases hv
        · cases hv
      · cases hv
    · cases hv
  · cases hv
end Go.Proofs.YtjfnhdiimibmiaaDoor.Sx

/- Deeds with calls, an operation, a region in the order in which it stands. -/
namespace Go.Proofs.YtjfnhdiimibmiaaDoor.Sx
variable {P : Program} {W : World} {E : Env} {ex : Ex} {μ : Emb} {H : Heap} {w : World} {A : Tm} {a : Act}

theorem callf_of {o : Oper} {f : FuncId} {l : List SX} (hk : compK P o = some (.e (.callf f l))) : ∃ c, o.op = .call c ∧ c.callee = .value (.func f) ∧ compXs c.args = some l := by
  unfold compK at hk
  cases hop : o.op with
  | call c =>
    simp only [hop] at hk
    cases hb : c.callee with
    | builtin b => cases b <;> simp only [hb] at hk <;> ((repeat' split at hk) <;> first | contradiction | (cases hk; done) | (obtain ⟨_, _, e⟩ := map_some hk; cases e; done))
    | value x =>
      simp only [hb] at hk
      split at hk <;> try contradiction
      · rename_i g he
        obtain ⟨l', hl, e⟩ := map_some hk
        cases e
        exact ⟨c, rfl, by rw [hb, he], hl⟩
      · split at hk
        · cases hk
        · cases hk
    | _ => simp only [hb] at hk; ((repeat' split at hk) <;> first | contradiction | (cases hk; done) | (obtain ⟨_, _, e⟩ := map_some hk; cases e; done))
  | _ => simp only [hop] at hk; ((repeat' split at hk) <;> first | contradiction | (cases hk; done) | (obtain ⟨_, _, e⟩ := map_some hk; cases e; done))
theorem callv_of {o : Oper} {x : SX} {l : List SX} (hk : compK P o = some (.e (.callv x l))) : ∃ c y, o.op = .call c ∧ c.callee = .value y ∧ compX y = some x ∧ compXs c.args = some l := by
  unfold compK at hk
  cases hop : o.op with
  | call c =>
    simp only [hop] at hk
    cases hb : c.callee with
    | builtin b => cases b <;> simp only [hb] at hk <;> ((repeat' split at hk) <;> first | contradiction | (cases hk; done) | (obtain ⟨_, _, e⟩ := map_some hk; cases e; done))
    | value y =>
      simp only [hb] at hk
      split at hk <;> try contradiction
      · obtain ⟨_, _, e⟩ := map_some hk; cases e
      · split at hk
        · rename_i z he _ _ _ h1 h2
          cases hk
          injection z with e
          subst e
          exact ⟨c, _, rfl, hb, h1, h2⟩
        · cases hk
    | _ => simp only [hb] at hk; ((repeat' split at hk) <;> first | contradiction | (cases hk; done) | (obtain ⟨_, _, e⟩ := map_some hk; cases e; done))
  | _ => simp only [hop] at hk; ((repeat' split at hk) <;> first | contradiction | (cases hk; done) | (obtain ⟨_, _, e⟩ := map_some hk; cases e; done))

theorem VRL.appendA {μ : Emb} {l m : List AV} {l' m' : Array Value} (h : VRL μ l l'.toList) (k : VRL μ m m'.toList) : VRL μ (l ++ m) (l' ++ m').toList := by
  rw [Array.toList_append]; exact h.append k

/-- A deed, where it stands. -/
theorem deed_sound (hE : EnvOk P W E) (hex : Sound P W ex) {ops : Array Oper} {i : Nat} {rest : List Nat} {o : Oper} {ek : EK} {v : AV} {H' : Heap} (ho : ops[i]? = some o) (hw : Region.wanted o (yielded ops a.tmps) = true) (hk : compK P o = some (.e ek))
    (hv : evE W E ex A H ek = some (v, H')) (h : HRP P W μ H w) (hA : TmR μ A a.tmps) (b : Frame) (k : List Item) (cs : List Frame) :
    ∃ μ' w' v', Steps P (lone (b.atR a (.inRegion ops (i :: rest) :: k)) cs w) (lone (b.atR (a.put o.dst v') (.inRegion ops rest :: k)) cs w') ∧ HRP P W μ' H' w' ∧ Step μ H w μ' H' w' ∧ VR μ' v v' := by
  have hd := no_defer hk
  unfold evE at hv
  split at hv
  · rename_i f l
    obtain ⟨c, hop, hc, hl⟩ := callf_of hk
    obtain ⟨r1, r2⟩ := callS_sound hE hex f _ H v H' hv μ w (c.args.map a.eval) h (evXs_VR hA hl)
    have hr : (execOp a.eval o).run P w = .ok (.enter f (c.args.map a.eval)) w := by
      simp only [execOp, hop, resolve, hc, Act.eval, Deferred.ofValue, pure_bind, invoke, Array.append_empty, Array.empty_append]
      exact r1
    obtain ⟨μ', w', fr, v', q1, q2, q3, q4, q5, q6⟩ := r2 (b.atR a (.inRegion ops (i :: rest) :: k) :: cs)
    exact ⟨μ', w', v', .head (step_enter ho hw hd hr) (q1.trans (.one (step_back ho q2))), q4, q5, q6⟩
  · rename_i x l
    obtain ⟨c, y, hop, hc, hx, hl⟩ := callv_of hk
    have hxv := evX_VR (μ := μ) hA hx
    have hlv := evXs_VR (μ := μ) hA hl
    generalize evX A x = xv at hxv hv
    generalize hyv : a.eval y = yv at hxv
    split at hv
    · rename_i f first cap
      cases hxv with
      | fn _ hf hcp =>
        rename_i fs' cs'
        obtain ⟨r1, r2⟩ := callS_sound hE hex f _ H v H' hv μ w (fs' ++ c.args.map a.eval ++ cs') h (VRL.appendA (VRL.appendA hf hlv) hcp)
        have hr : (execOp a.eval o).run P w = .ok (.enter f (fs' ++ c.args.map a.eval ++ cs')) w := by
          simp only [execOp, hop, resolve, hc, hyv, Deferred.ofValue, pure_bind, invoke]
          exact r1
        obtain ⟨μ', w', fr, v', q1, q2, q3, q4, q5, q6⟩ := r2 (b.atR a (.inRegion ops (i :: rest) :: k) :: cs)
        exact ⟨μ', w', v', .head (step_enter ho hw hd hr) (q1.trans (.one (step_back ho q2))), q4, q5, q6⟩
    · rename_i l0
      cases hxv with
      | yld hb =>
        rename_i r
        split at hv
        · rename_i bo H1 hy
          cases hv
          obtain ⟨fid, tmps, asg, body, r1, r2⟩ := yldS_sound hex hy (args' := c.args.map a.eval) h hlv hb
          have hr : (execOp a.eval o).run P w = .ok (.round r fid tmps asg body) w := by
            simp only [execOp, hop, resolve, hc, hyv, Deferred.ofValue, pure_bind, invoke, Array.empty_append]
            exact r1
          obtain ⟨μ', w', q1, q2, q3⟩ := r2 (b.atR a (.inRegion ops (i :: rest) :: k)) cs
          refine ⟨μ', w', .bool bo, .head (step_round ho hw hd hr) ?_, q2, q3, .bool _⟩
          rw [Frame.finish_atR, ho] at q1
          exact q1
        · cases hv
    · cases hv
  · obtain ⟨μ', w', nx, v', q1, q2, q3, q4, q5⟩ := evD_run h hk hA hv
    rcases q2 with rfl | ⟨rfl, rfl⟩
    · exact ⟨μ', w', v', .one (step_val ho hw hd q1), q3, q4, q5⟩
    · exact ⟨μ', w', undef, .one (step_skip' ho hw hd q1), q3, q4, q5⟩

/-- An operation, where it stands. -/
theorem op_sound (hE : EnvOk P W E) (hex : Sound P W ex) {ops : Array Oper} {i : Nat} {rest : List Nat} {o : Oper} {sk : SK} {v : AV} {H' : Heap} (ho : ops[i]? = some o) (hw : Region.wanted o (yielded ops a.tmps) = true) (hk : compK P o = some sk)
    (hv : stepK W E ex A H sk = some (v, H')) (h : HRP P W μ H w) (hA : TmR μ A a.tmps) (b : Frame) (k : List Item) (cs : List Frame) :
    ∃ μ' w' v', Steps P (lone (b.atR a (.inRegion ops (i :: rest) :: k)) cs w) (lone (b.atR (a.put o.dst v') (.inRegion ops rest :: k)) cs w') ∧ HRP P W μ' H' w' ∧ Step μ H w μ' H' w' ∧ VR μ' v v' := by
  have hd := no_defer hk
  cases sk with
  | p pk =>
    simp only [stepK] at hv
    split at hv
    · rename_i u hu
      cases hv
      obtain ⟨v', q1, q2⟩ := evP_run (μ := μ) (w := w) hk hA hu
      exact ⟨μ, w, v', .one (step_val ho hw hd q1), h, Step.refl _ _ _, q2⟩
    · cases hv
  | r rk =>
    simp only [stepK] at hv
    split at hv
    · rename_i u hu
      cases hv
      obtain ⟨v', q1, q2⟩ := evR_run h hk hA hu
      exact ⟨μ, w, v', .one (step_val ho hw hd q1), h, Step.refl _ _ _, q2⟩
    · cases hv
  | a ak =>
    simp only [stepK] at hv
    split at hv
    · rename_i ob u hu
      cases hv
      have hn := h.fresh H.next (Nat.le_refl _)
      obtain ⟨O, n, v', q1, q2, q3, q4⟩ := evA_run (comp := fun nt c => compC P nt c) (id := H.next) hn hA hk hu
      obtain ⟨g1, g2⟩ := h.push q2 q3
      exact ⟨_, _, v', .one (step_val ho hw hd q1), g1.drew n, g2.drew w.drawn n, q4⟩
    · cases hv
  | e ek => exact deed_sound hE hex ho hw hk hv h hA b k cs

theorem TmR.undef_put {A : Tm} {a : Act} (hA : TmR μ A a.tmps) {d : Option Nat} (hd : ∀ x, d = some x → x < a.tmps.size) : TmR μ (putT A d (.tup [])) (a.put d undef).tmps := hA.put hd (.tup .nil)
theorem put_size {a : Act} {d : Option Nat} {v : Value} : (a.put d v).tmps.size = a.tmps.size := by cases d <;> simp [Act.put]
theorem put_defers {a : Act} {d : Option Nat} {v : Value} : (a.put d v).defers = a.defers := by cases d <;> simp [Act.put]

/-- An operation that is left out. -/
theorem out_sound {ops : Array Oper} {i : Nat} {rest : List Nat} {o : Oper} (ho : ops[i]? = some o) (hw : Region.wanted o (yielded ops a.tmps) = false) (b : Frame) (k : List Item) (cs : List Frame) :
    Steps P (lone (b.atR a (.inRegion ops (i :: rest) :: k)) cs w) (lone (b.atR (a.put o.dst undef) (.inRegion ops rest :: k)) cs w) := by
  have := stepR_op_skip (P := P) (b := b) (a := a) (k := k) (cs := cs) (w := w) (ops := ops) (i := i) (rest := rest) (by rw [ho]; simpa using hw)
  rw [ho] at this
  exact .one this

theorem runOps_sound (hE : EnvOk P W E) (hex : Sound P W ex) {nt : Nat} {ops : Array Oper} {b : Frame} {k : List Item} {cs : List Frame} : ∀ {l : List SOp} {i : Nat} {μ : Emb} {A : Tm} {H : Heap} {w : World} {a : Act} {A' : Tm} {H' : Heap},
    ((ops.toList.drop i).mapM (compOp P nt ops)) = some l → runOps W E ex l A H = some (A', H') → HRP P W μ H w → TmR μ A a.tmps → a.tmps.size = nt →
    ∃ μ' w' a', Steps P (lone (b.atR a (.inRegion ops (List.range' i (ops.size - i)) :: k)) cs w) (lone (b.atR a' (.inRegion ops [] :: k)) cs w') ∧ HRP P W μ' H' w' ∧ Step μ H w μ' H' w' ∧ TmR μ' A' a'.tmps ∧ a'.tmps.size = nt ∧ a'.defers = a.defers := by
  intro l
  induction l with
  | nil =>
    intro i μ A H w a A' H' hc hr h hA hsz
    have hl := (mapM_some hc).1
    simp at hl
    cases hr
    rw [show ops.size - i = 0 from by omega]
    exact ⟨μ, w, a, Steps.refl _ _, h, Step.refl _ _ _, hA, hsz, rfl⟩
  | cons so l ih =>
    intro i μ A H w a A' H' hc hr h hA hsz
    have hl := (mapM_some hc).1
    simp at hl
    have hi : i < ops.size := by omega
    have hdrop : ops.toList.drop i = ops[i] :: ops.toList.drop (i + 1) := by
      rw [List.drop_eq_getElem_cons (by simpa using hi)]; simp
    rw [hdrop, List.mapM_cons] at hc
    cases hso : compOp P nt ops ops[i] with
    | none => simp [hso] at hc
    | some so' =>
      cases hls : (ops.toList.drop (i + 1)).mapM (compOp P nt ops) with
      | none => simp [hso, hls] at hc
      | some l' =>
        simp [hso, hls] at hc
        obtain ⟨rfl, rfl⟩ := hc
        obtain ⟨hk, hdst, hlt⟩ := compOp_k hso
        have hoi : ops[i]? = some ops[i] := Array.getElem?_eq_getElem hi
        have hlt' : ∀ x, (ops[i]).dst = some x → x < a.tmps.size := fun x hx => by rw [hsz]; exact hlt x hx
        have hrange : List.range' i (ops.size - i) = i :: List.range' (i + 1) (ops.size - (i + 1)) := by
          rw [show ops.size - i = (ops.size - (i + 1)) + 1 from by omega, List.range'_succ]
        rw [hrange]
        simp only [runOps] at hr
        split at hr
        · rename_i hg
          have hw := wanted_of hso hA hg
          split at hr
          · rename_i v H1 hst
            obtain ⟨μ1, w1, v', q1, q2, q3, q4⟩ := op_sound hE hex (rest := List.range' (i + 1) (ops.size - (i + 1))) hoi hw hk hst h hA b k cs
            rw [hdst] at hr
            obtain ⟨μ2, w2, a2, z1, z2, z3, z4, z5, z6⟩ := ih (a := a.put (ops[i]).dst v') hls hr q2 ((hA.le q3.le).put hlt' q4) (by rw [put_size]; exact hsz)
            exact ⟨μ2, w2, a2, q1.trans z1, z2, q3.trans z3, z4, z5, by rw [z6, put_defers]⟩
          · cases hr
        · rename_i hg
          have hw := wanted_of hso hA hg
          rw [hdst] at hr
          obtain ⟨μ2, w2, a2, z1, z2, z3, z4, z5, z6⟩ := ih (a := a.put (ops[i]).dst undef) hls hr h (hA.undef_put hlt') (by rw [put_size]; exact hsz)
          exact ⟨μ2, w2, a2, (out_sound hoi hw b k cs).trans z1, z2, z3, z4, z5, by rw [z6, put_defers]⟩
        · cases hr
end Go.Proofs.YtjfnhdiimibmiaaDoor.Sx

/- A level of the second reading, and all levels. -/
namespace Go.Proofs.YtjfnhdiimibmiaaDoor.Sx
variable {P : Program} {W : World} {E : Env} {ex : Ex} {μ : Emb} {H : Heap} {w : World}

/-- What is asked of regions that draw their order. -/
def DrawOk (P : Program) (W : World) (E : Env) (ex : Ex) : Prop :=
  ∀ (nt : Nat) (ops : Array Oper) (n : Nat) (l : List DOp) (A : Tm) (H : Heap) (hs : List (Nat × Heap)) (A' : Tm) (H' : Heap), compDraw P nt ops = some (.draw n l) → runD W E ex H.next 0 l ([(0, { H with next := H.next + n })], A, { H with next := H.next + n }) = some (hs, A', H') →
    ∀ (μ : Emb) (w : World) (b : Frame) (a : Act) (k : List Item) (cs : List Frame) (id : Nat), HRP P W μ H w → TmR μ A a.tmps → a.tmps.size = nt →
      ∃ μ' w' a', Steps P (lone (b.atR a (.code (.region id ops true) :: k)) cs w) (lone (b.atR a' (.inRegion ops [] :: k)) cs w') ∧ HRP P W μ' H' w' ∧ Step μ H w μ' H' w' ∧ TmR μ' A' a'.tmps ∧ a'.tmps.size = nt ∧ a'.defers = a.defers

theorem Steps.uncons {m m' m1 : Machine} (h : Steps P m m') (hs : step P m = .next m1) (hne : m ≠ m') : Steps P m1 m' := by
  obtain ⟨n, hn⟩ := h
  cases n with
  | zero => simp [runN] at hn; exact absurd hn hne
  | succ n => simp only [runN, hs] at hn; exact ⟨n, hn⟩

theorem Arr.uncons {b : Frame} {a a' : Act} {c : Code} {k : List Item} {cs : List Frame} {w w' : World} {x : Lv} {m1 : Machine} (h : Arr P (lone (b.atR a (.code c :: k)) cs w) b a' k cs w' x) (hs : step P (lone (b.atR a (.code c :: k)) cs w) = .next m1) (h1 : ∀ id, c ≠ .exit id) (h2 : c ≠ .ret) :
    Arr P m1 b a' k cs w' x := by
  cases x with
  | normal =>
    refine Steps.uncons h hs fun e => ?_
    have := congrArg (fun m : Machine => (m.gs[0]?).map fun g => g.frame.todo.length) e
    simp [lone, Frame.atR] at this
  | exit id =>
    obtain ⟨todo, h3, h4⟩ := h
    refine ⟨todo, Steps.uncons h3 hs fun e => ?_, h4⟩
    have := congrArg (fun m : Machine => (m.gs[0]?).map fun g => g.frame.todo.head?) e
    simp [lone, Frame.atR] at this
    exact h1 _ this
  | ret =>
    obtain ⟨todo, h3⟩ := h
    refine ⟨todo, Steps.uncons h3 hs fun e => ?_⟩
    have := congrArg (fun m : Machine => (m.gs[0]?).map fun g => g.frame.todo.head?) e
    simp [lone, Frame.atR] at this
    exact h2 this

theorem exitTo_code {id : Nat} {c : Code} {k : List Item} : exitTo id (.code c :: k) = exitTo id k := rfl

theorem run_newObj' {O : Obj} : (newObj O).run P w = .ok w.heap.size { w with heap := w.heap.push O } := by simp [newObj, Sem.run]

theorem endLoop_run {r : Nat} {L : Loop} (h : w.heap[r]? = some (.loop L)) (hb : L.state ≠ .busy) : (Instr.endLoop r).run P w = .ok L.pending (setB w r (.loop { L with state := .exhausted })) := by
  have : (L.state == LoopState.busy) = false := by cases hs : L.state <;> first | rfl | exact absurd hs hb
  simp only [Instr.endLoop, Sem.run_bind, run_getLoop h, Result.andThen_ok, this, run_setObjLoop h, Sem.run_pure, Bool.false_eq_true, if_false]

/-- A range over a function. -/
theorem rangeFunc_sound (hE : EnvOk P W E) (hex : Sound P W ex) {nt : Nat} {g : Operand} {ps : Array Tmp} {ca cb : Code} {sg : SX} {sa sb : SC} {f f' : Fr} {H' : Heap} {x : Lv} (hg : compX g = some sg) (ha : compC P nt ca = some sa) (hb : compC P nt cb = some sb) (hps : ∀ t ∈ ps.toList, t < nt)
    (hx : stepS W E ex (.rangeFunc sg ps.toList sa sb) f H = some (x, f', H')) {b : Frame} {a : Act} (k : List Item) (cs : List Frame) (h : HRP P W μ H w) (hf : FrR μ f b a nt) :
    ∃ μ' w' a', HRP P W μ' H' w' ∧ Step μ H w μ' H' w' ∧ FrR μ' f' b a' nt ∧ Arr P (lone (b.atR a (.code (.rangeFunc g ps ca cb) :: k)) cs w) b a' k cs w' x := by
  have hgv := evX_VR (μ := μ) hf.tm hg
  simp only [stepS] at hx
  generalize evX f.tm sg = gv at hgv hx
  generalize hgr : a.eval g = gr at hgv
  split at hx
  case h_2 => cases hx
  rename_i h0 first cap
  cases hgv with
  | fn _ hfst hcap =>
  rename_i first' cap'
  -- the block and its mark
  have hent : ∀ d H1 df, (match f.ro with
        | none => some (H.next, H.push (.deferred true), H.next :: f.df)
        | some l0 => match H.get l0 with
          | some (.loop _ _ _ _ _ _ df0) => some (df0, H, f.df)
          | _ => none) = some (d, H1, df) →
      ∃ μ1 w1 r mark, (Instr.enterLoop b.fn a.tmps ps ca cb b.roundOf).run P w = .ok (w1.heap.size, mark) { w1 with heap := w1.heap.push (.loop { state := .ready, pending := none, fn := b.fn, tmps := a.tmps, params := ps, assign := ca, body := cb, defers := r }) } ∧ HRP P W μ1 H1 w1 ∧ Step μ H w μ1 H1 w1 ∧ μ1.blk d = some r ∧ DfR μ1 df (mark ++ a.defers) := by
    intro d H1 df hm
    have hro := hf.ro
    cases hfr : f.ro with
    | none =>
      cases hbr : b.roundOf with
      | some l => rw [hfr, hbr] at hro; exact hro.elim
      | none =>
        rw [hfr] at hm
        simp only [Option.some.injEq, Prod.mk.injEq] at hm
        obtain ⟨rfl, rfl, rfl⟩ := hm
        obtain ⟨p1, p2⟩ := h.push (o := .deferred true) (O := .deferred (some [])) (by simp [AObj.line]) rfl
        refine ⟨_, _, w.heap.size, [{ target := .collected w.heap.size, args := #[] }], by simp only [Instr.enterLoop, Sem.run_bind, run_newObj', Result.andThen_ok, Sem.run_pure], p1, p2, by simp [Emb.add], ?_⟩
        exact .cons (by simp [Emb.add]) (hf.df.le p2.le)
    | some l0 =>
      cases hbr : b.roundOf with
      | none => rw [hfr, hbr] at hro; exact hro.elim
      | some l =>
        rw [hfr] at hm
        rw [hfr, hbr] at hro
        simp only at hm
        split at hm
        · rename_i st0 pend0 tm0 ps0 asg0 body0 df0 hg0
          simp only [Option.some.injEq, Prod.mk.injEq] at hm
          obtain ⟨rfl, rfl, rfl⟩ := hm
          obtain ⟨r', O, h1, h2, h3⟩ := h.obj l0 _ hg0
          have : μ.blk l0 = some l := hro
          rw [this] at h1; cases h1
          cases O <;> simp only [OR] at h3
          rename_i L
          exact ⟨μ, w, L.defers, [], by simp only [Instr.enterLoop, Sem.run_bind, run_newObj', run_getLoop h2, Result.andThen_ok, Sem.run_pure], h, Step.refl _ _ _, h3.2.2.2.2.2.2, hf.df⟩
        · cases hm
  split at hx
  case h_2 => cases hx
  rename_i d H1 df hm
  obtain ⟨μ1, w1, r, mark, hrun, hH1, hS1, hd, hdf⟩ := hent d H1 df hm
  -- the record
  let L : Loop := { state := .ready, pending := none, fn := b.fn, tmps := a.tmps, params := ps, assign := ca, body := cb, defers := r }
  have hle1 : μ1.le (μ1.add H1.next w1.heap.size (objSize (.loop L))) := Emb.le_add (hH1.fresh _ (Nat.le_refl _))
  obtain ⟨hH2, hS2⟩ := hH1.push (o := .loop .ready none f.tm ps.toList sa sb d) (O := .loop L) (by simp [AObj.line])
    ⟨rfl, trivial, (hf.tm.le hS1.le).le hle1, ⟨rfl, by rw [show L.tmps.size = nt from hf.size]; exact hps⟩, by rw [show L.tmps.size = nt from hf.size]; exact ha, by rw [show L.tmps.size = nt from hf.size]; exact hb, (hle1 _ _ hd).1⟩
  have he : (Instr.enterLoop b.fn a.tmps ps ca cb b.roundOf).run P w = .ok (w1.heap.size, mark) { w1 with heap := w1.heap.push (.loop L) } := hrun
  have hS12 := hS1.trans hS2
  have hargs : VRL (μ1.add H1.next w1.heap.size (objSize (.loop L))) (first ++ [.yld H1.next] ++ cap) (first' ++ #[Value.func (.yield w1.heap.size) #[] #[]] ++ cap').toList :=
    VRL.appendA (VRL.appendA (hfst.le hS12.le) (.cons (.yld (by simp [Emb.add])) .nil)) (hcap.le hS12.le)
  split at hx
  case h_2 => cases hx
  rename_i vv H3 hcall
  obtain ⟨r1, r2⟩ := callS_sound hE hex h0 _ _ vv H3 hcall _ _ _ hH2 hargs
  obtain ⟨μ3, w3, fr, v', q1, q2, q3, q4, q5, q6⟩ := r2 (b.atR { a with defers := mark ++ a.defers } (.inRangeFunc w1.heap.size :: k) :: cs)
  have hres : (resolve a.eval (rangeCall g w1.heap.size) 0).run P { w1 with heap := w1.heap.push (.loop L) } = .ok { target := .fn (.func h0) cap', args := first' ++ #[Value.func (.yield w1.heap.size) #[] #[]] } { w1 with heap := w1.heap.push (.loop L) } := by
    have hm1 : Array.map a.eval #[Operand.const (Value.func (.yield w1.heap.size) #[] #[])] = #[Value.func (.yield w1.heap.size) #[] #[]] := by simp [Act.eval]
    simp only [resolve, hgr, hm1, Deferred.ofValue, Sem.run_pure]
  have hinv : (invoke (.fn (.func h0) cap') (first' ++ #[Value.func (.yield w1.heap.size) #[] #[]])).run P { w1 with heap := w1.heap.push (.loop L) } = .ok (.enter h0 (first' ++ #[Value.func (.yield w1.heap.size) #[] #[]] ++ cap')) { w1 with heap := w1.heap.push (.loop L) } := r1
  have henter := stepR_rangeFunc (k := k) (cs := cs) he hres hinv
  split at hx
  case h_2 => cases hx
  rename_i st pend tm3 ps3 asg3 body3 df3 hg3
  obtain ⟨r3, O3, z1, z2, z3⟩ := q4.obj _ _ hg3
  have hl3 : μ3.blk H1.next = some w1.heap.size := (q5.le _ _ (by simp [Emb.add])).1
  rw [hl3] at z1; cases z1
  cases O3 <;> simp only [OR] at z3
  rename_i L3
  obtain ⟨u1, u2, u3, u4, u5, u6, u7⟩ := z3
  split at hx
  · cases hx
  rename_i hnb
  have hend := endLoop_run (P := P) z2 (by rw [u1]; exact hnb)
  have hsteps : Steps P (lone (b.atR a (.code (.rangeFunc g ps ca cb) :: k)) cs w) (lone (b.atR { a with defers := mark ++ a.defers } ((L3.pending.map Item.code).toList ++ k)) cs (setB w3 w1.heap.size (.loop { L3 with state := .exhausted }))) := by
    refine .head henter (Steps.trans q1 (.head ?_ (.one (stepR_endRangeFunc hend))))
    rw [← finish_atR_inRangeFunc w1.heap.size v']; exact step_leave_returned q2
  have hSall := hS12.trans q5
  have hfr : FrR μ3 { f with df := df } b { a with defers := mark ++ a.defers } nt := ⟨hf.tm.le hSall.le, hf.size, hdf.le (hS2.trans q5).le, hf.ro.le hSall.le⟩
  split at hx
  · cases hx
    have hpe : L3.pending = none := by
      cases hp : L3.pending with
      | none => rfl
      | some c => rw [hp] at u2; exact u2.elim
    obtain ⟨y1, y2⟩ := q4.setObj hg3 (o' := .loop .exhausted none tm3 ps3 asg3 body3 df3) rfl rfl hl3 (O := .loop { L3 with state := .exhausted }) ⟨rfl, by rw [hpe]; trivial, u3, u4, u5, u6, u7⟩
    refine ⟨μ3, _, _, y1, hSall.trans y2, hfr, ?_⟩
    have e : (L3.pending.map Item.code).toList ++ k = k := by rw [hpe]; rfl
    rw [e] at hsteps
    exact hsteps
  · rename_i j
    cases hx
    obtain ⟨y1, y2⟩ := q4.setObj hg3 (o' := .loop .exhausted (some x) tm3 ps3 asg3 body3 df3) rfl rfl hl3 (O := .loop { L3 with state := .exhausted }) ⟨rfl, u2, u3, u4, u5, u6, u7⟩
    refine ⟨μ3, setB w3 w1.heap.size (.loop { L3 with state := .exhausted }), { a with defers := mark ++ a.defers }, y1, hSall.trans y2, hfr, ?_⟩
    clear y1 y2
    generalize setB w3 w1.heap.size (.loop { L3 with state := .exhausted }) = wz at hsteps ⊢
    cases hp : L3.pending with
    | none => rw [hp] at u2; cases x <;> exact u2.elim
    | some c =>
      have e : (L3.pending.map Item.code).toList ++ k = .code c :: k := by rw [hp]; rfl
      rw [e] at hsteps
      rw [hp] at u2
      cases x with
      | normal => exact u2.elim
      | exit i =>
        cases c <;> simp only [JR] at u2
        subst u2
        exact ⟨k, hsteps, rfl⟩
      | ret =>
        cases c <;> simp only [JR] at u2
        exact ⟨k, hsteps⟩

/-- A level above a sound one is sound. -/
theorem stepS_sound (hE : EnvOk P W E) (hex : Sound P W ex) (hdraw : DrawOk P W E ex) : Sound P W (stepS W E ex) := by
  intro nt c sc f H x f' H' hc hx μ w b a k cs h hf
  cases c with
  | skip =>
    simp only [compC, Option.some.injEq] at hc
    subst hc
    cases hx
    exact ⟨μ, w, a, h, Step.refl _ _ _, hf, .one stepR_skip⟩
  | label l =>
    simp only [compC, Option.some.injEq] at hc
    subst hc
    cases hx
    exact ⟨μ, w, a, h, Step.refl _ _ _, hf, .one stepR_label⟩
  | exit id =>
    simp only [compC, Option.some.injEq] at hc
    subst hc
    cases hx
    exact ⟨μ, w, a, h, Step.refl _ _ _, hf, k, Steps.refl _ _, rfl⟩
  | ret =>
    simp only [compC, Option.some.injEq] at hc
    subst hc
    cases hx
    exact ⟨μ, w, a, h, Step.refl _ _ _, hf, k, Steps.refl _ _⟩
  | goto l => simp [compC] at hc
  | refuse l => simp [compC] at hc
  | region id ops draw =>
    cases draw with
    | true =>
      simp only [compC, if_true] at hc
      have hd : ∃ n l, sc = .draw n l := by
        unfold compDraw at hc
        split at hc
        · cases hc
        · dsimp only at hc
          split at hc
          · cases hc; exact ⟨_, _, rfl⟩
          · cases hc
      obtain ⟨n, l, rfl⟩ := hd
      simp only [stepS] at hx
      split at hx
      · rename_i hs A H1 hr
        cases hx
        obtain ⟨μ', w', a', q1, q2, q3, q4, q5, q6⟩ := hdraw nt ops n l f.tm H hs A H' hc hr μ w b a k cs id h hf.tm hf.size
        exact ⟨μ', w', a', q2, q3, ⟨q4, q5, by rw [q6]; exact hf.df.le q3.le, hf.ro.le q3.le⟩, q1.trans (.one stepR_region_end)⟩
      · cases hx
    | false =>
      simp only [compC, Bool.false_eq_true, if_false] at hc
      obtain ⟨l, hl, e⟩ := map_some hc
      cases e
      simp only [stepS] at hx
      split at hx
      · rename_i A H1 hr
        cases hx
        obtain ⟨μ', w', a', q1, q2, q3, q4, q5, q6⟩ := runOps_sound (b := b) (k := k) (cs := cs) (i := 0) hE hex (by simpa [sops] using hl) hr h hf.tm hf.size
        refine ⟨μ', w', a', q2, q3, ⟨q4, q5, by rw [q6]; exact hf.df.le q3.le, hf.ro.le q3.le⟩, .head stepR_region ?_⟩
        rw [List.range_eq_range']
        exact Steps.trans q1 (.one stepR_region_end)
      · cases hx
  | seq ca cb =>
    simp only [compC] at hc
    split at hc
    · rename_i sa sb ha hb
      cases hc
      simp only [stepS] at hx
      split at hx
      · rename_i f1 H1 h1
        obtain ⟨μ1, w1, a1, p1, p2, p3, p4⟩ := hex nt ca sa f H .normal f1 H1 ha h1 μ w b a (.code cb :: k) cs h hf
        obtain ⟨μ2, w2, a2, q1, q2, q3, q4⟩ := hex nt cb sb f1 H1 x f' H' hb hx μ1 w1 b a1 k cs p1 p3
        exact ⟨μ2, w2, a2, q1, p2.trans q2, q3, Arr.of_steps (.head stepR_seq p4) q4⟩
      · rename_i hne
        obtain ⟨μ1, w1, a1, p1, p2, p3, p4⟩ := hex nt ca sa f H x f' H' ha hx μ w b a (.code cb :: k) cs h hf
        refine ⟨μ1, w1, a1, p1, p2, p3, ?_⟩
        cases x with
        | normal => exact absurd hx (hne _ _)
        | exit id => obtain ⟨todo, r1, r2⟩ := p4; exact ⟨todo, .head stepR_seq r1, r2⟩
        | ret => obtain ⟨todo, r1⟩ := p4; exact ⟨todo, .head stepR_seq r1⟩
    · cases hc
  | cond g ca cb =>
    simp only [compC] at hc
    split at hc
    · rename_i sg sa sb hg ha hb
      cases hc
      have hv := evX_VR (μ := μ) hf.tm hg
      simp only [stepS] at hx
      generalize evX f.tm sg = gv at hv hx
      generalize hgr : a.eval g = gr at hv
      split at hx
      · cases hv
        obtain ⟨μ1, w1, a1, p1, p2, p3, p4⟩ := hex nt ca sa f H x f' H' ha hx μ w b a k cs h hf
        exact ⟨μ1, w1, a1, p1, p2, p3, Arr.of_steps (.one (stepR_cond hgr)) p4⟩
      · cases hv
        obtain ⟨μ1, w1, a1, p1, p2, p3, p4⟩ := hex nt cb sb f H x f' H' hb hx μ w b a k cs h hf
        exact ⟨μ1, w1, a1, p1, p2, p3, Arr.of_steps (.one (stepR_cond hgr)) p4⟩
      · cases hx
    · cases hc
  | block id cb =>
    simp only [compC] at hc
    obtain ⟨sb, hb, e⟩ := map_some hc
    cases e
    simp only [stepS] at hx
    split at hx
    · rename_i i f1 H1 h1
      obtain ⟨μ1, w1, a1, p1, p2, p3, todo, p4, p5⟩ := hex nt cb sb f H (.exit i) f1 H1 hb h1 μ w b a (.inBlock id :: k) cs h hf
      split at hx
      · rename_i e
        cases hx
        subst e
        refine ⟨μ1, w1, a1, p1, p2, p3, .head stepR_block (p4.trans (.one (stepR_exit ?_)))⟩
        rw [p5]; simp [exitTo]
      · rename_i hne
        cases hx
        refine ⟨μ1, w1, a1, p1, p2, p3, todo, .head stepR_block p4, ?_⟩
        rw [p5]
        have : (id == i) = false := by simp; exact fun e => hne e.symm
        simp [exitTo, this]
    · rename_i hne
      obtain ⟨μ1, w1, a1, p1, p2, p3, p4⟩ := hex nt cb sb f H x f' H' hb hx μ w b a (.inBlock id :: k) cs h hf
      refine ⟨μ1, w1, a1, p1, p2, p3, ?_⟩
      cases x with
      | normal => exact .head stepR_block (Steps.trans p4 (.one stepR_inBlock))
      | exit i => exact absurd hx (hne _ _ _)
      | ret => obtain ⟨todo, r1⟩ := p4; exact ⟨todo, .head stepR_block r1⟩
  | loop cb =>
    have hc0 := hc
    simp only [compC] at hc
    obtain ⟨sb, hb, e⟩ := map_some hc
    cases e
    simp only [stepS] at hx
    split at hx
    · rename_i f1 H1 h1
      obtain ⟨μ1, w1, a1, p1, p2, p3, p4⟩ := hex nt cb sb f H .normal f1 H1 hb h1 μ w b a (.inLoop cb :: k) cs h hf
      obtain ⟨μ2, w2, a2, q1, q2, q3, q4⟩ := hex nt (.loop cb) (.loop sb) f1 H1 x f' H' hc0 hx μ1 w1 b a1 k cs p1 p3
      refine ⟨μ2, w2, a2, q1, p2.trans q2, q3, ?_⟩
      exact Arr.of_steps (Steps.trans (.head stepR_loop p4) (.one stepR_inLoop)) (q4.uncons stepR_loop (fun _ e => by cases e) (fun e => by cases e))
    · rename_i hne
      obtain ⟨μ1, w1, a1, p1, p2, p3, p4⟩ := hex nt cb sb f H x f' H' hb hx μ w b a (.inLoop cb :: k) cs h hf
      refine ⟨μ1, w1, a1, p1, p2, p3, ?_⟩
      cases x with
      | normal => exact absurd hx (hne _ _)
      | exit id => obtain ⟨todo, r1, r2⟩ := p4; exact ⟨todo, .head stepR_loop r1, r2⟩
      | ret => obtain ⟨todo, r1⟩ := p4; exact ⟨todo, .head stepR_loop r1⟩
  | scope cb =>
    simp only [compC] at hc
    obtain ⟨sb, hb, e⟩ := map_some hc
    cases e
    simp only [stepS] at hx
    obtain ⟨μ1, w1, a1, p1, p2, p3, p4⟩ := hex nt cb sb f H x f' H' hb hx μ w b a (.inScope cb :: k) cs h hf
    refine ⟨μ1, w1, a1, p1, p2, p3, ?_⟩
    cases x with
    | normal => exact .head stepR_scope (Steps.trans p4 (.one stepR_inScope))
    | exit id => obtain ⟨todo, r1, r2⟩ := p4; exact ⟨todo, .head stepR_scope r1, r2⟩
    | ret => obtain ⟨todo, r1⟩ := p4; exact ⟨todo, .head stepR_scope r1⟩
  | rangeFunc g ps ca cb =>
    simp only [compC] at hc
    split at hc
    · rename_i sg sa sb hg ha hb
      split at hc
      · rename_i hps
        cases hc
        exact rangeFunc_sound hE hex hg ha hb (fun t ht => by simpa using List.all_eq_true.1 hps t ht) hx k cs h hf
      · cases hc
    · cases hc
end Go.Proofs.YtjfnhdiimibmiaaDoor.Sx

/- Blocks that are made before their place in our own order comes. -/
namespace Go.Proofs.YtjfnhdiimibmiaaDoor.Sx
variable {comp : Nat → Code → Option SC} {W : World} {μ μ0 : Emb} {H H0 : Heap} {w w0 : World}

theorem HR.live (h : HR comp W μ H w) {j : Nat} {o : AObj} (hj : H.get j = some o) : ∃ r, μ.blk j = some r := by
  obtain ⟨r, _, h1, _⟩ := h.obj j o hj
  exact ⟨r, h1⟩

/-- A block is made; the second reading's heap does not hold it yet. -/
theorem HR.grow (h : HR comp W μ H w) {id k n : Nat} {O : Obj} (hid : id < H.next) (hn : μ.blk id = none) : HR comp W (μ.add id w.heap.size k) H { w with heap := w.heap.push O, drawn := n } := by
  have hle : μ.le (μ.add id w.heap.size k) := Emb.le_add hn
  have hblk : ∀ i, i ≠ id → (μ.add id w.heap.size k).blk i = μ.blk i := fun i hi => by simp [Emb.add, hi]
  have hbid : (μ.add id w.heap.size k).blk id = some w.heap.size := by simp [Emb.add]
  have hold : ∀ r, r < w.heap.size → (w.heap.push O)[r]? = w.heap[r]? := fun r hr => by rw [Array.getElem?_push, if_neg (by omega)]
  have hnone : ∀ j o' , H.get j = some o' → j ≠ id := by
    intro j o' hj e
    obtain ⟨r, h1⟩ := h.live hj
    rw [e, hn] at h1; cases h1
  refine ⟨h.os, h.tape, h.output, ?_, ?_, ?_, ?_, ?_, ?_, h.tip, ?_, h.mono, h.wf⟩
  · simp only [Array.size_push]; exact Nat.le_succ_of_le h.size
  · intro b hb
    have := h.size
    show (w.heap.push O)[b]? = _
    rw [hold b (by omega)]; exact h.old b hb
  · intro i r hi
    simp only [Array.size_push]
    by_cases e : i = id
    · subst e; rw [hbid] at hi; cases hi; exact ⟨h.size, by omega⟩
    · rw [hblk i e] at hi; have := h.dom i r hi; omega
  · intro i hi
    rw [hblk i (by omega)]; exact h.fresh i hi
  · intro j o' hj
    obtain ⟨r, O', h1, h2, h3⟩ := h.obj j o' hj
    refine ⟨r, O', (hle j r h1).1, ?_, h3.le hle h1⟩
    show (w.heap.push O)[r]? = _
    rw [hold r (h.dom j r h1).2]; exact h2
  · intro i j r oi oj hi hj hri hrj hne
    rw [hblk i (hnone i oi hi)] at hri
    rw [hblk j (hnone j oj hj)] at hrj
    rw [(hle i r hri).2.2, (hle j r hrj).2.2]
    exact h.inj i j r oi oj hi hj hri hrj hne
  · intro j c t l hj
    obtain ⟨q, hq⟩ := Option.isSome_iff_exists.1 (h.root j c t l hj)
    rw [(hle l q hq).1]; rfl
theorem Step.grow (s : Step μ0 H0 w0 μ H w) (h : HR comp W μ H w) {id k n : Nat} {O : Obj} (hid : H0.next ≤ id) (hn : μ.blk id = none) : Step μ0 H0 w0 (μ.add id w.heap.size k) H { w with heap := w.heap.push O, drawn := n } := by
  have hle : μ.le (μ.add id w.heap.size k) := Emb.le_add hn
  have hold : ∀ r, r < w.heap.size → (w.heap.push O)[r]? = w.heap[r]? := fun r hr => by rw [Array.getElem?_push, if_neg (by omega)]
  have hsz := s.size
  refine ⟨⟨Emb.le_trans s.le hle, by simp only [Array.size_push]; omega, fun r hr hno => ?_, fun j o r hj hjr hr => ?_⟩, s.nx, fun i hi => ?_, s.keepo⟩
  · show (w.heap.push O)[r]? = _
    rw [hold r (by omega)]; exact s.unch r hr hno
  · refine s.img j o r hj ?_ hr
    have : j ≠ id := fun e => by
      obtain ⟨q, h1⟩ := h.live hj
      rw [e, hn] at h1; cases h1
    simpa [Emb.add, this] using hjr
  · have : i ≠ id := by omega
    simp only [Emb.add, if_neg this]; exact s.keep i hi

/-- A block that has been made is laid. -/
theorem HR.relay (h : HR comp W μ H w) {id r : Nat} {ob : AObj} {O : Obj} (hid : id < H.next) (hf : H.objs.get id = none) (hr : μ.blk id = some r) (hO : w.heap[r]? = some O) (hor : OR comp μ id ob O) (hl : ∀ l, ob.line = some l → l = id)
    (hno : ∀ j o, H.get j = some o → μ.blk j ≠ some r) : HR comp W μ (H.lay id ob) w := by
  have hfree : ∀ j c t l, H.objs.get j = some (.cells c t (some l)) → l ≠ id := by
    intro j c t l hj e
    have := h.wf.root j c t l hj
    rw [e, hf] at this; cases this
  have hget : ∀ j, j ≠ id → (H.lay id ob).get j = H.get j := fun j hj => Heap.get_lay_other hl hj (hfree j)
  have hself : (H.lay id ob).get id = some ob := Heap.get_lay_self hl
  have hnext : (H.lay id ob).next = H.next := by unfold Heap.lay; split <;> rfl
  refine ⟨h.os, h.tape, h.output, h.size, h.old, h.dom, by rw [hnext]; exact h.fresh, ?_, ?_, ?_, ?_, ?_, h.wf.lay hid hl⟩
  · intro j o' hj
    by_cases e : j = id
    · subst e
      rw [hself] at hj; cases hj
      exact ⟨r, O, hr, hO, hor⟩
    · rw [hget j e] at hj; exact h.obj j o' hj
  · intro i j q oi oj hi hj hri hrj hne
    by_cases ei : i = id
    · subst ei
      rw [hr] at hri; cases hri
      rw [hget j (fun e => hne e.symm)] at hj
      exact absurd hrj (hno j oj hj)
    · by_cases ej : j = id
      · subst ej
        rw [hr] at hrj; cases hrj
        rw [hget i ei] at hi
        exact absurd hri (hno i oi hi)
      · rw [hget i ei] at hi
        rw [hget j ej] at hj
        exact h.inj i j q oi oj hi hj hri hrj hne
  · intro j o' l hj hlj
    by_cases e : j = id
    · subst e
      rw [hself] at hj; cases hj
      have := hl l hlj
      subst this
      refine ⟨l, l, ?_, Nat.le_refl _⟩
      cases ob <;> simp [AObj.line] at hlj
      subst hlj
      simp [Heap.lay, Tr.get_set]
    · rw [hget j e] at hj
      obtain ⟨fl, tp, h1, h2⟩ := h.tip j o' l hj hlj
      refine ⟨fl, tp, ?_, h2⟩
      have hob := Heap.get_of_objs hj
      have hne : l ≠ id := by
        cases o' <;> simp [AObj.line] at hlj
        subst hlj
        exact hfree j _ _ _ hob
      rw [← h1]
      unfold Heap.lay
      split
      · rename_i c' t' l'
        have := hl l' rfl
        simp only [Tr.get_set]
        rw [if_neg (by omega)]
      · rfl
  · intro j c t l hj
    by_cases e : j = id
    · subst e
      have : ob = .cells c t (some l) := by
        have h1 : (H.lay j ob).objs.get j = some ob := by unfold Heap.lay; split <;> simp [Tr.get_set]
        rw [h1] at hj; cases hj; rfl
      have := hl l (by rw [this]; rfl)
      subst this
      rw [hr]; rfl
    · have h1 : (H.lay id ob).objs.get j = H.objs.get j := by unfold Heap.lay; split <;> simp [Tr.get_set, e]
      rw [h1] at hj
      exact h.root j c t l hj
  · intro j k cj tj ck tk l hj hk hjk
    have hline : ∀ m c t, (H.lay id ob).get m = some (.cells c t (some l)) → (m = id → l = id ∧ ob = .cells c t (some l)) ∧ (m ≠ id → H.get m = some (.cells c t (some l)) ∧ l ≠ id) := by
      intro m c t hm
      refine ⟨fun e => ?_, fun e => ?_⟩
      · subst e; rw [hself] at hm; cases hm; exact ⟨hl l rfl, rfl⟩
      · rw [hget m e] at hm; exact ⟨hm, hfree m c t l (Heap.get_of_objs hm)⟩
    by_cases ej : j = id
    · have h1 := (hline j cj tj hj).1 ej
      by_cases ek : k = id
      · have h2 := (hline k ck tk hk).1 ek
        have := h1.2.symm.trans h2.2
        cases this; exact Nat.le_refl _
      · exact absurd h1.1 ((hline k ck tk hk).2 ek).2
    · have h1 := (hline j cj tj hj).2 ej
      by_cases ek : k = id
      · exact absurd ((hline k ck tk hk).1 ek).1 h1.2
      · exact h.mono j k cj tj ck tk l h1.1 ((hline k ck tk hk).2 ek).1 hjk
theorem lay_objs {id j : Nat} {ob : AObj} (hj : j ≠ id) : (H.lay id ob).objs.get j = H.objs.get j := by unfold Heap.lay; split <;> simp [Tr.get_set, hj]
theorem lay_next {id : Nat} {ob : AObj} : (H.lay id ob).next = H.next := by unfold Heap.lay; split <;> rfl
theorem lay_get (h : HR comp W μ H w) {id : Nat} {ob : AObj} (hf : H.objs.get id = none) (hl : ∀ l, ob.line = some l → l = id) {j : Nat} {o : AObj} (hj : (H.lay id ob).get j = some o) : j = id ∨ H.get j = some o := by
  by_cases e : j = id
  · exact .inl e
  · rw [Heap.get_lay_other hl e (fun c t l hj e' => by have := h.wf.root j c t l hj; rw [e', hf] at this; cases this)] at hj
    exact .inr hj
theorem Step.relay (s : Step μ0 H0 w0 μ H w) (h : HR comp W μ H w) {id r : Nat} {ob : AObj} (hid : H0.next ≤ id) (hf : H.objs.get id = none) (hl : ∀ l, ob.line = some l → l = id) (hr : μ.blk id = some r) (hr0 : w0.heap.size ≤ r) : Step μ0 H0 w0 μ (H.lay id ob) w := by
  refine ⟨⟨s.le, s.size, s.unch, fun j o q hj hjq hq => ?_⟩, by rw [lay_next]; exact s.nx, s.keep, fun i hi ho => ?_⟩
  · rcases lay_get h hf hl hj with e | e
    · subst e; rw [hr] at hjq; cases hjq; omega
    · exact s.img j o q e hjq hq
  · rw [lay_objs (by omega)]; exact s.keepo i hi ho
end Go.Proofs.YtjfnhdiimibmiaaDoor.Sx

/- Our own order of a region, and the machine's orders. -/
namespace Go.Proofs.YtjfnhdiimibmiaaDoor.Sx
variable {P : Program} {W : World} {E : Env} {ex : Ex}

theorem runD_trace {base : Nat} : ∀ {l : List DOp} {p0 : Nat} {s s' : List (Nat × Heap) × Tm × Heap}, runD W E ex base p0 l s = some s' →
    ∃ st : Nat → List (Nat × Heap) × Tm × Heap, st 0 = s ∧ st l.length = s' ∧ ∀ p d, l[p]? = some d → stD W E ex base (p0 + p) d (st p) = some (st (p + 1)) := by
  intro l
  induction l with
  | nil => intro p0 s s' h; cases h; exact ⟨fun _ => s, rfl, rfl, fun p d hd => by simp at hd⟩
  | cons d r ih =>
    intro p0 s s' h
    simp only [runD] at h
    split at h
    · rename_i s1 h1
      obtain ⟨st, q1, q2, q3⟩ := ih h
      refine ⟨fun | 0 => s | p + 1 => st p, rfl, q2, fun p e he => ?_⟩
      cases p with
      | zero => simp at he; subst he; show stD W E ex base (p0 + 0) d s = some (st 0); rw [q1]; exact h1
      | succ p =>
        simp at he
        have := q3 p e he
        rw [show p0 + 1 + p = p0 + (p + 1) from by omega] at this
        exact this
    · cases h

/-- What the check of our order says. -/
structure Ok (ops : Array Oper) (so : List SOp) (b : Array Nat) (l : List Nat) : Prop where
  len : so.length = ops.size
  olen : l.length = ops.size
  ord : ∀ p, p < ops.size → l.getD p ops.size < ops.size ∧ l.idxOf (l.getD p ops.size) = p
  pos : ∀ i, i < ops.size → l.idxOf i < ops.size ∧ l.getD (l.idxOf i) ops.size = i
  text : ∀ (i : Nat) (o : Oper), ops[i]? = some o → ∀ e ∈ o.after.toList, Region.binds .text e = true → e.on < i
  gc : ∀ (i : Nat) (o : Oper), ops[i]? = some o → ∀ e ∈ o.after.toList, Region.binds .gc e = true → e.on < ops.size ∧ (Region.linearise .gc ops 0).idxOf e.on < (Region.linearise .gc ops 0).idxOf i
  bit : ∀ (i j : Nat) (o : Oper), ops[i]? = some o → j < ops.size → hasBit b i j = true → l.idxOf j < l.idxOf i ∧ ∃ e ∈ o.after.toList, Region.binds .any e = true ∧ (e.on = j ∨ hasBit b e.on j = true)
  chain : ∀ i j, i < ops.size → j < ops.size → i ≠ j → isDeed (so.getD i default).k = true → isDeed (so.getD j default).k = true → hasBit b i j = true ∨ hasBit b j i = true
  late : ∀ i j, i < ops.size → j < ops.size → isDeed (so.getD i default).k = true → isDeed (so.getD j default).k = false → l.idxOf j < l.idxOf i → hasBit b i j = true
  once : ∀ i j t, i < ops.size → j < ops.size → (so.getD i default).dst = some t → (so.getD j default).dst = some t → i = j

theorem okD_spec {ops : Array Oper} {so : List SOp} {b : Array Nat} {l : List Nat} (h : okD ops so b l = true) : Ok ops so b l := by
  simp only [okD, Bool.and_eq_true] at h
  obtain ⟨⟨⟨h1, h2⟩, h3⟩, h4⟩ := h
  have hl := fun i hi => List.all_eq_true.1 h4 i (List.mem_range.2 hi)
  have hlt : ∀ i (o : Oper), ops[i]? = some o → i < ops.size := fun i o ho => (Array.getElem?_eq_some_iff.1 ho).1
  have hi2 : ∀ i (o : Oper), ops[i]? = some o → (o.after.toList.all (fun e => (!Region.binds .text e || decide (e.on < i)) && (!Region.binds .gc e || (decide (e.on < ops.size) && decide ((Region.linearise .gc ops 0).idxOf e.on < (Region.linearise .gc ops 0).idxOf i)))) = true ∧
      ∀ j, j < ops.size → (!hasBit b i j || (decide (l.idxOf j < l.idxOf i) && o.after.toList.any (fun e => Region.binds .any e && (e.on == j || hasBit b e.on j)))) = true ∧
        (i == j || !isDeed (so.getD i default).k || !isDeed (so.getD j default).k || hasBit b i j || hasBit b j i) = true ∧
        (!isDeed (so.getD i default).k || isDeed (so.getD j default).k || decide (l.idxOf i ≤ l.idxOf j) || hasBit b i j) = true ∧
        (i == j || (match (so.getD i default).dst, (so.getD j default).dst with | some s, some t => s != t | _, _ => true)) = true) := by
    intro i o ho
    have h5 := (hl i (hlt i o ho))
    rw [Bool.and_eq_true] at h5
    have h6 := h5.2
    rw [ho] at h6
    simp only [Bool.and_eq_true] at h6
    refine ⟨by simpa only [Bool.and_eq_true] using h6.1, fun j hj => ?_⟩
    have := List.all_eq_true.1 h6.2 j (List.mem_range.2 hj)
    simp only [Bool.and_eq_true] at this
    obtain ⟨⟨⟨a1, a2⟩, a3⟩, a4⟩ := this
    exact ⟨by simpa only [Bool.and_eq_true] using a1, a2, a3, a4⟩
  have hops : ∀ i, i < ops.size → ∃ o, ops[i]? = some o := fun i hi => ⟨_, Array.getElem?_eq_getElem hi⟩
  refine ⟨by simpa using h1, by simpa using h2, fun p hp => ?_, fun i hi => ?_, fun i o ho e he hb => ?_, fun i o ho e he hb => ?_, fun i j o ho hj hb => ?_, fun i j hi hj hne d1 d2 => ?_, fun i j hi hj d1 d2 hp => ?_, fun i j t hi hj s1 s2 => ?_⟩
  · have := List.all_eq_true.1 h3 p (List.mem_range.2 hp)
    simpa only [Bool.and_eq_true, decide_eq_true_eq, beq_iff_eq] using this
  · have := hl i hi
    simp only [Bool.and_eq_true, decide_eq_true_eq, beq_iff_eq] at this
    exact this.1
  · have := List.all_eq_true.1 (hi2 i o ho).1 e he
    simp only [Bool.and_eq_true, hb, Bool.not_true, Bool.false_or, decide_eq_true_eq] at this
    exact this.1
  · have := List.all_eq_true.1 (hi2 i o ho).1 e he
    simp only [Bool.and_eq_true, hb, Bool.not_true, Bool.false_or, decide_eq_true_eq] at this
    exact this.2
  · have := ((hi2 i o ho).2 j hj).1
    simp only [hb, Bool.not_true, Bool.false_or, Bool.and_eq_true, decide_eq_true_eq] at this
    refine ⟨this.1, ?_⟩
    obtain ⟨e, he, h7⟩ := List.any_eq_true.1 this.2
    simp only [Bool.and_eq_true, Bool.or_eq_true, beq_iff_eq] at h7
    exact ⟨e, he, h7⟩
  · obtain ⟨o, ho⟩ := hops i hi
    have := ((hi2 i o ho).2 j hj).2.1
    simp only [d1, d2, Bool.not_true, Bool.or_false, Bool.or_eq_true, beq_iff_eq] at this
    rcases this with (e | e) | e
    · exact absurd e hne
    · exact .inl e
    · exact .inr e
  · obtain ⟨o, ho⟩ := hops i hi
    have := ((hi2 i o ho).2 j hj).2.2.1
    simp only [d1, d2, Bool.not_true, Bool.false_or, Bool.or_eq_true, decide_eq_true_eq] at this
    rcases this with e | e
    · omega
    · exact e
  · obtain ⟨o, ho⟩ := hops i hi
    have := ((hi2 i o ho).2 j hj).2.2.2
    simp only [s1, s2, Bool.or_eq_true, beq_iff_eq, bne_iff_ne] at this
    rcases this with e | e
    · exact e
    · exact absurd rfl e

/-! ### The machine's orders -/
/-- What stands ahead of an operation is listed. -/
def Closed (md : Region.Mode) (ops : Array Oper) (D : Array Bool) : Prop :=
  ∀ (i : Nat) (o : Oper), ops[i]? = some o → D.getD i false = true → ∀ e ∈ o.after.toList, Region.binds md e = true → D.getD e.on false = true

theorem binds_any {md : Region.Mode} {e : Edge} (h : Region.binds .any e = true) : Region.binds md e = true := by
  cases hg : e.ground <;> simp [Region.binds, hg] at h ⊢

theorem schedule_eq (ops : Array Oper) (mixed : Bool) (t : Nat) : ∃ md t', Region.schedule mixed ops t = Region.linearise md ops t' := by
  unfold Region.schedule
  split
  · exact ⟨.any, t, rfl⟩
  · exact ⟨_, _, rfl⟩

theorem mem_ready {md : Region.Mode} {ops : Array Oper} {D : Array Bool} {i : Nat} : i ∈ Region.ready md ops D ↔ ∃ o, ops[i]? = some o ∧ D.getD i true = false ∧ ∀ e ∈ o.after.toList, Region.binds md e = true → D.getD e.on false = true := by
  unfold Region.ready
  simp only [List.mem_filter, List.mem_range, Bool.and_eq_true, Bool.not_eq_true']
  constructor
  · rintro ⟨hi, h1, h2⟩
    refine ⟨_, Array.getElem?_eq_getElem hi, h1, fun e he hb => ?_⟩
    rw [Array.getElem?_eq_getElem hi] at h2
    simp only [Option.map_some, Option.getD_some] at h2
    rw [← Array.all_toList] at h2
    have := List.all_eq_true.1 h2 e he
    simpa [hb] using this
  · rintro ⟨o, ho, h1, h2⟩
    refine ⟨(Array.getElem?_eq_some_iff.1 ho).1, h1, ?_⟩
    rw [ho]
    simp only [Option.map_some, Option.getD_some]
    rw [← Array.all_toList]
    refine List.all_eq_true.2 fun e he => ?_
    cases hb : Region.binds md e with
    | false => rfl
    | true => simpa using h2 e he hb

/-- Whoever can wait for none goes on: if not all are listed, one is ready. -/
theorem ready_ne {md : Region.Mode} {ops : Array Oper} {D : Array Bool} (hsz : D.size = ops.size) (rk : Nat → Nat) (hrk : ∀ (i : Nat) (o : Oper), ops[i]? = some o → ∀ e ∈ o.after.toList, Region.binds md e = true → e.on < ops.size ∧ rk e.on < rk i)
    (h : Region.ready md ops D = []) : ∀ i, i < ops.size → D.getD i false = true := by
  have key : ∀ m i, rk i < m → i < ops.size → D.getD i false = true := by
    intro m
    induction m with
    | zero => intro i hi; omega
    | succ m ih =>
      intro i hm hi
      cases hD : D.getD i false with
      | true => rfl
      | false =>
        exfalso
        have : i ∈ Region.ready md ops D := by
          refine mem_ready.2 ⟨_, Array.getElem?_eq_getElem hi, ?_, fun e he hb => ?_⟩
          · have hs : i < D.size := by omega
            simp only [Array.getD_eq_getD_getElem?, Array.getElem?_eq_getElem hs, Option.getD_some] at hD ⊢
            exact hD
          · obtain ⟨h1, h2⟩ := hrk i _ (Array.getElem?_eq_getElem hi) e he hb
            exact ih e.on (by omega) h1
        rw [h] at this
        cases this
  exact fun i hi => key (rk i + 1) i (by omega) hi

theorem filter_lt {α : Type} {p q : α → Bool} (h : ∀ x, q x = true → p x = true) : ∀ {l : List α} {x : α}, x ∈ l → p x = true → q x = false → (l.filter q).length < (l.filter p).length := by
  have hle : ∀ l : List α, (l.filter q).length ≤ (l.filter p).length := by
    intro l
    induction l with
    | nil => exact Nat.le_refl _
    | cons y l ih =>
      simp only [List.filter_cons]
      cases hq : q y with
      | true => simp [h y hq]; exact ih
      | false =>
        split
        · contradiction
        · split
          · simp; omega
          · exact ih
  intro l
  induction l with
  | nil => intro x hx; cases hx
  | cons y l ih =>
    intro x hx hp hq
    simp only [List.filter_cons]
    rcases List.mem_cons.1 hx with e | hx
    · subst e
      have := hle l
      simp [hp, hq]; omega
    · have := ih hx hp hq
      cases hqy : q y with
      | true => simp [h y hqy]; exact this
      | false =>
        split
        · contradiction
        · split
          · simp; omega
          · exact this
end Go.Proofs.YtjfnhdiimibmiaaDoor.Sx

/- A region that draws its order comes, in each order, to what our own order comes to. -/
namespace Go.Proofs.YtjfnhdiimibmiaaDoor.Sx
variable {P : Program} {W : World} {E : Env} {ex : Ex}

theorem hide_get {A : Tm} : ∀ {m : List Nat} {t : Nat}, (hide A m).get t = if t ∈ m then none else A.get t := by
  intro m
  induction m generalizing A with
  | nil => intro t; simp [hide]
  | cons x m ih =>
    intro t
    rw [hide, ih, Tr.get_put]
    by_cases h1 : t ∈ m
    · simp [h1]
    · by_cases h2 : t = x
      · simp [h2]
      · simp [h1, h2]

theorem getD_set {D : Array Bool} {i j : Nat} (hi : i < D.size) : (D.setIfInBounds i true).getD j false = if j = i then true else D.getD j false := by
  simp only [Array.getD_eq_getD_getElem?, Array.getElem?_setIfInBounds]
  by_cases e : i = j
  · subst e; simp [hi]
  · rw [if_neg e, if_neg (fun h => e h.symm)]

theorem bits_closed {md : Region.Mode} {ops : Array Oper} {so : List SOp} {b : Array Nat} {l : List Nat} (ok : Ok ops so b l) {D : Array Bool} (hcl : Closed md ops D) : ∀ (m i : Nat) (o : Oper), i < m → ops[i]? = some o → (∀ e ∈ o.after.toList, Region.binds md e = true → D.getD e.on false = true) →
    ∀ j, j < ops.size → hasBit b i j = true → D.getD j false = true := by
  intro m
  induction m with
  | zero => intro i o hi; omega
  | succ m ih =>
    intro i o him ho he j hj hb
    obtain ⟨_, e, he1, he2, he3⟩ := ok.bit i j o ho hj hb
    have hD := he e he1 (binds_any he2)
    have hlt := ok.text i o ho e he1 (binds_any he2)
    rcases he3 with h | h
    · rw [← h]; exact hD
    · have hin : i < ops.size := (Array.getElem?_eq_some_iff.1 ho).1
      have hoe : ops[e.on]? = some ops[e.on] := Array.getElem?_eq_getElem (by omega)
      exact ih e.on _ (by omega) hoe (hcl e.on _ hoe hD) j hj h

/-! ### What a place of our own order does -/
section
variable {base p : Nat} {d : DOp} {s s' : List (Nat × Heap) × Tm × Heap}
theorem stD_put (h : stD W E ex base p d s = some s') : ∃ v, s'.2.1 = putT s.2.1 d.op.dst v := by
  unfold stD at h
  dsimp only at h
  split at h
  · cases h
  · cases h; exact ⟨_, rfl⟩
  · split at h
    · split at h <;> cases h; exact ⟨_, rfl⟩
    · split at h
      · split at h
        · split at h <;> cases h; exact ⟨_, rfl⟩
        · cases h
      · cases h
    · split at h <;> cases h; exact ⟨_, rfl⟩
    · split at h <;> cases h; exact ⟨_, rfl⟩
theorem stD_snaps (h : stD W E ex base p d s = some s') : (∀ x ∈ s.1, x ∈ s'.1) ∧ (isDeed d.op.k = true → (p + 1, s'.2.2) ∈ s'.1) := by
  unfold stD at h
  dsimp only at h
  split at h
  · cases h
  · cases h
    refine ⟨fun x hx => ?_, fun hd => by simp [hd]⟩
    split
    · exact List.mem_cons_of_mem _ hx
    · exact hx
  · split at h
    · rename_i hk
      split at h <;> cases h
      exact ⟨fun x hx => hx, fun hd => by rw [hk] at hd; cases hd⟩
    · rename_i hk
      split at h
      · split at h
        · split at h <;> cases h
          exact ⟨fun x hx => hx, fun hd => by rw [hk] at hd; cases hd⟩
        · cases h
      · cases h
    · rename_i hk
      split at h <;> cases h
      exact ⟨fun x hx => hx, fun hd => by rw [hk] at hd; cases hd⟩
    · split at h <;> cases h
      exact ⟨fun x hx => List.mem_cons_of_mem _ hx, fun _ => by simp⟩
end

/-! ### The setting -/
structure Env0 (P : Program) (W : World) (E : Env) (ex : Ex) where
  ops : Array Oper
  so : List SOp
  b : Array Nat
  l : List Nat
  base : Nat
  nt : Nat
  st : Nat → List (Nat × Heap) × Tm × Heap
  μ0 : Emb
  H0 : Heap
  w0 : World
  a0 : Act
  ok : Ok ops so b l
  comp : ∀ i, i < ops.size → ∃ o, ops[i]? = some o ∧ compOp P nt ops o = some (so.getD i default)
  run : ∀ i, i < ops.size → stD W E ex base (l.idxOf i) (dopOf so b l i) (st (l.idxOf i)) = some (st (l.idxOf i + 1))
  hs0 : (0, (st 0).2.2) ∈ (st 0).1
  hb : H0.next ≤ base
namespace Env0
variable (X : Env0 P W E ex)
def pos (i : Nat) : Nat := X.l.idxOf i
def S (i : Nat) : SOp := X.so.getD i default
def deed (i : Nat) : Bool := isDeed (X.S i).k
def A (i : Nat) : Tm := hide (X.st (X.pos i)).2.1 (dopOf X.so X.b X.l i).mask
def laid (i : Nat) (ob : AObj) : Prop := ∃ ak v, (X.S i).k = .a ak ∧ wantedS (X.A i) (X.S i).guard = some true ∧ evA (X.A i) (X.base + i) ak = some (ob, v)
def H (p : Nat) : Heap := (X.st p).2.2

structure HInv (D : Array Bool) (p : Nat) (μ : Emb) (w : World) : Prop where
  hr : HRP P W μ (X.H p) w
  stp : Step X.μ0 X.H0 X.w0 μ (X.H p) w
  pend : ∀ i ob, i < X.ops.size → D.getD i false = true → p ≤ X.pos i → X.laid i ob → ∃ r O, μ.blk (X.base + i) = some r ∧ X.w0.heap.size ≤ r ∧ w.heap[r]? = some O ∧ OR (fun nt c => compC P nt c) μ (X.base + i) ob O ∧ (∀ l, ob.line = some l → l = X.base + i) ∧
    (∀ j o, (X.H p).get j = some o → μ.blk j ≠ some r) ∧ (∀ j ob', j < X.ops.size → D.getD j false = true → p ≤ X.pos j → X.laid j ob' → j ≠ i → μ.blk (X.base + j) ≠ some r)
  ofree : ∀ i, i < X.ops.size → p ≤ X.pos i → (X.H p).objs.get (X.base + i) = none
  nxt : X.base + X.ops.size ≤ (X.H p).next
structure Inv (D : Array Bool) (q : Nat) (μ : Emb) (w : World) (a : Act) : Prop where
  h : X.HInv D q μ w
  q0 : q = 0 ∨ ∃ e, e < X.ops.size ∧ D.getD e false = true ∧ X.deed e = true ∧ q = X.pos e + 1
  q1 : ∀ e, e < X.ops.size → D.getD e false = true → X.deed e = true → X.pos e < q
  t1 : ∀ j t v, j < X.ops.size → D.getD j false = true → (X.S j).dst = some t → (X.st (X.pos j + 1)).2.1.get t = some v → ∃ v', a.tmps[t]? = some v' ∧ VR μ v v'
  t2 : ∀ t v, (∀ j, j < X.ops.size → D.getD j false = true → (X.S j).dst ≠ some t) → (X.st 0).2.1.get t = some v → ∃ v', a.tmps[t]? = some v' ∧ VR μ v v'
  size : a.tmps.size = X.nt
  df : a.defers = X.a0.defers
  free : ∀ i, i < X.ops.size → D.getD i false = false → μ.blk (X.base + i) = none

variable {X}
theorem pos_lt {i : Nat} (h : i < X.ops.size) : X.pos i < X.ops.size := (X.ok.pos i h).1
theorem at_pos {p : Nat} (h : p < X.ops.size) : ∃ i, i < X.ops.size ∧ X.pos i = p := ⟨_, (X.ok.ord p h).1, (X.ok.ord p h).2⟩
theorem pos_inj {i j : Nat} (hi : i < X.ops.size) (hj : j < X.ops.size) (h : X.pos i = X.pos j) : i = j := by
  have h1 := (X.ok.pos i hi).2
  have h2 := (X.ok.pos j hj).2
  unfold pos at h
  rw [h] at h1
  exact h1.symm.trans h2

/-- A slot is as it was where none has written it. -/
theorem slot {t p : Nat} : ∀ {p' : Nat}, p ≤ p' → p' ≤ X.ops.size → (∀ i, i < X.ops.size → p ≤ X.pos i → X.pos i < p' → (X.S i).dst ≠ some t) → (X.st p').2.1.get t = (X.st p).2.1.get t := by
  intro p'
  induction p' with
  | zero => intro h _ _; rw [show p = 0 from by omega]
  | succ p' ih =>
    intro h hn hno
    by_cases e : p = p' + 1
    · rw [e]
    · obtain ⟨i, hi, hp⟩ := X.at_pos (p := p') (by omega)
      obtain ⟨v, hv⟩ := stD_put (X.run i hi)
      have hp' : X.l.idxOf i = p' := hp
      rw [hp'] at hv
      rw [hv, ← ih (by omega) (by omega) (fun j hj h1 h2 => hno j hj h1 (by omega))]
      have hd : (X.S i).dst ≠ some t := hno i hi (by omega) (by omega)
      have hd' : (dopOf X.so X.b X.l i).op.dst = (X.S i).dst := rfl
      rw [hd']
      cases hdd : (X.S i).dst with
      | none => rfl
      | some x =>
        simp only [putT, Tr.get_set]
        rw [if_neg (fun e => hd (by rw [hdd, e]))]
/-- What stood in memory is kept. -/
theorem snap {q : Nat} (h0 : q = 0 ∨ ∃ e, e < X.ops.size ∧ X.deed e = true ∧ q = X.pos e + 1) : ∀ {p : Nat}, q ≤ p → p ≤ X.ops.size → (q, X.H q) ∈ (X.st p).1 := by
  intro p
  induction p with
  | zero =>
    intro h _
    have : q = 0 := by omega
    subst this; exact X.hs0
  | succ p ih =>
    intro h hn
    obtain ⟨i, hi, hp⟩ := X.at_pos (p := p) (by omega)
    have hp' : X.l.idxOf i = p := hp
    have hrun := X.run i hi
    rw [hp'] at hrun
    obtain ⟨h1, h2⟩ := stD_snaps hrun
    by_cases e : q = p + 1
    · rcases h0 with h0 | ⟨e', he1, he2, he3⟩
      · omega
      · have : i = e' := X.pos_inj hi he1 (by rw [hp]; omega)
        subst this
        rw [e]
        exact h2 he2
    · exact h1 _ (ih (by omega) (by omega))
/-- A place that is no deed lays a block, or leaves memory alone. -/
theorem quiet {i : Nat} (hi : i < X.ops.size) (hd : X.deed i = false) : (∃ ob, X.laid i ob ∧ X.H (X.pos i + 1) = (X.H (X.pos i)).lay (X.base + i) ob) ∨ ((∀ ob, ¬ X.laid i ob) ∧ X.H (X.pos i + 1) = X.H (X.pos i)) := by
  have h := X.run i hi
  have hA : hide (X.st (X.l.idxOf i)).2.1 (dopOf X.so X.b X.l i).mask = X.A i := rfl
  have hS : (dopOf X.so X.b X.l i).op = X.S i := rfl
  have hnum : (dopOf X.so X.b X.l i).num = i := rfl
  unfold stD at h
  dsimp only at h
  rw [hA, hS, hnum] at h
  unfold deed at hd
  split at h
  · cases h
  · rename_i hg
    refine .inr ⟨fun ob hl => ?_, ?_⟩
    · obtain ⟨ak, v, _, h2, _⟩ := hl
      rw [hg] at h2; cases h2
    · injection h with h
      unfold H pos
      rw [← h]
  · rename_i hg
    split at h
    · rename_i hk
      split at h
      · injection h with h
        refine .inr ⟨fun ob hl => ?_, by unfold H pos; rw [← h]⟩
        obtain ⟨ak, v, h2, _⟩ := hl
        rw [hk] at h2; cases h2
      · cases h
    · rename_i hk
      split at h
      · split at h
        · split at h
          · injection h with h
            refine .inr ⟨fun ob hl => ?_, by unfold H pos; rw [← h]⟩
            obtain ⟨ak, v, h2, _⟩ := hl
            rw [hk] at h2; cases h2
          · cases h
        · cases h
      · cases h
    · rename_i ak hk
      split at h
      · rename_i ob v hv
        injection h with h
        exact .inl ⟨ob, ⟨ak, v, hk, hg, hv⟩, by unfold H pos; rw [← h]⟩
      · cases h
    · rename_i hk
      rw [hk] at hd; cases hd

/-- Memory, a place further. -/
theorem HInv.next {D : Array Bool} {p : Nat} {μ : Emb} {w : World} (h : X.HInv D p μ w) {i : Nat} (hi : i < X.ops.size) (hp : X.pos i = p) (hD : D.getD i false = true) (hd : X.deed i = false) : X.HInv D (p + 1) μ w := by
  rcases X.quiet hi hd with ⟨ob, hl, hH⟩ | ⟨hno, hH⟩
  · rw [hp] at hH
    obtain ⟨r, O, p1, p2, p3, p4, p5, p6, p7⟩ := h.pend i ob hi hD (by omega) hl
    have hf := h.ofree i hi (by omega)
    have hlt : X.base + i < (X.H p).next := by have := h.nxt; omega
    refine ⟨?_, ?_, fun i' ob' hi' hD' hp' hl' => ?_, fun i' hi' hp' => ?_, ?_⟩
    · rw [hH]; exact h.hr.relay hlt hf p1 p3 p4 p5 p6
    · rw [hH]; exact h.stp.relay h.hr (by have := X.hb; omega) hf p5 p1 p2
    · have hne : i' ≠ i := fun e => by rw [e] at hp'; omega
      obtain ⟨r', O', q1, q2, q3, q4, q5, q6, q7⟩ := h.pend i' ob' hi' hD' (by omega) hl'
      refine ⟨r', O', q1, q2, q3, q4, q5, fun j o hj => ?_, fun j ob2 hj hDj hpj hlj hne2 => q7 j ob2 hj hDj (by omega) hlj hne2⟩
      rw [hH] at hj
      rcases lay_get h.hr hf p5 hj with e | e
      · rw [e]; exact q7 i ob hi hD (by omega) hl (fun e => hne e.symm)
      · exact q6 j o e
    · have hne : i' ≠ i := fun e => by rw [e] at hp'; omega
      rw [hH, lay_objs (by omega)]
      exact h.ofree i' hi' (by omega)
    · rw [hH, lay_next]; exact h.nxt
  · rw [hp] at hH
    refine ⟨by rw [hH]; exact h.hr, by rw [hH]; exact h.stp, fun i' ob' hi' hD' hp' hl' => ?_, fun i' hi' hp' => ?_, by rw [hH]; exact h.nxt⟩
    · obtain ⟨r', O', q1, q2, q3, q4, q5, q6, q7⟩ := h.pend i' ob' hi' hD' (by omega) hl'
      exact ⟨r', O', q1, q2, q3, q4, q5, by rw [hH]; exact q6, fun j ob2 hj hDj hpj hlj hne2 => q7 j ob2 hj hDj (by omega) hlj hne2⟩
    · rw [hH]; exact h.ofree i' hi' (by omega)
theorem HInv.upto {D : Array Bool} {q : Nat} {μ : Emb} {w : World} (h : X.HInv D q μ w) : ∀ {p : Nat}, q ≤ p → p ≤ X.ops.size → (∀ i, i < X.ops.size → q ≤ X.pos i → X.pos i < p → D.getD i false = true ∧ X.deed i = false) → X.HInv D p μ w := by
  intro p
  induction p with
  | zero => intro hq _ _; have : q = 0 := by omega
            subst this; exact h
  | succ p ih =>
    intro hq hn hall
    by_cases e : q = p + 1
    · rw [← e]; exact h
    · obtain ⟨i, hi, hp⟩ := X.at_pos (p := p) (by omega)
      obtain ⟨h1, h2⟩ := hall i hi (by omega) (by omega)
      exact (ih (by omega) (by omega) (fun j hj a1 a2 => hall j hj a1 (by omega))).next hi hp h1 h2
end Env0
end Go.Proofs.YtjfnhdiimibmiaaDoor.Sx

/- A region that draws its order: a place further; all places. -/
namespace Go.Proofs.YtjfnhdiimibmiaaDoor.Sx
variable {P : Program} {W : World} {E : Env} {ex : Ex}

theorem foldl_max {f : Nat → Bool} {g : Nat → Nat} {q : Nat} : ∀ {l : List Nat} {m : Nat}, m ≤ q → (∀ j ∈ l, f j = true → g j ≤ q) → l.foldl (fun m j => if f j then Nat.max m (g j) else m) m ≤ q := by
  intro l
  induction l with
  | nil => intro m hm _; exact hm
  | cons j l ih =>
    intro m hm h
    rw [List.foldl_cons]
    refine ih ?_ (fun x hx => h x (by simp [hx]))
    split
    · rename_i hf
      exact Nat.max_le.2 ⟨hm, h j (by simp) hf⟩
    · exact hm

namespace Env0
variable {X : Env0 P W E ex} {D : Array Bool} {q : Nat} {μ : Emb} {w : World} {a : Act}

theorem slots_ok (v : X.Inv D q μ w a) {i : Nat} (hi : i < X.ops.size) (hD : D.getD i false = false) (hpre : ∀ j, j < X.ops.size → hasBit X.b i j = true → D.getD j false = true)
    (hdn : ∀ i' j, i' < X.ops.size → j < X.ops.size → D.getD i' false = true → hasBit X.b i' j = true → D.getD j false = true) : TmR μ (X.A i) a.tmps := by
  intro t u ht
  unfold A at ht
  rw [hide_get] at ht
  split at ht
  · cases ht
  · rename_i hm
    have hpi := X.pos_lt hi
    have back : (∀ j, j < X.ops.size → (X.S j).dst = some t → X.pos i ≤ X.pos j) → (∀ j, j < X.ops.size → D.getD j false = true → (X.S j).dst ≠ some t) → ∃ v', a.tmps[t]? = some v' ∧ VR μ u v' := by
      intro h1 h2
      refine v.t2 t u h2 ?_
      rw [← ht]
      exact (X.slot (p := 0) (by omega) (by omega) (fun j hj _ hlt hd => by have := h1 j hj hd; omega)).symm
    by_cases hex : ∃ j, j < X.ops.size ∧ (X.S j).dst = some t
    · obtain ⟨j, hj, hjd⟩ := hex
      have uniq : ∀ j', j' < X.ops.size → (X.S j').dst = some t → j' = j := fun j' hj' hd => X.ok.once j' j t hj' hj hd hjd
      by_cases e : j = i
      · subst e
        exact back (fun j' hj' hd => by rw [uniq j' hj' hd]; exact Nat.le_refl _) (fun j' hj' hDj hd => by rw [uniq j' hj' hd, hD] at hDj; cases hDj)
      · have hb : hasBit X.b i j = true ∨ hasBit X.b j i = true := by
          cases h1 : hasBit X.b i j with
          | true => exact .inl rfl
          | false =>
            cases h2 : hasBit X.b j i with
            | true => exact .inr rfl
            | false =>
              exfalso
              apply hm
              simp only [dopOf, List.mem_flatMap, List.mem_range]
              refine ⟨j, by rw [X.ok.len]; exact hj, ?_⟩
              have hne : (j != i) = true := by simpa using e
              have hjd' : (X.so.getD j default).dst = some t := hjd
              rw [hne, h1, h2, hjd']
              simp
        rcases hb with hb | hb
        · have hDj := hpre j hj hb
          obtain ⟨o, ho, _⟩ := X.comp i hi
          have hlt := (X.ok.bit i j o ho hj hb).1
          have hlt' : X.pos j < X.pos i := hlt
          refine v.t1 j t u hj hDj hjd ?_
          rw [← ht]
          refine (X.slot (p := X.pos j + 1) (by omega) (by omega) (fun j' hj' h1 h2 hd => ?_)).symm
          have := uniq j' hj' hd
          subst this
          omega
        · obtain ⟨o, ho, _⟩ := X.comp j hj
          have hlt := (X.ok.bit j i o ho hi hb).1
          have hlt' : X.pos i < X.pos j := hlt
          refine back (fun j' hj' hd => by rw [uniq j' hj' hd]; omega) (fun j' hj' hDj hd => ?_)
          rw [uniq j' hj' hd] at hDj
          have := hdn j i hj hi hDj hb
          rw [hD] at this; cases this
    · exact back (fun j hj hd => absurd ⟨j, hj, hd⟩ hex) (fun j hj _ hd => hex ⟨j, hj, hd⟩)

theorem q_le (v : X.Inv D q μ w a) {i : Nat} (hi : i < X.ops.size) (hD : D.getD i false = false) (hdn : ∀ i' j, i' < X.ops.size → j < X.ops.size → D.getD i' false = true → hasBit X.b i' j = true → D.getD j false = true) : q ≤ X.pos i := by
  rcases v.q0 with h | ⟨e, he, hDe, hde, rfl⟩
  · omega
  · have hne : e ≠ i := fun h => by rw [h, hD] at hDe; cases hDe
    have hno : hasBit X.b e i ≠ true := fun h => by rw [hdn e i he hi hDe h] at hD; cases hD
    cases hd : X.deed i with
    | true =>
      rcases X.ok.chain e i he hi hne hde hd with h | h
      · exact absurd h hno
      · obtain ⟨o, ho, _⟩ := X.comp i hi
        exact (X.ok.bit i e o ho he h).1
    | false =>
      rcases Nat.lt_or_ge (X.pos i) (X.pos e + 1) with h | h
      · exfalso
        have : X.pos i ≠ X.pos e := fun h' => hne (X.pos_inj he hi h'.symm)
        exact hno (X.ok.late e i he hi hde hd (by unfold pos at *; omega))
      · exact h

/-- The slots, a place further. -/
theorem slots_put (v : X.Inv D q μ w a) {i : Nat} (hi : i < X.ops.size) (hDs : D.size = X.ops.size) {μ' : Emb} (hle : μ.le μ') {u : AV} {u' : Value} (hu : VR μ' u u') (hst : (X.st (X.pos i + 1)).2.1 = putT (X.st (X.pos i)).2.1 (X.S i).dst u) :
    (∀ j t v, j < X.ops.size → (D.setIfInBounds i true).getD j false = true → (X.S j).dst = some t → (X.st (X.pos j + 1)).2.1.get t = some v → ∃ v', (a.put (X.S i).dst u').tmps[t]? = some v' ∧ VR μ' v v') ∧
    (∀ t v, (∀ j, j < X.ops.size → (D.setIfInBounds i true).getD j false = true → (X.S j).dst ≠ some t) → (X.st 0).2.1.get t = some v → ∃ v', (a.put (X.S i).dst u').tmps[t]? = some v' ∧ VR μ' v v') := by
  have hset : ∀ j, (D.setIfInBounds i true).getD j false = if j = i then true else D.getD j false := fun j => getD_set (by omega)
  have hput : ∀ t, (X.S i).dst ≠ some t → (a.put (X.S i).dst u').tmps[t]? = a.tmps[t]? := by
    intro t ht
    cases hd : (X.S i).dst with
    | none => rfl
    | some d =>
      have : d ≠ t := fun e => ht (by rw [hd, e])
      simp [Act.put, Array.getElem?_setIfInBounds_ne this]
  refine ⟨fun j t x hj hDj hjd hx => ?_, fun t x hno hx => ?_⟩
  · rw [hset] at hDj
    by_cases e : j = i
    · subst e
      rw [hst, hjd] at hx
      simp only [putT, Tr.get_set, if_true, Option.some.injEq] at hx
      subst hx
      obtain ⟨o, ho, hc⟩ := X.comp j hj
      have hlt : t < X.nt := (compOp_k hc).2.2 t (by rw [← (compOp_k hc).2.1]; exact hjd)
      refine ⟨u', ?_, hu⟩
      rw [hjd]
      have hsz := v.size
      show (a.tmps.setIfInBounds t u')[t]? = some u'
      rw [Array.getElem?_setIfInBounds, if_pos rfl, if_pos (by omega)]
    · rw [if_neg e] at hDj
      obtain ⟨v', h1, h2⟩ := v.t1 j t x hj hDj hjd hx
      exact ⟨v', by rw [hput t (fun hd => e (X.ok.once j i t hj hi hjd hd))]; exact h1, h2.le hle⟩
  · obtain ⟨v', h1, h2⟩ := v.t2 t x (fun j hj hDj => hno j hj (by rw [hset]; split <;> first | rfl | exact hDj)) hx
    exact ⟨v', by rw [hput t (hno i hi (by rw [hset, if_pos rfl]))]; exact h1, h2.le hle⟩

/-- A place that lays nothing. -/
theorem HInv.mark (h : X.HInv D q μ w) {i : Nat} (hi : i < D.size) (hno : ∀ ob, ¬ X.laid i ob) : X.HInv (D.setIfInBounds i true) q μ w := by
  have hset : ∀ j, (D.setIfInBounds i true).getD j false = if j = i then true else D.getD j false := fun j => getD_set hi
  refine ⟨h.hr, h.stp, fun i' ob hi' hD' hp hl => ?_, h.ofree, h.nxt⟩
  rw [hset] at hD'
  by_cases e : i' = i
  · subst e; exact absurd hl (hno ob)
  · rw [if_neg e] at hD'
    obtain ⟨r, O, p1, p2, p3, p4, p5, p6, p7⟩ := h.pend i' ob hi' hD' hp hl
    refine ⟨r, O, p1, p2, p3, p4, p5, p6, fun j ob2 hj hDj hpj hlj hne => ?_⟩
    rw [hset] at hDj
    by_cases e2 : j = i
    · subst e2; exact absurd hlj (hno ob2)
    · rw [if_neg e2] at hDj; exact p7 j ob2 hj hDj hpj hlj hne
/-- A deed. -/
theorem HInv.deed {i : Nat} (h : X.HInv D (X.pos i) μ w) (hDs : i < D.size) {μ' : Emb} {w' : World} (hr : HRP P W μ' (X.H (X.pos i + 1)) w') (hs : Step μ (X.H (X.pos i)) w μ' (X.H (X.pos i + 1)) w') : X.HInv (D.setIfInBounds i true) (X.pos i + 1) μ' w' := by
  have hset : ∀ j, (D.setIfInBounds i true).getD j false = if j = i then true else D.getD j false := fun j => getD_set hDs
  have hnx := h.nxt
  refine ⟨hr, h.stp.trans hs, fun i' ob hi' hD' hp hl => ?_, fun i' hi' hp => ?_, by have := hs.nx; omega⟩
  · have hne : i' ≠ i := fun e => by rw [e] at hp; omega
    rw [hset, if_neg hne] at hD'
    obtain ⟨r, O, p1, p2, p3, p4, p5, p6, p7⟩ := h.pend i' ob hi' hD' (by omega) hl
    have hrl : r < w.heap.size := (Array.getElem?_eq_some_iff.1 p3).1
    refine ⟨r, O, (hs.le _ _ p1).1, p2, ?_, p4.le hs.le p1, p5, fun j o hj hjr => ?_, fun j ob2 hj hDj hpj hlj hne2 => ?_⟩
    · rw [hs.unch r hrl p6]; exact p3
    · obtain ⟨j', o', h1, h2⟩ := hs.img j o r hj hjr hrl
      exact p6 j' o' h1 h2
    · have hne3 : j ≠ i := fun e => by rw [e] at hpj; omega
      rw [hset, if_neg hne3] at hDj
      rw [hs.keep _ (by omega)]
      exact p7 j ob2 hj hDj (by omega) hlj hne2
  · exact hs.keepo _ (by omega) (h.ofree i' hi' (by omega))

/-- An operation whose turn it is. -/
theorem step_inv (hE : EnvOk P W E) (hex : Sound P W ex) (v : X.Inv D q μ w a) (hDs : D.size = X.ops.size) {i : Nat} (hi : i < X.ops.size) (hD : D.getD i false = false) (hpre : ∀ j, j < X.ops.size → hasBit X.b i j = true → D.getD j false = true)
    (hdn : ∀ i' j, i' < X.ops.size → j < X.ops.size → D.getD i' false = true → hasBit X.b i' j = true → D.getD j false = true) (fr : Frame) (k : List Item) (cs : List Frame) (rest : List Nat) :
    ∃ q' μ' w' a', Steps P (lone (fr.atR a (.inRegion X.ops (i :: rest) :: k)) cs w) (lone (fr.atR a' (.inRegion X.ops rest :: k)) cs w') ∧ X.Inv (D.setIfInBounds i true) q' μ' w' a' := by
  have hset : ∀ j, (D.setIfInBounds i true).getD j false = if j = i then true else D.getD j false := fun j => getD_set (by omega)
  have hA := slots_ok v hi hD hpre hdn
  have hql := q_le v hi hD hdn
  have hpl := X.pos_lt hi
  obtain ⟨o, ho, hc⟩ := X.comp i hi
  obtain ⟨hk, hdst, hlt⟩ := compOp_k hc
  have hdst' : (X.S i).dst = o.dst := hdst
  -- nothing but the slots, and who is listed
  have rest_ok : ∀ {μ' : Emb} {w' : World} {q' : Nat} {u : AV} {u' : Value}, μ.le μ' → VR μ' u u' → (X.st (X.pos i + 1)).2.1 = putT (X.st (X.pos i)).2.1 (X.S i).dst u → X.HInv (D.setIfInBounds i true) q' μ' w' →
      (q' = q ∧ X.deed i = false ∨ q' = X.pos i + 1 ∧ X.deed i = true) → (∀ j, j < X.ops.size → j ≠ i → μ'.blk (X.base + j) = μ.blk (X.base + j)) → X.Inv (D.setIfInBounds i true) q' μ' w' (a.put o.dst u') := by
    intro μ' w' q' u u' hle hu hst hh hq hkeep
    obtain ⟨t1, t2⟩ := slots_put v hi hDs hle hu hst
    rw [hdst'] at t1 t2
    refine ⟨hh, ?_, fun e he hDe hde => ?_, t1, t2, by rw [put_size]; exact v.size, by rw [put_defers]; exact v.df, fun j hj hDj => ?_⟩
    · rcases hq with ⟨rfl, _⟩ | ⟨rfl, hd⟩
      · rcases v.q0 with h | ⟨e, h1, h2, h3, h4⟩
        · exact .inl h
        · exact .inr ⟨e, h1, by rw [hset]; split <;> first | rfl | exact h2, h3, h4⟩
      · exact .inr ⟨i, hi, by rw [hset, if_pos rfl], hd, rfl⟩
    · rw [hset] at hDe
      rcases hq with ⟨rfl, hd⟩ | ⟨rfl, hd⟩
      · by_cases ee : e = i
        · subst ee; rw [hd] at hde; cases hde
        · rw [if_neg ee] at hDe; exact v.q1 e he hDe hde
      · by_cases ee : e = i
        · subst ee; omega
        · rw [if_neg ee] at hDe; have := v.q1 e he hDe hde; omega
    · rw [hset] at hDj
      by_cases ee : j = i
      · rw [if_pos ee] at hDj; cases hDj
      · rw [if_neg ee] at hDj
        rw [hkeep j hj ee]; exact v.free j hj hDj
  -- memory before a deed
  have before_deed : X.deed i = true → X.HInv D (X.pos i) μ w := by
    intro hd
    refine v.h.upto hql (by omega) fun j hj h1 h2 => ?_
    have hne : i ≠ j := fun e => by rw [e] at h2; omega
    cases hdj : X.deed j with
    | true =>
      exfalso
      rcases X.ok.chain i j hi hj hne hd hdj with h | h
      · have := v.q1 j hj (hpre j hj h) hdj; omega
      · obtain ⟨o2, ho2, _⟩ := X.comp j hj
        have : X.pos i < X.pos j := (X.ok.bit j i o2 ho2 hi h).1
        omega
    | false => exact ⟨hpre j hj (X.ok.late i j hi hj hd hdj h2), rfl⟩
  have hrun := X.run i hi
  have hA' : hide (X.st (X.l.idxOf i)).2.1 (dopOf X.so X.b X.l i).mask = X.A i := rfl
  have hS' : (dopOf X.so X.b X.l i).op = X.S i := rfl
  have hnum : (dopOf X.so X.b X.l i).num = i := rfl
  have hpos : X.l.idxOf i = X.pos i := rfl
  unfold stD at hrun
  dsimp only at hrun
  rw [hA', hS', hnum, hpos] at hrun
  have hkS : compK P o = some (X.S i).k := hk
  split at hrun
  · cases hrun
  · -- it is left out
    rename_i hg
    injection hrun with hrun
    have hw := wanted_of hc hA hg
    have hnl : ∀ ob, ¬ X.laid i ob := fun ob hl => by obtain ⟨_, _, _, h2, _⟩ := hl; rw [hg] at h2; cases h2
    have hst1 : (X.st (X.pos i + 1)).2.1 = putT (X.st (X.pos i)).2.1 (X.S i).dst (.tup []) := by rw [← hrun]
    have hst2 : X.H (X.pos i + 1) = X.H (X.pos i) := by unfold H; rw [← hrun]
    cases hd : X.deed i with
    | true =>
      have hh := (before_deed hd).deed (by omega) (μ' := μ) (w' := w) (by rw [hst2]; exact (before_deed hd).hr) (by rw [hst2]; exact Step.refl _ _ _)
      exact ⟨_, μ, w, _, out_sound ho hw fr k cs, rest_ok (Emb.le_refl μ) (.tup .nil) hst1 hh (.inr ⟨rfl, hd⟩) (fun _ _ _ => rfl)⟩
    | false => exact ⟨q, μ, w, _, out_sound ho hw fr k cs, rest_ok (Emb.le_refl μ) (.tup .nil) hst1 (v.h.mark (by omega) hnl) (.inl ⟨rfl, hd⟩) (fun _ _ _ => rfl)⟩
  · rename_i hg
    have hw := wanted_of hc hA hg
    have hd' := no_defer hkS
    split at hrun
    · -- it looks at nothing but its operands
      rename_i pk hkp
      split at hrun
      · rename_i u hu
        injection hrun with hrun
        have hnl : ∀ ob, ¬ X.laid i ob := fun ob hl => by obtain ⟨_, _, h1, _⟩ := hl; rw [hkp] at h1; cases h1
        obtain ⟨v', r1, r2⟩ := evP_run (μ := μ) (w := w) (by rw [hkS, hkp]) hA hu
        exact ⟨q, μ, w, _, .one (step_val ho hw hd' r1), rest_ok (Emb.le_refl μ) r2 (by rw [← hrun]) (v.h.mark (by omega) hnl) (.inl ⟨rfl, by unfold Env0.deed; rw [hkp]; rfl⟩) (fun _ _ _ => rfl)⟩
      · cases hrun
    · -- it reads
      rename_i rk hkp
      have hdi : X.deed i = false := by unfold Env0.deed; rw [hkp]; rfl
      split at hrun
      · rename_i h0 _ hh0
        split at hrun
        · rename_i u hu
          split at hrun
          · rename_i hall
            injection hrun with hrun
            have hnl : ∀ ob, ¬ X.laid i ob := fun ob hl => by obtain ⟨_, _, h1, _⟩ := hl; rw [hkp] at h1; cases h1
            have hmem : (q, X.H q) ∈ (X.st (X.pos i)).1 := X.snap (by
              rcases v.q0 with h | ⟨e, h1, _, h3, h4⟩
              · exact .inl h
              · exact .inr ⟨e, h1, h3, h4⟩) hql (by omega)
            have hone := List.all_eq_true.1 hall _ hmem
            have hlo : (dopOf X.so X.b X.l i).lo ≤ q := by
              refine foldl_max (Nat.zero_le _) fun j hj hf => ?_
              simp only [Bool.and_eq_true] at hf
              have hjn : j < X.ops.size := by rw [← X.ok.len]; exact List.mem_range.1 hj
              exact v.q1 j hjn (hpre j hjn hf.2) hf.1
            have hev : evR W (X.H q) (X.A i) rk = some u := by
              simp only [Bool.or_eq_true, decide_eq_true_eq] at hone
              rcases hone with h | h
              · omega
              · split at h
                · rename_i u2 hu2
                  rw [hu2, AV.same_eq h]
                · cases h
            obtain ⟨v', r1, r2⟩ := evR_run v.h.hr (by rw [hkS, hkp]) hA hev
            exact ⟨q, μ, w, _, .one (step_val ho hw hd' r1), rest_ok (Emb.le_refl μ) r2 (by rw [← hrun]) (v.h.mark (by omega) hnl) (.inl ⟨rfl, hdi⟩) (fun _ _ _ => rfl)⟩
          · cases hrun
        · cases hrun
      · cases hrun
    · -- it makes a block
      rename_i ak hkp
      have hdi : X.deed i = false := by unfold Env0.deed; rw [hkp]; rfl
      split at hrun
      · rename_i ob u hu
        injection hrun with hrun
        have hn := v.free i hi hD
        have hlaid : X.laid i ob := ⟨ak, u, hkp, hg, hu⟩
        obtain ⟨O, n, v', r1, r2, r3, r4⟩ := evA_run (comp := fun nt c => compC P nt c) (μ := μ) (w := w) (id := X.base + i) hn hA (by rw [hkS, hkp]) hu
        have hnx := v.h.nxt
        have hb := X.hb
        have hid : X.base + i < (X.H q).next := by omega
        have hle : μ.le (μ.add (X.base + i) w.heap.size (objSize O)) := Emb.le_add hn
        have hbk : ∀ j, j ≠ X.base + i → (μ.add (X.base + i) w.heap.size (objSize O)).blk j = μ.blk j := fun j hj => by simp [Emb.add, hj]
        have hbi : (μ.add (X.base + i) w.heap.size (objSize O)).blk (X.base + i) = some w.heap.size := by simp [Emb.add]
        have hold : ∀ r, r < w.heap.size → (w.heap.push O)[r]? = w.heap[r]? := fun r hr => by rw [Array.getElem?_push, if_neg (by omega)]
        have hlive : ∀ j oj, (X.H q).get j = some oj → j ≠ X.base + i := fun j oj hj e => by
          obtain ⟨r, h1⟩ := v.h.hr.live hj
          rw [e, hn] at h1; cases h1
        have hsz := v.h.stp.size
        have hh : X.HInv (D.setIfInBounds i true) q (μ.add (X.base + i) w.heap.size (objSize O)) { w with heap := w.heap.push O, drawn := n } := by
          refine ⟨v.h.hr.grow hid hn, v.h.stp.grow v.h.hr (by omega) hn, fun i' ob' hi' hD' hp hl => ?_, v.h.ofree, v.h.nxt⟩
          rw [hset] at hD'
          by_cases e : i' = i
          · subst e
            have hob : ob' = ob := by
              obtain ⟨ak2, u2, g1, _, g3⟩ := hl
              rw [hkp] at g1; cases g1
              rw [hu] at g3; cases g3; rfl
            subst hob
            refine ⟨w.heap.size, O, hbi, hsz, by simp, r3, r2, fun j oj hj hjr => ?_, fun j ob2 hj hDj hpj hlj hne hjr => ?_⟩
            · rw [hbk j (hlive j oj hj)] at hjr
              have := (v.h.hr.dom j _ hjr).2; omega
            · rw [hbk _ (by omega)] at hjr
              have := (v.h.hr.dom _ _ hjr).2; omega
          · rw [if_neg e] at hD'
            obtain ⟨r, O', p1, p2, p3, p4, p5, p6, p7⟩ := v.h.pend i' ob' hi' hD' hp hl
            have hrl : r < w.heap.size := (v.h.hr.dom _ _ p1).2
            refine ⟨r, O', (hle _ _ p1).1, p2, ?_, p4.le hle p1, p5, fun j oj hj hjr => ?_, fun j ob2 hj hDj hpj hlj hne hjr => ?_⟩
            · show (w.heap.push O)[r]? = _
              rw [hold r hrl]; exact p3
            · rw [hbk j (hlive j oj hj)] at hjr
              exact p6 j oj hj hjr
            · rw [hset] at hDj
              by_cases e2 : j = i
              · subst e2
                rw [hbi] at hjr; cases hjr
                omega
              · rw [if_neg e2] at hDj
                rw [hbk _ (by omega)] at hjr
                exact p7 j ob2 hj hDj hpj hlj hne hjr
        exact ⟨q, _, _, _, .one (step_val ho hw hd' r1), rest_ok hle r4 (by rw [← hrun]) hh (.inl ⟨rfl, hdi⟩) (fun j _ hne => hbk _ (by omega))⟩
      · cases hrun
    · -- a deed
      rename_i ek hkp
      have hdi : X.deed i = true := by unfold Env0.deed; rw [hkp]; rfl
      split at hrun
      · rename_i u H' hu
        injection hrun with hrun
        have hb := before_deed hdi
        obtain ⟨μ', w', v', r1, r2, r3, r4⟩ := deed_sound hE hex (rest := rest) ho hw (by rw [hkS, hkp]) hu hb.hr hA fr k cs
        have hst2 : X.H (X.pos i + 1) = H' := by unfold H; rw [← hrun]
        rw [← hst2] at r2 r3
        have hnx := hb.nxt
        exact ⟨_, μ', w', _, r1, rest_ok r3.le r4 (by rw [← hrun]) (hb.deed (by omega) r2 r3) (.inr ⟨rfl, hdi⟩) (fun j hj _ => r3.keep _ (show X.base + j < (X.H (X.pos i)).next by omega))⟩
      · cases hrun
end Env0
end Go.Proofs.YtjfnhdiimibmiaaDoor.Sx

/- Regions that draw their order; every level; the law of the second reading. -/
namespace Go.Proofs.YtjfnhdiimibmiaaDoor.Sx
variable {P : Program} {W : World} {E : Env} {ex : Ex}
namespace Env0
variable {X : Env0 P W E ex}

theorem rank (md : Region.Mode) : ∃ rk : Nat → Nat, ∀ (i : Nat) (o : Oper), X.ops[i]? = some o → ∀ e ∈ o.after.toList, Region.binds md e = true → e.on < X.ops.size ∧ rk e.on < rk i := by
  have hlt : ∀ (i : Nat) (o : Oper), X.ops[i]? = some o → i < X.ops.size := fun i o ho => (Array.getElem?_eq_some_iff.1 ho).1
  cases md with
  | gc => exact ⟨fun i => (Region.linearise .gc X.ops 0).idxOf i, X.ok.gc⟩
  | text => exact ⟨id, fun i o ho e he hb => ⟨by have := X.ok.text i o ho e he hb; have := hlt i o ho; omega, X.ok.text i o ho e he hb⟩⟩
  | any => exact ⟨id, fun i o ho e he hb => ⟨by have := X.ok.text i o ho e he (binds_any hb); have := hlt i o ho; omega, X.ok.text i o ho e he (binds_any hb)⟩⟩

theorem all_inv (hE : EnvOk P W E) (hex : Sound P W ex) (md : Region.Mode) (fr : Frame) (k : List Item) (cs : List Frame) : ∀ (fuel t : Nat) (D : Array Bool) (q : Nat) (μ : Emb) (w : World) (a : Act), X.Inv D q μ w a → D.size = X.ops.size → Closed md X.ops D →
    ((List.range X.ops.size).filter fun i => !D.getD i false).length ≤ fuel →
    ∃ D' q' μ' w' a', Steps P (lone (fr.atR a (.inRegion X.ops (Region.linearise.go md X.ops fuel t D []) :: k)) cs w) (lone (fr.atR a' (.inRegion X.ops [] :: k)) cs w') ∧ X.Inv D' q' μ' w' a' ∧ ∀ i, i < X.ops.size → D'.getD i false = true := by
  intro fuel
  induction fuel with
  | zero =>
    intro t D q μ w a v hsz hcl hu
    refine ⟨D, q, μ, w, a, Steps.refl _ _, v, fun i hi => ?_⟩
    cases hD : D.getD i false with
    | true => rfl
    | false =>
      have : i ∈ (List.range X.ops.size).filter fun i => !D.getD i false := List.mem_filter.2 ⟨List.mem_range.2 hi, by simp [hD]⟩
      have := List.length_pos_of_mem this
      omega
  | succ fuel ih =>
    intro t D q μ w a v hsz hcl hu
    simp only [Region.linearise.go]
    change ∃ D' q' μ' w' a', Steps P (lone (fr.atR a (.inRegion X.ops (match (Region.ready md X.ops D)[t % (Region.ready md X.ops D).length]? with
      | some i => Region.linearise.go md X.ops fuel (t / (Region.ready md X.ops D).length) (D.setIfInBounds i true) [i]
      | none => [].reverse) :: k)) cs w) (lone (fr.atR a' (.inRegion X.ops [] :: k)) cs w') ∧ X.Inv D' q' μ' w' a' ∧ ∀ i, i < X.ops.size → D'.getD i false = true
    cases hi : (Region.ready md X.ops D)[t % (Region.ready md X.ops D).length]? with
    | none =>
      have hnil : Region.ready md X.ops D = [] := by
        cases hr : Region.ready md X.ops D with
        | nil => rfl
        | cons x xs =>
          rw [hr] at hi
          have hlt : t % (x :: xs).length < (x :: xs).length := Nat.mod_lt _ (by simp)
          simp at hi
          simp at hlt
          omega
      obtain ⟨rk, hrk⟩ := X.rank md
      exact ⟨D, q, μ, w, a, Steps.refl _ _, v, ready_ne hsz rk hrk hnil⟩
    | some i =>
      dsimp only
      rw [linearise_go_acc, List.reverse_singleton, List.singleton_append]
      obtain ⟨o, ho, h1, h2⟩ := mem_ready.1 (List.mem_of_getElem? hi)
      have hin : i < X.ops.size := (Array.getElem?_eq_some_iff.1 ho).1
      have hD : D.getD i false = false := by
        have hs : i < D.size := by omega
        simp only [Array.getD_eq_getD_getElem?, Array.getElem?_eq_getElem hs, Option.getD_some] at h1 ⊢
        exact h1
      have hset : ∀ j, (D.setIfInBounds i true).getD j false = if j = i then true else D.getD j false := fun j => getD_set (by omega)
      obtain ⟨q1, μ1, w1, a1, s1, v1⟩ := step_inv hE hex v hsz hin hD (bits_closed X.ok hcl (i + 1) i o (Nat.lt_succ_self _) ho h2)
        (fun i' j hi' hj hD' hb => bits_closed X.ok hcl (i' + 1) i' _ (Nat.lt_succ_self _) (Array.getElem?_eq_getElem hi') (hcl i' _ (Array.getElem?_eq_getElem hi') hD') j hj hb) fr k cs
        (Region.linearise.go md X.ops fuel (t / (Region.ready md X.ops D).length) (D.setIfInBounds i true) [])
      obtain ⟨D', q', μ', w', a', s2, v2, h3⟩ := ih (t / (Region.ready md X.ops D).length) (D.setIfInBounds i true) q1 μ1 w1 a1 v1 (by simpa using hsz) (fun i' o' ho' hD' e he hb => by
        rw [hset] at hD' ⊢
        split
        · rfl
        · by_cases e' : i' = i
          · subst e'; rw [ho] at ho'; cases ho'; exact h2 e he hb
          · rw [if_neg e'] at hD'; exact hcl i' o' ho' hD' e he hb) (by
        have := filter_lt (p := fun i => !D.getD i false) (q := fun j => !(D.setIfInBounds i true).getD j false) (fun x hx => by
          rw [hset] at hx
          split at hx
          · cases hx
          · exact hx) (List.mem_range.2 hin) (by simp only [hD, Bool.not_false]) (by simp only [hset, if_true, Bool.not_true])
        omega)
      exact ⟨D', q', μ', w', a', s1.trans s2, v2, h3⟩
end Env0

theorem draw_sound (hE : EnvOk P W E) (hex : Sound P W ex) : DrawOk P W E ex := by
  intro nt ops n l A H hs A' H' hc hr μ w b a k cs id h hA hsz
  unfold compDraw at hc
  split at hc
  · cases hc
  · rename_i so hso
    dsimp only at hc
    split at hc
    · rename_i hok
      generalize horder : orderD ops.size (Region.before ops) (fun i => isDeed (so.getD i default).k) ((List.range ops.size).filter fun i => isDeed (so.getD i default).k) [] = ord at hc hok
      have ok := okD_spec hok
      simp only [Option.some.injEq, SC.draw.injEq] at hc
      obtain ⟨rfl, rfl⟩ := hc
      obtain ⟨st, st0, stn, hst⟩ := runD_trace hr
      have hcomp : ∀ i, i < ops.size → ∃ o, ops[i]? = some o ∧ compOp P nt ops o = some (so.getD i default) := by
        intro i hi
        obtain ⟨_, h2⟩ := mapM_some hso
        obtain ⟨y, hy, hcy⟩ := h2 i ops[i] (by simp [hi])
        refine ⟨_, Array.getElem?_eq_getElem hi, ?_⟩
        rw [List.getD_eq_getElem?_getD, hy]; exact hcy
      let X : Env0 P W E ex := {
        ops, so, b := Region.before ops, l := ord, base := H.next, nt, st, μ0 := μ, H0 := H, w0 := w, a0 := a, ok, comp := hcomp
        run := fun i hi => by
          have h1 := (ok.pos i hi).1
          have h2 := (ok.pos i hi).2
          have hlen := ok.olen
          have h3 : ord[ord.idxOf i]? = some i := by
            rw [List.getD_eq_getElem?_getD] at h2
            have hlt : ord.idxOf i < ord.length := by omega
            rw [List.getElem?_eq_getElem hlt] at h2 ⊢
            exact congrArg some h2
          have := hst (ord.idxOf i) (dopOf so (Region.before ops) ord i) (by rw [List.getElem?_map, h3]; rfl)
          rw [Nat.zero_add] at this
          exact this
        hs0 := by rw [st0]; simp
        hb := Nat.le_refl _ }
      have h0 : ∀ i, (Array.replicate ops.size false).getD i false = false := by
        intro i
        simp only [Array.getD_eq_getD_getElem?, Array.getElem?_replicate]
        split <;> rfl
      have hH0 : (st 0).2.2 = { H with next := H.next + ops.size } := by rw [st0]
      have hinv : X.Inv (Array.replicate ops.size false) 0 μ { w with drawn := w.drawn + 1 } a := by
        refine ⟨⟨?_, ?_, fun i ob hi hD => ?_, fun i hi _ => ?_, ?_⟩, .inl rfl, fun e he hD => ?_, fun j t v hj hD => ?_, fun t v _ ht => ?_, hsz, rfl, fun i hi _ => ?_⟩
        · show HRP P W μ (st 0).2.2 _
          rw [hH0]; exact (h.bump ops.size).drew _
        · show Step μ H w μ (st 0).2.2 _
          rw [hH0]; exact (Step.bump μ H w ops.size).drew w.drawn (w.drawn + 1)
        · rw [h0] at hD; cases hD
        · show (st 0).2.2.objs.get (H.next + i) = none
          rw [hH0]; exact h.wf.clean _ (Nat.le_add_right _ _)
        · show H.next + ops.size ≤ (st 0).2.2.next
          rw [hH0]; exact Nat.le_refl _
        · rw [h0] at hD; cases hD
        · rw [h0] at hD; cases hD
        · have ht' : (st 0).2.1.get t = some v := ht
          rw [st0] at ht'
          exact hA t v ht'
        · exact h.fresh _ (Nat.le_add_right _ _)
      obtain ⟨md, t', hsch⟩ := schedule_eq ops (P.follows .mixedOrders) (w.tape w.drawn (.order b.fn id))
      have hstep := stepR_region_draw (P := P) (b := b) (a := a) (k := k) (cs := cs) (w := w) (ops := ops) (id := id)
      rw [hsch] at hstep
      obtain ⟨D', q', μ', w', a', s1, v1, h1⟩ := X.all_inv hE hex md b k cs ops.size t' (Array.replicate ops.size false) 0 μ _ a hinv (by simp [X]) (fun i o _ hD => by rw [h0] at hD; cases hD) (Nat.le_trans (List.length_filter_le _ _) (by simp [X]))
      have hq : q' ≤ ops.size := by
        rcases v1.q0 with h2 | ⟨e, h2, _, _, h3⟩
        · omega
        · have := X.pos_lt h2
          have : X.ops.size = ops.size := rfl
          omega
      have hup := v1.h.upto hq (Nat.le_refl ops.size) (fun i hi h2 _ => ⟨h1 i hi, by
        cases hd : X.deed i with
        | false => rfl
        | true => have := v1.q1 i hi (h1 i hi) hd; omega⟩)
      have hn : X.H ops.size = H' := by
        show (st ops.size).2.2 = H'
        rw [List.length_map, ok.olen] at stn
        rw [stn]
      have hAn : (st ops.size).2.1 = A' := by
        rw [List.length_map, ok.olen] at stn
        rw [stn]
      refine ⟨μ', w', a', .head hstep s1, ?_, ?_, fun t v ht => ?_, v1.size, v1.df⟩
      · rw [← hn]; exact hup.hr
      · rw [← hn]; exact hup.stp
      · rw [← hAn] at ht
        by_cases hex2 : ∃ j, j < ops.size ∧ (X.S j).dst = some t
        · obtain ⟨j, hj, hjd⟩ := hex2
          refine v1.t1 j t v hj (h1 j hj) hjd ?_
          rw [← ht]
          exact (X.slot (p := X.pos j + 1) (X.pos_lt hj) (Nat.le_refl ops.size) (fun i hi h2 _ hd => by
            have : i = j := X.ok.once i j t hi hj hd hjd
            subst this; omega)).symm
        · refine v1.t2 t v (fun j hj _ hd => hex2 ⟨j, hj, hd⟩) ?_
          rw [← ht]
          exact (X.slot (p := 0) (Nat.zero_le _) (Nat.le_refl ops.size) (fun i hi _ _ hd => hex2 ⟨i, hi, hd⟩)).symm
    · cases hc

theorem exec_sound (hE : EnvOk P W E) : ∀ n, Sound P W (exec W E n) := by
  intro n
  induction n with
  | zero => intro nt c sc f H x f' H' _ hx; cases hx
  | succ n ih => exact stepS_sound hE ih (draw_sound hE ih)

/-- What a call that the second reading has made comes to. -/
theorem call_sound (hE : EnvOk P W E) (n : Nat) (f : FuncId) : SimC P W f (call W E n f) := callS_sound hE (exec_sound hE n) f

/-- The world in which a call begins, before it has made a block of its own. -/
theorem HR.start (W : World) : HRP P W ⟨fun _ => none, fun _ => 0, fun _ => 0⟩ ⟨0, .e, .e⟩ W := by
  have hg : ∀ i o, (⟨0, .e, .e⟩ : Heap).get i ≠ some o := by
    intro i o h
    simp [Heap.get, Tr.get_e] at h
  refine ⟨rfl, rfl, rfl, Nat.le_refl _, fun _ _ => rfl, fun i r h => by simp at h, fun _ _ => rfl, fun i o h => absurd h (hg i o), fun i _ _ _ _ h => absurd h (hg i _), fun i o _ h => absurd h (hg i o), fun j c t l h => ?_, fun j _ _ _ _ _ _ h => absurd h (hg j _), ⟨fun j c t l h => ?_, fun i _ => ?_⟩⟩
  · simp [Tr.get_e] at h
  · simp [Tr.get_e] at h
  · simp [Tr.get_e]
end Go.Proofs.YtjfnhdiimibmiaaDoor.Sx

/- All levels at once: the second reading without a count of levels. -/
namespace Go.Proofs.YtjfnhdiimibmiaaDoor.Sx

def Le (ex ex' : Ex) : Prop := ∀ c f H r, ex c f H = some r → ex' c f H = some r
theorem Le.refl (ex : Ex) : Le ex ex := fun _ _ _ _ h => h
theorem Le.trans {a b c : Ex} (h : Le a b) (k : Le b c) : Le a c := fun x f H r hr => k x f H r (h x f H r hr)

/-- What asks finitely often. -/
def Ct {β : Type} (G : Ex → Option β) : Prop :=
  (∀ ex ex', Le ex ex' → ∀ r, G ex = some r → G ex' = some r) ∧
  (∀ (ch : Nat → Ex) (lim : Ex), (∀ n, Le (ch n) (ch (n + 1))) → (∀ c f H r, lim c f H = some r → ∃ n, ch n c f H = some r) → ∀ r, G lim = some r → ∃ n, G (ch n) = some r)

theorem chain_le {ch : Nat → Ex} (h : ∀ n, Le (ch n) (ch (n + 1))) : ∀ {n m : Nat}, n ≤ m → Le (ch n) (ch m) := by
  intro n m hnm
  induction m with
  | zero => rw [show n = 0 from by omega]; exact Le.refl _
  | succ m ih =>
    by_cases e : n = m + 1
    · rw [e]; exact Le.refl _
    · exact (ih (by omega)).trans (h m)
theorem Ct.const {β : Type} (r : Option β) : Ct (fun _ => r) := ⟨fun _ _ _ _ h => h, fun _ _ _ _ _ h => ⟨0, h⟩⟩
theorem Ct.ask (c : SC) (f : Fr) (H : Heap) : Ct (fun ex => ex c f H) := ⟨fun _ _ h r hr => h c f H r hr, fun _ _ _ h r hr => h c f H r hr⟩
def bnd {β γ : Type} (o : Option β) (k : β → Option γ) : Option γ := match o with
  | some x => k x
  | none => none
theorem Ct.bind {β γ : Type} (G : Ex → Option β) (K : β → Ex → Option γ) (hG : Ct G) (hK : ∀ x, Ct (K x)) : Ct (fun ex => bnd (G ex) fun x => K x ex) := by
  unfold bnd
  refine ⟨fun ex ex' h r hr => ?_, fun ch lim h1 h2 r hr => ?_⟩
  · dsimp only at hr ⊢
    split at hr
    · rename_i x hx
      rw [hG.1 ex ex' h x hx]
      exact (hK x).1 ex ex' h r hr
    · cases hr
  · dsimp only at hr
    split at hr
    · rename_i x hx
      obtain ⟨n1, e1⟩ := hG.2 ch lim h1 h2 x hx
      obtain ⟨n2, e2⟩ := (hK x).2 ch lim h1 h2 r hr
      refine ⟨max n1 n2, ?_⟩
      dsimp only
      rw [hG.1 _ _ (chain_le h1 (Nat.le_max_left n1 n2)) x e1]
      exact (hK x).1 _ _ (chain_le h1 (Nat.le_max_right n1 n2)) r e2
    · cases hr
theorem Ct.congr {β : Type} {G G' : Ex → Option β} (h : ∀ ex, G ex = G' ex) (hG : Ct G') : Ct G := by
  have : G = G' := funext h
  rw [this]; exact hG

section
variable (W : World) (E : Env)
theorem ct_call (f : FuncId) (args : List AV) (H : Heap) : Ct (fun ex => callS W E ex f args H) := by
  cases hE : E f with
  | none => exact Ct.congr (G' := fun _ => none) (fun ex => by simp only [callS, hE]) (Ct.const none)
  | some e =>
    cases e with
    | prim F => exact Ct.congr (G' := fun _ => F args H) (fun ex => by simp only [callS, hE]) (Ct.const (F args H))
    | code sf =>
      by_cases h : args.length ≤ sf.nt
      · refine Ct.congr (fun ex => ?_) (Ct.bind (fun ex => ex sf.body ⟨putL .e 0 args, [], none⟩ H) (fun x _ => match x.1 with
          | .normal => finish W sf.res x.2.1 x.2.2
          | .ret => finish W sf.res x.2.1 x.2.2
          | _ => none) (Ct.ask _ _ _) fun x => Ct.const _)
        simp only [callS, hE, if_pos h]
        cases ex sf.body ⟨putL .e 0 args, [], none⟩ H with
        | none => rfl
        | some x => obtain ⟨x, fr, H'⟩ := x; cases x <;> rfl
      · exact Ct.congr (G' := fun _ => none) (fun ex => by simp only [callS, hE, if_neg h]) (Ct.const none)
/-- What is done behind a round. -/
def roundEnd (l : Nat) (y : Lv × Fr × Heap) : Option (Bool × Heap) := match y.2.2.get l with
  | some (.loop _ _ tm3 ps3 asg3 body3 df3) => match y.1 with
    | .normal => some (true, y.2.2.setAt l (.loop .ready none tm3 ps3 asg3 body3 df3))
    | x => some (false, y.2.2.setAt l (.loop .done (some x) tm3 ps3 asg3 body3 df3))
  | _ => none
/-- The body of a round. -/
def roundBody (l : Nat) (body : SC) (x : Lv × Fr × Heap) (ex : Ex) : Option (Bool × Heap) := match x.1 with
  | .normal => match x.2.2.get l with
    | some (.loop .ready pend1 tm1 ps1 asg1 body1 df1) => bnd (ex body x.2.1 (x.2.2.setAt l (.loop .busy pend1 tm1 ps1 asg1 body1 df1))) fun y => roundEnd l y
    | _ => none
  | _ => none
theorem ct_round (l : Nat) (body : SC) (x : Lv × Fr × Heap) : Ct (roundBody l body x) := by
  obtain ⟨x, f, H⟩ := x
  cases x with
  | normal =>
    cases hg : H.get l with
    | none => exact Ct.congr (G' := fun _ => none) (fun ex => by simp only [roundBody, hg]) (Ct.const none)
    | some o =>
      cases o with
      | loop st pend tm ps asg body1 df =>
        cases st with
        | ready => exact Ct.congr (fun ex => by simp only [roundBody, hg]) (Ct.bind (fun ex => ex body f (H.setAt l (.loop .busy pend tm ps asg body1 df))) (fun y _ => roundEnd l y) (Ct.ask _ _ _) fun _ => Ct.const _)
        | _ => exact Ct.congr (G' := fun _ => none) (fun ex => by simp only [roundBody, hg]) (Ct.const none)
      | _ => exact Ct.congr (G' := fun _ => none) (fun ex => by simp only [roundBody, hg]) (Ct.const none)
  | _ => exact Ct.const none
theorem yldS_eq (ex : Ex) (l : Nat) (args : List AV) (H : Heap) {st : LoopState} {pend : Option Lv} {tm : Tm} {ps : List Nat} {asg body : SC} {df : Nat} (hg : H.get l = some (.loop st pend tm ps asg body df)) (h : args.length = ps.length) :
    yldS ex l args H = bnd (ex asg ⟨putsT tm ps args, [], some l⟩ H) fun x => roundBody l body x ex := by
  simp only [yldS, hg, if_pos h]
  cases ex asg ⟨putsT tm ps args, [], some l⟩ H with
  | none => rfl
  | some x =>
    obtain ⟨x, f1, H1⟩ := x
    cases x with
    | normal =>
      simp only [bnd, roundBody]
      cases H1.get l with
      | none => rfl
      | some o1 =>
        cases o1 with
        | loop st1 pend1 tm1 ps1 asg1 body1 df1 =>
          cases st1 with
          | ready =>
            dsimp only
            cases ex body f1 (H1.setAt l (.loop .busy pend1 tm1 ps1 asg1 body1 df1)) with
            | none => rfl
            | some y =>
              obtain ⟨y, f3, H3⟩ := y
              simp only [roundEnd] <;> (cases H3.get l with
                | none => rfl
                | some o3 => cases o3 <;> first | rfl | (cases y <;> rfl))
          | _ => rfl
        | _ => rfl
    | _ => rfl
theorem ct_yld (l : Nat) (args : List AV) (H : Heap) : Ct (fun ex => yldS ex l args H) := by
  cases hg : H.get l with
  | none => exact Ct.congr (G' := fun _ => none) (fun ex => by simp only [yldS, hg]) (Ct.const none)
  | some o =>
    cases o with
    | loop st pend tm ps asg body df =>
      by_cases h : args.length = ps.length
      · exact Ct.congr (fun ex => yldS_eq ex l args H hg h) (Ct.bind (fun ex => ex asg ⟨putsT tm ps args, [], some l⟩ H) (roundBody l body) (Ct.ask _ _ _) fun x => ct_round l body x)
      · exact Ct.congr (G' := fun _ => none) (fun ex => by simp only [yldS, hg, if_neg h]) (Ct.const none)
    | _ => exact Ct.congr (G' := fun _ => none) (fun ex => by simp only [yldS, hg]) (Ct.const none)
theorem ct_evE (A : Tm) (H : Heap) (o : EK) : Ct (fun ex => evE W E ex A H o) := by
  cases o with
  | callf f args => exact Ct.congr (G' := fun ex => callS W E ex f (args.map (evX A)) H) (fun ex => by simp only [evE]) (ct_call W E f (args.map (evX A)) H)
  | callv x args =>
    cases hx : evX A x with
    | fn f first cap => exact Ct.congr (G' := fun ex => callS W E ex f (first ++ args.map (evX A) ++ cap) H) (fun ex => by simp only [evE, hx]) (ct_call W E f (first ++ args.map (evX A) ++ cap) H)
    | yld l =>
      refine Ct.congr (fun ex => ?_) (Ct.bind (fun ex => yldS ex l (args.map (evX A)) H) (fun x _ => some (AV.bool x.1, x.2)) (ct_yld l (args.map (evX A)) H) fun _ => Ct.const _)
      simp only [evE, hx]
      cases yldS ex l (args.map (evX A)) H <;> rfl
    | _ => exact Ct.congr (G' := fun _ => none) (fun ex => by simp only [evE, hx]) (Ct.const none)
  | _ => exact Ct.congr (G' := fun _ => evD W H A _) (fun ex => by simp only [evE]; rfl) (Ct.const _)
theorem ct_stepK (A : Tm) (H : Heap) (k : SK) : Ct (fun ex => stepK W E ex A H k) := by
  cases k with
  | e o => exact Ct.congr (G' := fun ex => evE W E ex A H o) (fun ex => by simp only [stepK]) (ct_evE W E A H o)
  | p o => exact Ct.congr (G' := fun _ => stepK W E (fun _ _ _ => none) A H (.p o)) (fun ex => rfl) (Ct.const _)
  | r o => exact Ct.congr (G' := fun _ => stepK W E (fun _ _ _ => none) A H (.r o)) (fun ex => rfl) (Ct.const _)
  | a o => exact Ct.congr (G' := fun _ => stepK W E (fun _ _ _ => none) A H (.a o)) (fun ex => rfl) (Ct.const _)
theorem ct_ops : ∀ (l : List SOp) (A : Tm) (H : Heap), Ct (fun ex => runOps W E ex l A H) := by
  intro l
  induction l with
  | nil => intro A H; exact Ct.const _
  | cons o r ih =>
    intro A H
    cases hw : wantedS A o.guard with
    | none => exact Ct.congr (G' := fun _ => none) (fun ex => by simp only [runOps, hw]) (Ct.const none)
    | some b =>
      cases b with
      | true =>
        refine Ct.congr (fun ex => ?_) (Ct.bind (fun ex => stepK W E ex A H o.k) (fun x ex => runOps W E ex r (putT A o.dst x.1) x.2) (ct_stepK W E A H o.k) fun x => ih _ _)
        simp only [runOps, hw]
        cases stepK W E ex A H o.k <;> rfl
      | false => exact Ct.congr (G' := fun ex => runOps W E ex r (putT A o.dst (.tup [])) H) (fun ex => by simp only [runOps, hw]) (ih _ _)
theorem ct_stD (base p : Nat) (d : DOp) (s : List (Nat × Heap) × Tm × Heap) : Ct (fun ex => stD W E ex base p d s) := by
  cases hw : wantedS (hide s.2.1 d.mask) d.op.guard with
  | none => exact Ct.congr (G' := fun _ => none) (fun ex => by simp only [stD, hw]) (Ct.const none)
  | some b =>
    cases b with
    | false => exact Ct.congr (G' := fun _ => some (if isDeed d.op.k then (p + 1, s.2.2) :: s.1 else s.1, putT s.2.1 d.op.dst (.tup []), s.2.2)) (fun ex => by simp only [stD, hw]) (Ct.const _)
    | true =>
      cases hk : d.op.k with
      | e o =>
        refine Ct.congr (fun ex => ?_) (Ct.bind (fun ex => evE W E ex (hide s.2.1 d.mask) s.2.2 o) (fun x _ => some ((p + 1, x.2) :: s.1, putT s.2.1 d.op.dst x.1, x.2)) (ct_evE W E (hide s.2.1 d.mask) s.2.2 o) fun _ => Ct.const _)
        simp only [stD, hw, hk]
        cases evE W E ex (hide s.2.1 d.mask) s.2.2 o <;> rfl
      | _ =>
        refine Ct.congr (G' := fun _ => stD W E (fun _ _ _ => none) base p d s) (fun ex => ?_) (Ct.const _)
        simp only [stD, hw, hk]
theorem ct_runD (base : Nat) : ∀ (l : List DOp) (p : Nat) (s : List (Nat × Heap) × Tm × Heap), Ct (fun ex => runD W E ex base p l s) := by
  intro l
  induction l with
  | nil => intro p s; exact Ct.const _
  | cons d r ih =>
    intro p s
    refine Ct.congr (fun ex => ?_) (Ct.bind (fun ex => stD W E ex base p d s) (fun x ex => runD W E ex base (p + 1) r x) (ct_stD W E base p d s) fun x => ih _ _)
    simp only [runD]
    cases stD W E ex base p d s <;> rfl
/-- What is done behind the function that was ranged over. -/
def rangeEnd (f : Fr) (l : Nat) (df : List Nat) (H3 : Heap) : Out := match H3.get l with
  | some (.loop st pend tm3 ps3 asg3 body3 df3) =>
    if st = .busy then none else
    match pend with
    | none => some (.normal, { f with df := df }, H3.setAt l (.loop .exhausted none tm3 ps3 asg3 body3 df3))
    | some x => some (x, { f with df := df }, H3.setAt l (.loop .exhausted (some x) tm3 ps3 asg3 body3 df3))
  | _ => none
/-- The block for the rounds' deferred calls, and its mark. -/
def rangeMark (f : Fr) (H : Heap) : Option (Nat × Heap × List Nat) := match f.ro with
  | none => some (H.next, H.push (.deferred true), H.next :: f.df)
  | some l0 => match H.get l0 with
    | some (.loop _ _ _ _ _ _ df0) => some (df0, H, f.df)
    | _ => none
theorem step_range (ex : Ex) (f : Fr) (H : Heap) (g : SX) (ps : List Nat) (asg body : SC) {h : FuncId} {first cap : List AV} {d : Nat} {H1 : Heap} {df : List Nat} (hg : evX f.tm g = .fn h first cap) (hm : rangeMark f H = some (d, H1, df)) :
    stepS W E ex (.rangeFunc g ps asg body) f H = bnd (callS W E ex h (first ++ [.yld H1.next] ++ cap) (H1.push (.loop .ready none f.tm ps asg body d))) fun x => rangeEnd f H1.next df x.2 := by
  unfold rangeMark at hm
  simp only [stepS, hg]
  split
  · rename_i d' H1' df' he
    have he' := he.symm.trans hm
    simp only [Option.some.injEq, Prod.mk.injEq] at he'
    obtain ⟨rfl, rfl, rfl⟩ := he'
    cases callS W E ex h (first ++ [.yld H1'.next] ++ cap) (H1'.push (.loop .ready none f.tm ps asg body d')) <;> rfl
  · rename_i he
    exact absurd (he.symm.trans hm) (by simp)
theorem ct_step (c : SC) (f : Fr) (H : Heap) : Ct (fun ex => stepS W E ex c f H) := by
  cases c with
  | skip => exact Ct.const _
  | exit id => exact Ct.const _
  | ret => exact Ct.const _
  | ops l =>
    refine Ct.congr (fun ex => ?_) (Ct.bind (fun ex => runOps W E ex l f.tm H) (fun x _ => some (Lv.normal, { f with tm := x.1 }, x.2)) (ct_ops W E l f.tm H) fun _ => Ct.const _)
    simp only [stepS]
    cases runOps W E ex l f.tm H <;> rfl
  | draw n l =>
    refine Ct.congr (fun ex => ?_) (Ct.bind (fun ex => runD W E ex H.next 0 l ([(0, { H with next := H.next + n })], f.tm, { H with next := H.next + n })) (fun x _ => some (Lv.normal, { f with tm := x.2.1 }, x.2.2)) (ct_runD W E H.next l 0 ([(0, { H with next := H.next + n })], f.tm, { H with next := H.next + n })) fun _ => Ct.const _)
    simp only [stepS]
    cases runD W E ex H.next 0 l ([(0, { H with next := H.next + n })], f.tm, { H with next := H.next + n }) <;> rfl
  | seq a b =>
    refine Ct.congr (fun ex => ?_) (Ct.bind (fun ex => ex a f H) (fun x ex => match x.1 with | .normal => ex b x.2.1 x.2.2 | _ => some x) (Ct.ask a f H) fun x => ?_)
    · simp only [stepS]
      cases ex a f H with
      | none => rfl
      | some x => obtain ⟨x, f', H'⟩ := x; cases x <;> rfl
    · obtain ⟨x, f', H'⟩ := x
      cases x with
      | normal => exact Ct.ask _ _ _
      | _ => exact Ct.const _
  | cond c a b =>
    cases hc : evX f.tm c with
    | bool t =>
      cases t
      · exact Ct.congr (G' := fun ex => ex b f H) (fun ex => by simp only [stepS, hc]) (Ct.ask _ _ _)
      · exact Ct.congr (G' := fun ex => ex a f H) (fun ex => by simp only [stepS, hc]) (Ct.ask _ _ _)
    | _ => exact Ct.congr (G' := fun _ => none) (fun ex => by simp only [stepS, hc]) (Ct.const none)
  | block id b =>
    refine Ct.congr (fun ex => ?_) (Ct.bind (fun ex => ex b f H) (fun x _ => match x.1 with | .exit i => if i = id then some (.normal, x.2) else some x | _ => some x) (Ct.ask b f H) fun x => Ct.const _)
    simp only [stepS]
    cases ex b f H with
    | none => rfl
    | some x => obtain ⟨x, f', H'⟩ := x; cases x <;> rfl
  | loop b =>
    refine Ct.congr (fun ex => ?_) (Ct.bind (fun ex => ex b f H) (fun x ex => match x.1 with | .normal => ex (.loop b) x.2.1 x.2.2 | _ => some x) (Ct.ask b f H) fun x => ?_)
    · simp only [stepS]
      cases ex b f H with
      | none => rfl
      | some x => obtain ⟨x, f', H'⟩ := x; cases x <;> rfl
    · obtain ⟨x, f', H'⟩ := x
      cases x with
      | normal => exact Ct.ask _ _ _
      | _ => exact Ct.const _
  | scope b => exact Ct.ask _ _ _
  | rangeFunc g ps asg body =>
    cases hg : evX f.tm g with
    | fn h first cap =>
      cases hm : rangeMark f H with
      | none =>
        refine Ct.congr (G' := fun _ => none) (fun ex => ?_) (Ct.const none)
        unfold rangeMark at hm
        simp only [stepS, hg]
        split
        · rename_i he; exact absurd (he.symm.trans hm) (by simp)
        · rfl
      | some t =>
        obtain ⟨d, H1, df⟩ := t
        exact Ct.congr (fun ex => step_range W E ex f H g ps asg body hg hm) (Ct.bind (fun ex => callS W E ex h (first ++ [.yld H1.next] ++ cap) (H1.push (.loop .ready none f.tm ps asg body d))) (fun x _ => rangeEnd f H1.next df x.2) (ct_call W E h _ _) fun _ => Ct.const _)
    | _ => exact Ct.congr (G' := fun _ => none) (fun ex => by simp only [stepS, hg]) (Ct.const none)

theorem exec_le (n : Nat) : Le (exec W E n) (exec W E (n + 1)) := by
  induction n with
  | zero => intro c f H r h; cases h
  | succ n ih => intro c f H r h; exact (ct_step W E c f H).1 _ _ ih r h
open Classical in
/-- The second reading, of however many levels. -/
noncomputable def run : Ex := fun c f H => if h : ∃ r n, exec W E n c f H = some r then some h.choose else none
theorem run_of {n : Nat} {c : SC} {f : Fr} {H : Heap} {r : Lv × Fr × Heap} (h : exec W E n c f H = some r) : run W E c f H = some r := by
  have hex : ∃ r n, exec W E n c f H = some r := ⟨r, n, h⟩
  unfold run
  rw [dif_pos hex]
  obtain ⟨m, hm⟩ := hex.choose_spec
  have h1 := chain_le (exec_le W E) (Nat.le_max_left n m) c f H r h
  have h2 := chain_le (exec_le W E) (Nat.le_max_right n m) c f H _ hm
  rw [h1] at h2
  exact h2.symm
theorem of_run {c : SC} {f : Fr} {H : Heap} {r : Lv × Fr × Heap} (h : run W E c f H = some r) : ∃ n, exec W E n c f H = some r := by
  unfold run at h
  split at h
  · rename_i hex
    cases h
    exact hex.choose_spec
  · cases h
theorem exec_run (n : Nat) : Le (exec W E n) (run W E) := fun _ _ _ _ h => run_of W E h
/-- A level more is no more. -/
theorem run_step (c : SC) (f : Fr) (H : Heap) : run W E c f H = stepS W E (run W E) c f H := by
  cases h : stepS W E (run W E) c f H with
  | some r =>
    obtain ⟨n, hn⟩ := (ct_step W E c f H).2 (exec W E) (run W E) (exec_le W E) (fun _ _ _ _ h => of_run W E h) r h
    exact run_of W E (n := n + 1) hn
  | none =>
    cases h2 : run W E c f H with
    | none => rfl
    | some r =>
      obtain ⟨n, hn⟩ := of_run W E h2
      cases n with
      | zero => cases hn
      | succ n =>
        have : stepS W E (run W E) c f H = some r := (ct_step W E c f H).1 _ _ (exec_run W E n) r hn
        rw [this] at h; cases h
/-- A call. -/
noncomputable def go (f : FuncId) (args : List AV) (H : Heap) : Option (AV × Heap) := callS W E (run W E) f args H
theorem go_call {f : FuncId} {args : List AV} {H : Heap} {r : AV × Heap} (h : go W E f args H = some r) : ∃ n, call W E n f args H = some r :=
  (ct_call W E f args H).2 (exec W E) (run W E) (exec_le W E) (fun _ _ _ _ h => of_run W E h) r h
theorem call_go {n : Nat} {f : FuncId} {args : List AV} {H : Heap} {r : AV × Heap} (h : call W E n f args H = some r) : go W E f args H = some r :=
  (ct_call W E f args H).1 _ _ (exec_run W E n) r h
theorem go_sound {P : Program} (hE : EnvOk P W E) (f : FuncId) : SimC P W f (go W E f) := by
  intro args H v H' hv
  obtain ⟨n, hn⟩ := go_call W E hv
  exact call_sound hE n f args H v H' hn
end
end Go.Proofs.YtjfnhdiimibmiaaDoor.Sx

/- Rules by which a run is followed with values that are not known. -/
namespace Go.Proofs.YtjfnhdiimibmiaaDoor.Sx
section
variable {W : World} {E : Env}

@[congr] theorem bnd_congr {β γ : Type} {o o' : Option β} {k : β → Option γ} (h : o = o') : bnd o k = bnd o' k := by rw [h]
theorem bnd_some {β γ : Type} {x : β} {k : β → Option γ} : bnd (some x) k = k x := (Eq.refl _).trans rfl
theorem bnd_none {β γ : Type} {k : β → Option γ} : bnd none k = none := (Eq.refl _).trans rfl
def wsel {β : Type} (c : Option Bool) (a b : Option β) : Option β := match c with
  | some true => a
  | some false => b
  | none => none
@[congr] theorem wsel_congr {β : Type} {c c' : Option Bool} {a b : Option β} (h : c = c') : wsel c a b = wsel c' a b := by rw [h]
theorem wsel_true {β : Type} {a b : Option β} : wsel (some true) a b = a := (Eq.refl _).trans rfl
theorem wsel_false {β : Type} {a b : Option β} : wsel (some false) a b = b := (Eq.refl _).trans rfl
/-- A choice by a value. -/
def vsel {β : Type} (v : AV) (a b : Option β) : Option β := match v with
  | .bool true => a
  | .bool false => b
  | _ => none
@[congr] theorem vsel_congr {β : Type} {v v' : AV} {a b : Option β} (h : v = v') : vsel v a b = vsel v' a b := by rw [h]
theorem vsel_true {β : Type} {a b : Option β} : vsel (.bool true) a b = a := (Eq.refl _).trans rfl
theorem vsel_false {β : Type} {a b : Option β} : vsel (.bool false) a b = b := (Eq.refl _).trans rfl
def nxt (k : Fr → Heap → Out) (x : Lv × Fr × Heap) : Out := match x.1 with
  | .normal => k x.2.1 x.2.2
  | _ => some x
theorem nxt_n {k : Fr → Heap → Out} {f : Fr} {H : Heap} : nxt k (.normal, f, H) = k f H := (Eq.refl _).trans rfl
theorem nxt_r {k : Fr → Heap → Out} {f : Fr} {H : Heap} : nxt k (.ret, f, H) = some (.ret, f, H) := (Eq.refl _).trans rfl
theorem nxt_e {k : Fr → Heap → Out} {i : Nat} {f : Fr} {H : Heap} : nxt k (.exit i, f, H) = some (.exit i, f, H) := (Eq.refl _).trans rfl
def blk1 (id : Nat) (x : Lv × Fr × Heap) : Out := match x.1 with
  | .exit i => if i = id then some (.normal, x.2) else some x
  | _ => some x
theorem blk1_n {id : Nat} {f : Fr} {H : Heap} : blk1 id (.normal, f, H) = some (.normal, f, H) := (Eq.refl _).trans rfl
theorem blk1_r {id : Nat} {f : Fr} {H : Heap} : blk1 id (.ret, f, H) = some (.ret, f, H) := (Eq.refl _).trans rfl
theorem blk1_e {id i : Nat} {f : Fr} {H : Heap} : blk1 id (.exit i, f, H) = if i = id then some (.normal, f, H) else some (.exit i, f, H) := (Eq.refl _).trans rfl

@[congr] theorem run_congr {c : SC} {f f' : Fr} {H H' : Heap} (hf : f = f') (hH : H = H') : run W E c f H = run W E c f' H' := by rw [hf, hH]
theorem run_skip {f : Fr} {H : Heap} : run W E .skip f H = some (.normal, f, H) := by rw [run_step]; rfl
theorem run_exit {id : Nat} {f : Fr} {H : Heap} : run W E (.exit id) f H = some (.exit id, f, H) := by rw [run_step]; rfl
theorem run_ret {f : Fr} {H : Heap} : run W E .ret f H = some (.ret, f, H) := by rw [run_step]; rfl
theorem run_seq {a b : SC} {f : Fr} {H : Heap} : run W E (.seq a b) f H = bnd (run W E a f H) (nxt (run W E b)) := by
  rw [run_step]
  simp only [stepS]
  cases run W E a f H with
  | none => rfl
  | some x => obtain ⟨x, f', H'⟩ := x; cases x <;> rfl
theorem run_block {id : Nat} {b : SC} {f : Fr} {H : Heap} : run W E (.block id b) f H = bnd (run W E b f H) (blk1 id) := by
  rw [run_step]
  simp only [stepS]
  cases run W E b f H with
  | none => rfl
  | some x => obtain ⟨x, f', H'⟩ := x; cases x <;> rfl
theorem run_scope {b : SC} {f : Fr} {H : Heap} : run W E (.scope b) f H = run W E b f H := by rw [run_step]; rfl
/-- A round of a loop. -/
theorem run_loop {b : SC} {f : Fr} {H : Heap} : run W E (.loop b) f H = bnd (run W E b f H) (nxt (run W E (.loop b))) := by
  rw [run_step]
  simp only [stepS]
  cases run W E b f H with
  | none => rfl
  | some x => obtain ⟨x, f', H'⟩ := x; cases x <;> rfl
theorem run_cond {c : SX} {a b : SC} {A : Tm} {df : List Nat} {ro : Option Nat} {H : Heap} : run W E (.cond c a b) ⟨A, df, ro⟩ H = vsel (evX A c) (run W E a ⟨A, df, ro⟩ H) (run W E b ⟨A, df, ro⟩ H) := by
  rw [run_step]
  simp only [stepS]
  cases evX A c with
  | bool t => cases t <;> rfl
  | _ => rfl
theorem run_ops {l : List SOp} {A : Tm} {df : List Nat} {ro : Option Nat} {H : Heap} : run W E (.ops l) ⟨A, df, ro⟩ H = bnd (runOps W E (run W E) l A H) (fun x => some (.normal, ⟨x.1, df, ro⟩, x.2)) := by
  rw [run_step]
  simp only [stepS]
  cases runOps W E (run W E) l A H <;> rfl
theorem run_draw {n : Nat} {l : List DOp} {A : Tm} {df : List Nat} {ro : Option Nat} {H : Heap} : run W E (.draw n l) ⟨A, df, ro⟩ H = bnd (runD W E (run W E) H.next 0 l ([(0, { H with next := H.next + n })], A, { H with next := H.next + n })) (fun x => some (.normal, ⟨x.2.1, df, ro⟩, x.2.2)) := by
  rw [run_step]
  simp only [stepS]
  cases runD W E (run W E) H.next 0 l ([(0, { H with next := H.next + n })], A, { H with next := H.next + n }) <;> rfl
/-! ### Operations -/
theorem ops_nil {ex : Ex} {A : Tm} {H : Heap} : runOps W E ex [] A H = some (A, H) := (Eq.refl _).trans rfl
theorem ops_cons {ex : Ex} {d : Option Nat} {g : Option (Nat × Bool)} {k : SK} {r : List SOp} {A : Tm} {H : Heap} :
    runOps W E ex (⟨d, g, k⟩ :: r) A H = wsel (wantedS A g) (bnd (stepK W E ex A H k) fun x => runOps W E ex r (putT A d x.1) x.2) (runOps W E ex r (putT A d (.tup [])) H) := by
  simp only [runOps, wsel]
  cases wantedS A g with
  | none => rfl
  | some b =>
    cases b with
    | true => cases stepK W E ex A H k <;> rfl
    | false => rfl
@[congr] theorem runOps_congr {ex : Ex} {l : List SOp} {A A' : Tm} {H H' : Heap} (hA : A = A') (hH : H = H') : runOps W E ex l A H = runOps W E ex l A' H' := by rw [hA, hH]
theorem wanted_none {A : Tm} : wantedS A none = some true := (Eq.refl _).trans rfl
theorem wanted_some {A : Tm} {g : Nat} {b : Bool} : wantedS A (some (g, b)) = (match getX A g with | .bool c => some (c == b) | .tup [] => some false | _ => none) := (Eq.refl _).trans rfl
theorem stepK_p {ex : Ex} {A : Tm} {H : Heap} {o : PK} : stepK W E ex A H (.p o) = bnd (evP A o) fun v => some (v, H) := by
  simp only [stepK]; cases evP A o <;> rfl
theorem stepK_r {ex : Ex} {A : Tm} {H : Heap} {o : RK} : stepK W E ex A H (.r o) = bnd (evR W H A o) fun v => some (v, H) := by
  simp only [stepK]; cases evR W H A o <;> rfl
theorem stepK_a {ex : Ex} {A : Tm} {H : Heap} {o : AK} : stepK W E ex A H (.a o) = bnd (evA A H.next o) fun x => some (x.2, H.push x.1) := by
  simp only [stepK]; cases evA A H.next o <;> rfl
theorem stepK_f {A : Tm} {H : Heap} {f : FuncId} {args : List SX} : stepK W E (run W E) A H (.e (.callf f args)) = go W E f (args.map (evX A)) H := (Eq.refl _).trans rfl
theorem stepK_v {A : Tm} {H : Heap} {x : SX} {args : List SX} : stepK W E (run W E) A H (.e (.callv x args)) = (match evX A x with
    | .fn f first cap => go W E f (first ++ args.map (evX A) ++ cap) H
    | .yld l => bnd (yldS (run W E) l (args.map (evX A)) H) fun x => some (.bool x.1, x.2)
    | _ => none) := by
  simp only [stepK, evE, go]
  cases evX A x with
  | yld l => dsimp only; cases yldS (run W E) l (args.map (evX A)) H <;> rfl
  | _ => rfl
theorem getX_put {A : Tm} {i k : Nat} {v : AV} : getX (putT A (some i) v) k = if k = i then v else getX A k := by
  simp only [getX, putT, Tr.get_set]
  by_cases e : k = i
  · simp [e]
  · simp [e]
theorem getX_no {A : Tm} {k : Nat} {v : AV} : getX (putT A none v) k = getX A k := (Eq.refl _).trans rfl
theorem getX_e {k : Nat} : getX .e k = .unk := by simp [getX, Tr.get_e]
/-! ### A call -/
theorem go_code {f : FuncId} {sf : SFn} {args : List AV} {H : Heap} (hE : E f = some (.code sf)) (hl : args.length ≤ sf.nt) :
    go W E f args H = bnd (run W E sf.body ⟨putL .e 0 args, [], none⟩ H) fun x => match x.1 with | .exit _ => none | _ => finish W sf.res x.2.1 x.2.2 := by
  simp only [go, callS, hE, if_pos hl]
  cases run W E sf.body ⟨putL .e 0 args, [], none⟩ H with
  | none => rfl
  | some x => obtain ⟨x, f', H'⟩ := x; cases x <;> rfl
theorem finish_nil {rs : List SRes} {A : Tm} {ro : Option Nat} {H : Heap} : finish W rs ⟨A, [], ro⟩ H = bnd (resL W H A rs) fun l => some (oneOrTup l, H) := by
  simp only [finish, shutMarks]
  cases resL W H A rs <;> rfl
theorem putL_nil {A : Tm} {i : Nat} : putL A i [] = A := (Eq.refl _).trans rfl
theorem putL_cons {A : Tm} {i : Nat} {v : AV} {l : List AV} : putL A i (v :: l) = putL (putT A (some i) v) (i + 1) l := (Eq.refl _).trans rfl
end
end Go.Proofs.YtjfnhdiimibmiaaDoor.Sx

/- What a piece of a run keeps of memory; rows that append has made. -/
namespace Go.Proofs.YtjfnhdiimibmiaaDoor.Sx

theorem HWf.empty : HWf ⟨0, .e, .e⟩ := ⟨fun j c t l h => by simp [Tr.get_e] at h, fun i _ => by simp [Tr.get_e]⟩

/-- All but these blocks (and lines) are as they were. -/
structure Keep (fp : List Nat) (H H' : Heap) : Prop where
  nx : H.next ≤ H'.next
  objs : ∀ i, i < H.next → i ∉ fp → H'.objs.get i = H.objs.get i
  lines : ∀ i, i < H.next → i ∉ fp → H'.lines.get i = H.lines.get i
  wf : HWf H'
theorem Keep.refl {H : Heap} (h : HWf H) (fp : List Nat) : Keep fp H H := ⟨Nat.le_refl _, fun _ _ _ => rfl, fun _ _ _ => rfl, h⟩
theorem Keep.mono {fp fp' : List Nat} {H H' : Heap} (h : Keep fp H H') (hs : ∀ i, i < H.next → i ∈ fp → i ∈ fp') : Keep fp' H H' :=
  ⟨h.nx, fun i hi hn => h.objs i hi (fun hm => hn (hs i hi hm)), fun i hi hn => h.lines i hi (fun hm => hn (hs i hi hm)), h.wf⟩
theorem Keep.trans {fp fp' : List Nat} {H H' H'' : Heap} (h : Keep fp H H') (k : Keep fp' H' H'') : Keep (fp ++ fp') H H'' := by
  refine ⟨Nat.le_trans h.nx k.nx, fun i hi hn => ?_, fun i hi hn => ?_, k.wf⟩
  · simp only [List.mem_append, not_or] at hn
    rw [k.objs i (Nat.lt_of_lt_of_le hi h.nx) hn.2, h.objs i hi hn.1]
  · simp only [List.mem_append, not_or] at hn
    rw [k.lines i (Nat.lt_of_lt_of_le hi h.nx) hn.2, h.lines i hi hn.1]
theorem HWf.lt {H : Heap} (h : HWf H) {j : Nat} {o : AObj} (hj : H.get j = some o) : j < H.next := by
  rcases Nat.lt_or_ge j H.next with h' | h'
  · exact h'
  · have := Heap.get_of_objs hj
    rw [h.clean j h'] at this; cases this
theorem HWf.line_lt {H : Heap} (h : HWf H) {j l : Nat} {c : Cells} {t : TypeId} (hj : H.get j = some (.cells c t (some l))) : l < H.next := by
  have h1 := h.root j c t l (Heap.get_of_objs hj)
  rcases Nat.lt_or_ge l H.next with h' | h'
  · exact h'
  · rw [h.clean l h'] at h1; cases h1
theorem Keep.get {fp : List Nat} {H H' : Heap} (k : Keep fp H H') (h : HWf H) {j : Nat} {o : AObj} (hj : H.get j = some o) (hn : j ∉ fp) (hl : ∀ l, o.line = some l → l ∉ fp) : H'.get j = some o := by
  have hlt := h.lt hj
  have hob := k.objs j hlt hn
  have hj0 := Heap.get_of_objs hj
  unfold Heap.get at hj ⊢
  rw [hob, hj0]
  rw [hj0] at hj
  cases o with
  | cells c t ln =>
    cases ln with
    | none => rfl
    | some l =>
      have hll : l < H.next := h.line_lt (j := j) (c := c) (t := t) (by unfold Heap.get; rw [hj0]; exact hj)
      have := k.lines l hll (hl l rfl)
      simp only [this]
      exact hj
  | _ => rfl

theorem push_keep {H : Heap} (h : HWf H) {o : AObj} (ho : o.line = none) : Keep [] H (H.push o) ∧ (H.push o).get H.next = some o ∧ (H.push o).next = H.next + 1 := by
  have e : H.push o = { next := H.next + 1, objs := H.objs.set H.next o, lines := H.lines } := by
    cases o with
    | cells c t ln => cases ln <;> first | rfl | cases ho
    | _ => rfl
  rw [e]
  refine ⟨⟨Nat.le_succ _, fun i hi _ => ?_, fun _ _ _ => rfl, h.set (Nat.le_succ _) (Nat.lt_succ_self _) (fun l hl => by rw [ho] at hl; cases hl)⟩, ?_, rfl⟩
  · simp only [Tr.get_set]; rw [if_neg (by omega)]
  · cases o <;> simp [AObj.line] at ho <;> simp [Heap.get, Tr.get_set, ho]
theorem setAt_keep {H : Heap} (h : HWf H) {i : Nat} {o o' : AObj} (hi : H.get i = some o) (ho : o'.line = none) : Keep [i] H (H.setAt i o') ∧ (H.setAt i o').get i = some o' ∧ (H.setAt i o').next = H.next := by
  refine ⟨⟨Nat.le_refl _, fun j _ hn => ?_, fun _ _ _ => rfl, h.set (Nat.le_refl _) (h.lt hi) (fun l hl => by rw [ho] at hl; cases hl)⟩, ?_, rfl⟩
  · simp only [Heap.setAt, Tr.get_set]
    rw [if_neg (fun e => hn (by simp [e]))]
  · cases o' <;> simp [AObj.line] at ho <;> simp [Heap.get, Heap.setAt, Tr.get_set, ho]

/-- A row that append has made (or none): its cells; the numbers in which it stands. -/
inductive Row (H : Heap) (ty es : Nat) : List AV → AV → List Nat → Prop
  | nil : Row H ty es [] (.sl none 0 (.exact 0)) []
  | mk {flat : List AV} {j l fl len : Nat} (h0 : 0 < len) (hl : flat.length = len * es) (hg : H.get j = some (.cells (.lst flat) ty (some l))) (hln : H.lines.get l = some (fl, j)) : Row H ty es flat (.sl (some ⟨.own j, 0⟩) len (.opn es)) [j, l]
theorem Row.lt {H : Heap} (h : HWf H) {ty es : Nat} {flat : List AV} {v : AV} {ids : List Nat} (r : Row H ty es flat v ids) : ∀ x ∈ ids, x < H.next := by
  cases r with
  | nil => intro x hx; cases hx
  | mk _ _ hg _ =>
    intro x hx
    simp only [List.mem_cons, List.not_mem_nil, or_false] at hx
    rcases hx with rfl | rfl
    · exact h.lt hg
    · exact h.line_lt hg
theorem Row.keep {H H' : Heap} (h : HWf H) {fp : List Nat} (k : Keep fp H H') {ty es : Nat} {flat : List AV} {v : AV} {ids : List Nat} (r : Row H ty es flat v ids) (hd : ∀ x ∈ ids, x ∉ fp) : Row H' ty es flat v ids := by
  cases r with
  | nil => exact .nil
  | mk h0 hl hg hln =>
    rename_i j l fl len
    have h1 := hd j (by simp)
    have h2 := hd l (by simp)
    exact .mk h0 hl (k.get h hg h1 (fun l' e => by cases e; exact h2)) (by rw [k.lines l (h.line_lt hg) h2]; exact hln)
/-- How many elements it has. -/
theorem Row.len {H : Heap} {ty es : Nat} {flat : List AV} {v : AV} {ids : List Nat} (r : Row H ty es flat v ids) (he : 0 < es) {n : Nat} (hn : flat.length = n * es) : ∃ a c, v = .sl a n c := by
  cases r with
  | nil =>
    have : n = 0 := by
      rcases Nat.eq_zero_or_pos n with h | h
      · exact h
      · have := Nat.mul_pos h he; simp at hn; omega
    subst this; exact ⟨_, _, rfl⟩
  | mk h0 hl hg hln =>
    rename_i j l fl len
    have : len = n := Nat.eq_of_mul_eq_mul_right he (hl.symm.trans hn)
    subst this; exact ⟨_, _, rfl⟩

theorem floor_le {H : Heap} {j l fl tp : Nat} {c : Cells} {t : TypeId} (hg : H.get j = some (.cells c t (some l))) (hln : H.lines.get l = some (fl, tp)) : fl ≤ j := by
  have h0 := Heap.get_of_objs hg
  unfold Heap.get at hg
  rw [h0] at hg
  simp only [hln] at hg
  split at hg
  · assumption
  · cases hg

/-- Appending to such a row. -/
theorem Row.addN {W : World} {H : Heap} (h : HWf H) {ty es bytes : Nat} {flat new : List AV} {v : AV} {ids : List Nat} {k : Nat} (r : Row H ty es flat v ids) (he : 0 < es) (hk : 0 < k) (hnl : new.length = k * es) (h1 : new.all oneC = true)
    {n : Nat} (hn : flat.length = n * es) (hb : (n + k) * bytes ≤ 140737488355328) :
    ∃ v' H' ids', appN W H ty es bytes v k new = some (v', H') ∧ Row H' ty es (flat ++ new) v' ids' ∧ Keep ids H H' ∧ (∀ i ∈ ids', i ∈ ids ∨ H.next ≤ i) := by
  cases r with
  | nil =>
    have hn0 : n = 0 := by
      rcases Nat.eq_zero_or_pos n with h' | h'
      · exact h'
      · have := Nat.mul_pos h' he; simp at hn; omega
    subst hn0
    have hH : H.push (.cells (.lst ([] ++ new)) ty (some H.next)) = { next := H.next + 1, objs := H.objs.set H.next (.cells (.lst ([] ++ new)) ty (some H.next)), lines := H.lines.set H.next (H.next, H.next) } := (Eq.refl _).trans rfl
    refine ⟨_, _, [H.next, H.next], by simp only [appN, and_self, if_true, if_neg (show ¬ k = 0 by omega), appNew]; rw [if_pos (by simpa using hb)], ?_, ?_, by simp⟩
    · rw [hH]
      exact .mk (fl := H.next) hk (by simpa using hnl) (by simp [Heap.get, Tr.get_set]) (by simp [Tr.get_set])
    · rw [hH]
      refine ⟨Nat.le_succ _, fun i hi _ => ?_, fun i hi _ => ?_, h.set (Nat.le_succ _) (Nat.lt_succ_self _) (fun l e => by cases e; exact .inl rfl)⟩
      · simp only [Tr.get_set]; rw [if_neg (by omega)]
      · simp only [Tr.get_set]; rw [if_neg (by omega)]
  | mk h0 hl hg hln =>
    rename_i j l fl len
    have hlen : len = n := Nat.eq_of_mul_eq_mul_right he (hl.symm.trans hn)
    subst hlen
    have hfl := floor_le hg hln
    have hjlt := h.lt hg
    have hllt := h.line_lt hg
    have hget : Cells.getN (.lst flat) 0 (len * es) = some flat := by
      have key : ∀ (l' : List AV) (o m : Nat), o + m ≤ l'.length → Cells.getN (.lst l') o m = some ((l'.drop o).take m) := by
        intro l' o m
        induction m generalizing o with
        | zero => intro _; simp [Cells.getN]
        | succ m ih =>
          intro hm
          have hlt : o < l'.length := by omega
          simp only [Cells.getN, Cells.get, List.getElem?_eq_getElem hlt, ih (o + 1) (by omega)]
          rw [List.drop_eq_getElem_cons hlt, List.take_succ_cons]
      rw [key flat 0 (len * es) (by omega)]
      simp [← hl]
    have hke : 0 < k * es := Nat.mul_pos hk he
    have hmul : (len + k) * es = len * es + k * es := Nat.add_mul _ _ _
    refine ⟨.sl (some ⟨.own H.next, 0⟩) (len + k) (.opn es), { next := H.next + 1, objs := H.objs.set H.next (.cells (.lst (flat ++ new)) ty (some l)), lines := H.lines.set l (fl, H.next) }, [H.next, l], ?_, ?_, ?_, ?_⟩
    · simp only [appN]
      rw [if_pos ⟨trivial, he⟩, if_neg (by omega)]
      simp only [hg, Cells.size]
      rw [if_neg (by omega), if_pos ⟨trivial, hl.symm, trivial⟩]
      simp only [hln, if_true, hget]
      rw [if_pos ⟨hb, h1⟩]
    · refine .mk (fl := fl) (by omega) (by rw [List.length_append, hl, hnl, hmul]) ?_ (by simp [Tr.get_set])
      simp only [Heap.get, Tr.get_set, if_true]
      rw [if_pos (by omega)]
    · refine ⟨Nat.le_succ _, fun i hi _ => ?_, fun i hi hn' => ?_, h.set (Nat.le_succ _) (Nat.lt_succ_self _) (fun l' e => by cases e; exact .inr (h.root j _ _ l (Heap.get_of_objs hg)))⟩
      · simp only [Tr.get_set]; rw [if_neg (by omega)]
      · simp only [Tr.get_set]; rw [if_neg (fun e => hn' (by simp [e]))]
    · intro i hi
      simp only [List.mem_cons, List.not_mem_nil, or_false] at hi
      rcases hi with rfl | rfl
      · exact .inr (Nat.le_refl _)
      · exact .inl (by simp)

/-! ### What lies in memory behind a step -/
theorem Row.app {W : World} {H : Heap} (h : HWf H) {ty es bytes : Nat} {flat new : List AV} {v x : AV} {ids : List Nat} {k : Nat} {os : Bool} (r : Row H ty es flat v ids) (he : 0 < es) (hs : srcA W H es os x = some (k, new)) (hk : 0 < k) (hnl : new.length = k * es) (h1 : new.all oneC = true)
    {n : Nat} (hn : flat.length = n * es) (hb : (n + k) * bytes ≤ 140737488355328) :
    ∃ v' H' ids', appA W H ty es bytes os v x = some (v', H') ∧ Row H' ty es (flat ++ new) v' ids' ∧ Keep ids H H' ∧ (∀ i ∈ ids', i ∈ ids ∨ H.next ≤ i) := by
  obtain ⟨v', H', ids', e, r⟩ := Row.addN (W := W) (bytes := bytes) h r he hk hnl h1 hn hb
  exact ⟨v', H', ids', by simp only [appA, hs]; exact e, r⟩

theorem get_push_cells {H : Heap} {c : Cells} {t : TypeId} {i : Nat} : (H.push (.cells c t none)).get i = if i = H.next then some (.cells c t none) else H.get i := by
  by_cases e : i = H.next
  · simp [Heap.get, Heap.push, Heap.lay, Tr.get_set, e]
  · simp [Heap.get, Heap.push, Heap.lay, Tr.get_set, e]
theorem get_push_map {H : Heap} {es : List (AV × AV)} {i : Nat} : (H.push (.map es)).get i = if i = H.next then some (.map es) else H.get i := by
  by_cases e : i = H.next
  · simp [Heap.get, Heap.push, Heap.lay, Tr.get_set, e]
  · simp [Heap.get, Heap.push, Heap.lay, Tr.get_set, e]
theorem push_next {H : Heap} {o : AObj} : (H.push o).next = H.next + 1 := (Eq.refl _).trans rfl
theorem get_setAt_cells {H : Heap} {c : Cells} {t : TypeId} {i j : Nat} : (H.setAt j (.cells c t none)).get i = if i = j then some (.cells c t none) else H.get i := by
  by_cases e : i = j
  · simp [Heap.get, Heap.setAt, Tr.get_set, e]
  · simp [Heap.get, Heap.setAt, Tr.get_set, e]
theorem get_setAt_map {H : Heap} {es : List (AV × AV)} {i j : Nat} : (H.setAt j (.map es)).get i = if i = j then some (.map es) else H.get i := by
  by_cases e : i = j
  · simp [Heap.get, Heap.setAt, Tr.get_set, e]
  · simp [Heap.get, Heap.setAt, Tr.get_set, e]
theorem setAt_next {H : Heap} {i : Nat} {o : AObj} : (H.setAt i o).next = H.next := (Eq.refl _).trans rfl
theorem bft : (false == true) = false := (Eq.refl _).trans rfl
theorem btf : (true == false) = false := (Eq.refl _).trans rfl
theorem putT_none {A : Tm} {v : AV} : putT A none v = A := (Eq.refl _).trans rfl
theorem stepK_e {W : World} {E : Env} {A : Tm} {H : Heap} {n : Nat} {x v : SX} : stepK W E (run W E) A H (.e (.store n x v)) = bnd (storeA H n (evX A x) (evX A v)) fun H' => some (.tup [], H') := by
  simp only [stepK, evE, evD]; cases storeA H n (evX A x) (evX A v) <;> rfl
theorem eqV_pn {b : Option Ad} : eqV .ptr (.ptr none) (.ptr b) = some b.isNone := (Eq.refl _).trans rfl
theorem eqV_ps {a : Ad} : eqV .ptr (.ptr (some a)) (.ptr none) = some false := (Eq.refl _).trans rfl
theorem eqV_mn {b : Option Rf} : eqV .map (.map none) (.map b) = some b.isNone := (Eq.refl _).trans rfl
theorem eqV_ms {a : Rf} : eqV .map (.map (some a)) (.map none) = some false := (Eq.refl _).trans rfl
theorem eqV_sn {a b : Nat} {c d : Cap} {x : Option Ad} : eqV .sl (.sl none a c) (.sl x b d) = some x.isNone := (Eq.refl _).trans rfl
theorem eqV_ss {a b : Nat} {c d : Cap} {x : Ad} : eqV .sl (.sl (some x) a c) (.sl none b d) = some false := (Eq.refl _).trans rfl
theorem eqV_se {b : Nat} {d : Cap} : eqV .sl .emp (.sl none b d) = some false := (Eq.refl _).trans rfl
theorem eqV_ag {ls : List LK} {xs ys : List AV} : eqV (.agg ls) (.agg xs) (.agg ys) = eqL ls xs ys := (Eq.refl _).trans rfl
theorem eqV_b {x y : Bool} : eqV .bool (.bool x) (.bool y) = some (x == y) := (Eq.refl _).trans rfl
theorem bin_add {k : IntKind} {x y : Int} : bin .add (.int k x) (.int k y) = some (.int k (k.wrap (x + y))) := by simp [bin, binI]
theorem bin_sub {k : IntKind} {x y : Int} : bin .sub (.int k x) (.int k y) = some (.int k (k.wrap (x - y))) := by simp [bin, binI]
theorem bin_mul {k : IntKind} {x y : Int} : bin .mul (.int k x) (.int k y) = some (.int k (k.wrap (x * y))) := by simp [bin, binI]
theorem bin_eql {k : IntKind} {x y : Int} : bin .eql (.int k x) (.int k y) = some (.bool (decide (x = y))) := by
  simp only [bin, binI, if_true]; congr 2
theorem bin_neq {k : IntKind} {x y : Int} : bin .neq (.int k x) (.int k y) = some (.bool !(decide (x = y))) := by
  simp only [bin, binI, if_true]; congr 2
theorem bin_lss {k : IntKind} {x y : Int} : bin .lss (.int k x) (.int k y) = some (.bool (decide (x < y))) := by simp [bin, binI]
theorem bin_leq {k : IntKind} {x y : Int} : bin .leq (.int k x) (.int k y) = some (.bool (decide (x ≤ y))) := by simp [bin, binI]
theorem bin_gtr {k : IntKind} {x y : Int} : bin .gtr (.int k x) (.int k y) = some (.bool (decide (y < x))) := by simp [bin, binI]
theorem bin_geq {k : IntKind} {x y : Int} : bin .geq (.int k x) (.int k y) = some (.bool (decide (y ≤ x))) := by simp [bin, binI]

section
variable {W : World} {E : Env}
theorem ops_0 {ex : Ex} {d : Option Nat} {k : SK} {r : List SOp} {A : Tm} {H : Heap} :
    runOps W E ex (⟨d, none, k⟩ :: r) A H = bnd (stepK W E ex A H k) fun x => runOps W E ex r (putT A d x.1) x.2 := by rw [ops_cons]; rfl
theorem ops_t {ex : Ex} {d : Option Nat} {g : Nat × Bool} {k : SK} {r : List SOp} {A : Tm} {H : Heap} (h : wantedS A (some g) = some true) :
    runOps W E ex (⟨d, some g, k⟩ :: r) A H = bnd (stepK W E ex A H k) fun x => runOps W E ex r (putT A d x.1) x.2 := by rw [ops_cons, h]; rfl
theorem ops_f {ex : Ex} {d : Option Nat} {g : Nat × Bool} {k : SK} {r : List SOp} {A : Tm} {H : Heap} (h : wantedS A (some g) = some false) :
    runOps W E ex (⟨d, some g, k⟩ :: r) A H = runOps W E ex r (putT A d (.tup [])) H := by rw [ops_cons, h]; rfl
theorem cond_t {c : SX} {a b : SC} {A : Tm} {df : List Nat} {ro : Option Nat} {H : Heap} (h : evX A c = .bool true) : run W E (.cond c a b) ⟨A, df, ro⟩ H = run W E a ⟨A, df, ro⟩ H := by rw [run_cond, h]; rfl
theorem cond_f {c : SX} {a b : SC} {A : Tm} {df : List Nat} {ro : Option Nat} {H : Heap} (h : evX A c = .bool false) : run W E (.cond c a b) ⟨A, df, ro⟩ H = run W E b ⟨A, df, ro⟩ H := by rw [run_cond, h]; rfl
end
end Go.Proofs.YtjfnhdiimibmiaaDoor.Sx

/- Rules for regions that draw their order. -/
namespace Go.Proofs.YtjfnhdiimibmiaaDoor.Sx
mutual
theorem AV.same_refl : ∀ a : AV, AV.same a a = true
  | .unk => rfl
  | .bool b => by simp [AV.same]
  | .int k a => by simp [AV.same]
  | .str a => by simp [AV.same]
  | .ptr a => by simp [AV.same]
  | .sl a l c => by simp [AV.same]
  | .emp => rfl
  | .fin a e => by simp [AV.same]
  | .map a => by simp [AV.same]
  | .fn f x y => by simp [AV.same, AV.sames_refl x, AV.sames_refl y]
  | .yld a => by simp [AV.same]
  | .nfn => rfl
  | .ifc t v => by simp [AV.same, AV.same_refl v]
  | .nif => rfl
  | .agg a => by simp [AV.same, AV.sames_refl a]
  | .tup a => by simp [AV.same, AV.sames_refl a]
theorem AV.sames_refl : ∀ l : List AV, AV.sames l l = true
  | [] => rfl
  | a :: l => by simp [AV.sames, AV.same_refl a, AV.sames_refl l]
end
/-- Wherever a reading may fall, it reads this. -/
def RdOk (W : World) (A : Tm) (o : RK) (lo : Nat) (v : AV) (l : List (Nat × Heap)) : Prop := ∀ x ∈ l, x.1 < lo ∨ evR W x.2 A o = some v
section
variable {W : World} {E : Env} {base p num lo : Nat} {mask : List Nat} {dst : Option Nat} {hs : List (Nat × Heap)} {A : Tm} {H : Heap} {ex : Ex}
theorem rd_nil {o : RK} {v : AV} : RdOk W A o lo v [] = True := by simp [RdOk]
theorem rd_cons {o : RK} {v : AV} {q : Nat} {h : Heap} {r : List (Nat × Heap)} : RdOk W A o lo v ((q, h) :: r) = ((q < lo ∨ evR W h A o = some v) ∧ RdOk W A o lo v r) := by simp [RdOk]
theorem runD_nil {s : List (Nat × Heap) × Tm × Heap} : runD W E ex base p [] s = some s := (Eq.refl _).trans rfl
theorem runD_cons {d : DOp} {r : List DOp} {s : List (Nat × Heap) × Tm × Heap} : runD W E ex base p (d :: r) s = bnd (stD W E ex base p d s) fun s' => runD W E ex base (p + 1) r s' := by
  simp only [runD]; cases stD W E ex base p d s <;> rfl
theorem stD_t {g : Nat × Bool} {k : SK} (h : wantedS (hide A mask) (some g) = some true) : stD W E ex base p ⟨num, lo, mask, ⟨dst, some g, k⟩⟩ (hs, A, H) = stD W E ex base p ⟨num, lo, mask, ⟨dst, none, k⟩⟩ (hs, A, H) := by
  unfold stD; dsimp only; rw [h]; rfl
theorem stD_fe {g : Nat × Bool} {o : EK} (h : wantedS (hide A mask) (some g) = some false) : stD W E ex base p ⟨num, lo, mask, ⟨dst, some g, .e o⟩⟩ (hs, A, H) = some ((p + 1, H) :: hs, putT A dst (.tup []), H) := by
  simp only [stD, h, isDeed]; rfl
theorem stD_fp {g : Nat × Bool} {o : PK} (h : wantedS (hide A mask) (some g) = some false) : stD W E ex base p ⟨num, lo, mask, ⟨dst, some g, .p o⟩⟩ (hs, A, H) = some (hs, putT A dst (.tup []), H) := by
  simp only [stD, h, isDeed]; rfl
theorem stD_fr {g : Nat × Bool} {o : RK} (h : wantedS (hide A mask) (some g) = some false) : stD W E ex base p ⟨num, lo, mask, ⟨dst, some g, .r o⟩⟩ (hs, A, H) = some (hs, putT A dst (.tup []), H) := by
  simp only [stD, h, isDeed]; rfl
theorem stD_fa {g : Nat × Bool} {o : AK} (h : wantedS (hide A mask) (some g) = some false) : stD W E ex base p ⟨num, lo, mask, ⟨dst, some g, .a o⟩⟩ (hs, A, H) = some (hs, putT A dst (.tup []), H) := by
  simp only [stD, h, isDeed]; rfl
theorem stD_p {o : PK} : stD W E ex base p ⟨num, lo, mask, ⟨dst, none, .p o⟩⟩ (hs, A, H) = bnd (evP (hide A mask) o) fun v => some (hs, putT A dst v, H) := by
  simp only [stD, wantedS]; cases evP (hide A mask) o <;> rfl
open Classical in
theorem stD_r {o : RK} {q : Nat} {h : Heap} : stD W E ex base p ⟨num, lo, mask, ⟨dst, none, .r o⟩⟩ ((q, h) :: hs, A, H) = bnd (evR W h (hide A mask) o) fun v => if RdOk W (hide A mask) o lo v hs then some ((q, h) :: hs, putT A dst v, H) else none := by
  simp only [stD, wantedS]
  cases hv : evR W h (hide A mask) o with
  | none => rfl
  | some v =>
    dsimp only [bnd]
    congr 1
    rw [eq_iff_iff, List.all_eq_true]
    constructor
    · intro hall x hx
      have := hall x (List.mem_cons_of_mem _ hx)
      simp only [Bool.or_eq_true, decide_eq_true_eq] at this
      rcases this with h1 | h1
      · exact .inl h1
      · split at h1
        · rename_i u hu
          exact .inr (by rw [hu, AV.same_eq h1])
        · cases h1
    · intro hall x hx
      simp only [Bool.or_eq_true, decide_eq_true_eq]
      rcases List.mem_cons.1 hx with rfl | hx
      · exact .inr (by rw [hv]; exact AV.same_refl v)
      · rcases hall x hx with h1 | h1
        · exact .inl h1
        · exact .inr (by rw [h1]; exact AV.same_refl v)
theorem stD_a {o : AK} : stD W E ex base p ⟨num, lo, mask, ⟨dst, none, .a o⟩⟩ (hs, A, H) = bnd (evA (hide A mask) (base + num) o) fun x => some (hs, putT A dst x.2, H.lay (base + num) x.1) := by
  simp only [stD, wantedS]; cases evA (hide A mask) (base + num) o <;> rfl
theorem stD_e {o : EK} : stD W E ex base p ⟨num, lo, mask, ⟨dst, none, .e o⟩⟩ (hs, A, H) = bnd (stepK W E ex (hide A mask) H (.e o)) fun x => some ((p + 1, x.2) :: hs, putT A dst x.1, x.2) := by
  simp only [stD, wantedS, stepK]; cases evE W E ex (hide A mask) H o <;> rfl
theorem getX_hide {m : List Nat} {k : Nat} : getX (hide A m) k = if m.contains k then .unk else getX A k := by
  simp only [getX, hide_get]
  by_cases h : k ∈ m
  · simp [h]
  · simp [h]
theorem get_lay_cells {id i : Nat} {c : Cells} {t : TypeId} : (H.lay id (.cells c t none)).get i = if i = id then some (.cells c t none) else H.get i := by
  by_cases e : i = id
  · simp [Heap.get, Heap.lay, Tr.get_set, e]
  · simp [Heap.get, Heap.lay, Tr.get_set, e]
theorem get_nextH {n : Nat} {i : Nat} : ({ H with next := n } : Heap).get i = H.get i := (Eq.refl _).trans rfl
theorem stepK_app {t es by_ : Nat} {os : Bool} {x y : SX} : stepK W E (run W E) A H (.e (.app t es by_ os x y)) = appA W H t es by_ os (evX A x) (evX A y) := (Eq.refl _).trans rfl
theorem stepK_mupd {ks : KS} {m k v : SX} : stepK W E (run W E) A H (.e (.mupd ks m k v)) = bnd (mupdA H ks (evX A m) (evX A k) (evX A v)) fun H' => some (.tup [], H') := by
  simp only [stepK, evE, evD]; cases mupdA H ks (evX A m) (evX A k) (evX A v) <;> rfl
theorem mupd_own {ks : KS} {i : Nat} {k v : AV} {es : List (AV × AV)} (hg : H.get i = some (.map es)) : mupdA H ks (.map (some (.own i))) k v = if fitK ks k then bnd (updK ks es k v) (fun es' => some (H.setAt i (.map es'))) else none := by
  simp only [mupdA, hg]; cases updK ks es k v <;> rfl
/-- A store into a block of the call's own. -/
theorem store_own {n i off : Nat} {v : AV} {cs : List AV} {t : TypeId} (hg : H.get i = some (.cells (.lst cs) t none)) (hu : noUnk v = true) (hn : v.cells.length = n) (hl : off + n ≤ cs.length) (ho : v.cells.all oneC = true) :
    storeA H n (.ptr (some ⟨.own i, off⟩)) v = some (H.setAt i (.cells ((Cells.lst cs).setN off v.cells) t none)) := by
  simp only [storeA, hu, hn, if_true, Heap.write, hg, Cells.size]
  rw [if_pos ⟨by omega, ho⟩]
end
end Go.Proofs.YtjfnhdiimibmiaaDoor.Sx

/- Lists of bytes that can be read. -/
namespace Go.Proofs.YtjfnhdiimibmiaaDoor.Sx
theorem keep_lay {H : Heap} (h : HWf H) {id : Nat} {o : AObj} (hid : id < H.next) (ho : o.line = none) : Keep [id] H (H.lay id o) ∧ (H.lay id o).get id = some o := by
  refine ⟨⟨by rw [lay_next]; exact Nat.le_refl _, fun i _ hn => lay_objs (fun e => hn (by simp [e])), fun i _ _ => ?_, h.lay hid (fun l hl => by rw [ho] at hl; cases hl)⟩, Heap.get_lay_self (fun l hl => by rw [ho] at hl; cases hl)⟩
  cases o with
  | cells c t ln => cases ln <;> first | rfl | cases ho
  | _ => rfl

theorem keep_bump {H : Heap} (h : HWf H) {n : Nat} (hn : H.next ≤ n) : Keep [] H { H with next := n } := ⟨hn, fun _ _ _ => rfl, fun _ _ _ => rfl, h.root, fun i hi => h.clean i (Nat.le_trans hn hi)⟩
variable {W : World} {E : Env} {H : Heap}

abbrev cb (bs : List UInt8) : List AV := bs.map fun b => .int .u8 b.toNat
/-- Bytes, in a block of the call's own, or in one that lay there. -/
inductive By (W : World) (H : Heap) (bs : List UInt8) : AV → List Nat → Prop
  | nil (h : bs = []) : By W H bs (.sl none 0 (.exact 0)) []
  | zero (h : bs = []) (j : Nat) (c : Cells) (hb : H.get j = some (.cells c 5 none)) : By W H bs (.sl (some ⟨.own j, 0⟩) 0 (.exact 0)) [j]
  | emp (h : bs = []) : By W H bs .emp []
  | old (r off : Nat) (cap : Cap) (c : Cells) (hb : blkOf W H (.old r) = some c) (hg : c.getN off bs.length = some (cb bs)) : By W H bs (.sl (some ⟨.old r, off⟩) bs.length cap) []
  | own (j l : Nat) (cap : Cap) (hb : H.get j = some (.cells (.lst (cb bs)) 5 (some l))) : By W H bs (.sl (some ⟨.own j, 0⟩) bs.length cap) [j, l]
theorem getN_all (l : List AV) : Cells.getN (.lst l) 0 l.length = some l := by
  have key : ∀ (o m : Nat), o + m ≤ l.length → Cells.getN (.lst l) o m = some ((l.drop o).take m) := by
    intro o m
    induction m generalizing o with
    | zero => intro _; simp [Cells.getN]
    | succ m ih =>
      intro hm
      have hlt : o < l.length := by omega
      simp only [Cells.getN, Cells.get, List.getElem?_eq_getElem hlt, ih (o + 1) (by omega)]
      rw [List.drop_eq_getElem_cons hlt, List.take_succ_cons]
  rw [key 0 l.length (by omega)]; simp
theorem bytesOf_cb (bs : List UInt8) : bytesOfL (cb bs) = some bs := by
  induction bs with
  | nil => rfl
  | cons b bs ih =>
    simp only [cb, List.map_cons, bytesOfL]
    rw [show bytesOfL (List.map (fun b => AV.int .u8 b.toNat) bs) = some bs from ih]
    simp
theorem By.keep {bs : List UInt8} {v : AV} {ids : List Nat} (h : By W H bs v ids) (hwf : HWf H) {fp : List Nat} {H' : Heap} (k : Keep fp H H') (hd : ∀ i ∈ ids, i ∉ fp) : By W H' bs v ids := by
  cases h with
  | nil h => exact .nil h
  | zero h j c hb => exact .zero h j c (k.get hwf hb (hd j (by simp)) (fun l' e => by cases e))
  | emp h => exact .emp h
  | old r off cap c hb hg => exact .old r off cap c hb hg
  | own j l cap hb => exact .own j l cap (k.get hwf hb (hd j (by simp)) (fun l' e => by cases e; exact hd l (by simp)))

theorem By.src {bs : List UInt8} {v : AV} {ids : List Nat} (h : By W H bs v ids) : srcA W H 1 false v = some (bs.length, cb bs) := by
  cases h with
  | nil h => subst h; rfl
  | zero h j c hb =>
    subst h
    simp only [srcA, blkOf, hb, Nat.mul_one, Cells.getN]; rfl
  | emp h => subst h; rfl
  | old r off cap c hb hg => simp only [srcA, hb, Nat.mul_one, hg]
  | own j l cap hb =>
    have : Cells.getN (.lst (cb bs)) 0 bs.length = some (cb bs) := by
      have := getN_all (cb bs)
      rwa [List.length_map] at this
    simp only [srcA, blkOf, hb, Nat.mul_one, this]

theorem By.b2s {bs : List UInt8} {v : AV} {ids : List Nat} (h : By W H bs v ids) {A : Tm} {x : SX} (hx : evX A x = v) : evR W H A (.b2s x) = some (.str bs) := by
  simp only [evR, hx]
  cases h with
  | nil h => subst h; rfl
  | zero h j c hb => subst h; simp only [blkOf, hb, Cells.getN]; rfl
  | emp h => subst h; rfl
  | old r off cap c hb hg => simp only [hb, hg, bytesOf_cb]; rfl
  | own j l cap hb =>
    have : Cells.getN (.lst (cb bs)) 0 bs.length = some (cb bs) := by
      have := getN_all (cb bs)
      rwa [List.length_map] at this
    simp only [blkOf, hb, this, bytesOf_cb]; rfl
theorem By.len {bs : List UInt8} {v : AV} {ids : List Nat} (h : By W H bs v ids) {A : Tm} {x : SX} (hx : evX A x = v) : evP A (.len x) = some (.int .i64 bs.length) := by
  simp only [evP, hx]
  cases h with
  | nil h => subst h; rfl
  | zero h j c hb => subst h; rfl
  | emp h => subst h; rfl
  | old r off cap c hb hg => rfl
  | own j l cap hb => rfl
end Go.Proofs.YtjfnhdiimibmiaaDoor.Sx

