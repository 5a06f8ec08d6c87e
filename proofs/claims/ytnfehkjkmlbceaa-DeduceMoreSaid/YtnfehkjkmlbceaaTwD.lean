/- A second, deterministic reading of the program, part 4: proved sound for every order and every capacity; then what the functions do. -/
import Derived.Test.YtnfehkjkmlbceaaTwC
import Derived.IntWalk
/- The store of terms: adding a term. -/
namespace Go.Proofs.Ytnfehkjkmlbceaa.Sx
variable {W : World} {E : Env} {H : Heap}

def nextM (N : List Int) (u w : Int) : List Int := N.set u.toNat (if N.getD u.toNat 0 < IntKind.i64.wrap ((if 4611686018427387904 < w then 4611686018427387904 else w) + 1) then IntKind.i64.wrap ((if 4611686018427387904 < w then 4611686018427387904 else w) + 1) else N.getD u.toNat 0)
theorem c_add_a {p a t : Nat} {L : List T3} {vl vb : AV} {N : List Int} {idl : List Nat} {nb : Nat} {fb : List AV} {idb : List Nat} (hE : EnvT E) (s : StH H p a t L vl vb N idl nb fb idb) (x : T3)
    (hm : H.get a = some (.map (atM 0 L))) (hx : numOf x L = none) (hk : x.1 = 1) (hu : 1 ≤ x.2.1 ∧ x.2.1 ≤ 4) (hw0 : 0 ≤ x.2.2) (hN : N.length = 5) (hlen : L.length < 65536) (hpa : p ≠ a) (hpl : p ∉ idl) (hal : a ∉ idl) (hpb : p ∉ idb) (hab : a ∉ idb) (hlb : ∀ i ∈ idb, i ∉ idl) :
    ∃ H' vl' idl', go W E 43 [.ptr (some ⟨.own p, 0⟩), .agg (c3 x)] H = some (.tup [.int .i64 L.length, .int .i64 0], H') ∧ StH H' p a t (L ++ [x]) vl' vb (nextM N x.2.1 x.2.2) idl' nb fb idb ∧ H'.get a = some (.map (atM 0 (L ++ [x]))) ∧ Keep (p :: a :: idl) H H' ∧ ∀ i ∈ idl', i ∈ idl ∨ H.next ≤ i := by
  obtain ⟨k1, k2, k3⟩ := push_keep s.wf (o := .cells (.lst (c3 x)) 33 none) rfl
  obtain ⟨ax, cx, hv⟩ := s.row.len
  subst hv
  have hcell := s.cell
  have hplt := s.wf.lt s.cell
  have halt := s.wf.lt hm
  -- the block of the one term
  let H2 : Heap := { (H.push (.cells (.lst (c3 x)) 33 none)) with next := H.next + 1 + 11 }
  have kb : Keep [] (H.push (.cells (.lst (c3 x)) 33 none)) H2 := keep_bump (n := H.next + 1 + 11) k1.wf (by rw [k3]; omega)
  obtain ⟨kl, kl2⟩ := keep_lay kb.wf (id := H.next + 1 + 6) (o := .cells (.lst (c3 x)) 33 none) (by simp [H2]) rfl
  have k3' := (k1.trans kb).trans kl
  have s3 := s.keep k3' (by simp; omega) (fun y hy => by have := s.row.lt s.wf y hy; simp; omega) (fun y hy => by have := s.bts.lt s.wf y hy; simp; omega)
  obtain ⟨v', H4, ids', happ, hrow, hkeep, hids⟩ := s3.row.app (W := W) s3.wf (by omega) (os := false) (x := .sl (some ⟨.own (H.next + 1 + 6), 0⟩) 1 (.exact 1)) (k := 1) (new := c3 x)
    (by simp only [srcA, blkOf, kl2, Cells.getN, Cells.get]; simp [c3]) (by omega) rfl rfl (flat3_len L) (bytes := 24) (by omega)
  have hcell4 := hkeep.get s3.wf s3.cell hpl (fun l e => by cases e)
  have hm4 := hkeep.get s3.wf (k3'.get s.wf hm (by simp; omega) (fun l e => by cases e)) hal (fun l e => by cases e)
  have hidl : H.next ∉ idl := fun h => by have := s.row.lt s.wf _ h; omega
  have hbox4 : H4.get H.next = some (.cells (.lst (c3 x)) 33 none) := hkeep.get s3.wf (kl.get kb.wf (kb.get k1.wf k2 (by simp) (fun l e => by cases e)) (by simp; omega) (fun l e => by cases e)) hidl (fun l e => by cases e)
  have hnp : ¬ H.next = p := by omega
  have hna : ¬ H.next = a := by omega
  simp only [H2] at happ
  obtain ⟨ay, cy, hv'⟩ := hrow.len (by omega) (n := L.length + 1) (by rw [flat3_app, flat3_len]; simp)
  subst hv'
  have hw : H4.write p 0 [.sl ay (L.length + 1) cy] = some (H4.setAt p (.cells (.lst (stCells (.sl ay (L.length + 1) cy) a t vb N)) 79 none)) := by
    simp [Heap.write, hcell4, Cells.size, oneC, Cells.setN, Cells.set]
  have hupd : updK (.agg [.i, .i, .i]) (atM 0 L) (.agg (c3 x)) (.int .i64 L.length) = some (atM 0 (L ++ [x])) := by
    simp only [updK, findM, hx, Option.map_none]
    rw [← atM_app]; simp
  have hap : ¬ a = p := fun e => hpa e.symm
  have hge : ¬ (65536 : Int) ≤ L.length := by omega
  have c5 := setAt_keep hkeep.wf hcell4 (o' := .cells (.lst (stCells (.sl ay (L.length + 1) cy) a t vb N)) 79 none) rfl
  have kb5 := keep_bump (n := H4.next + 7) c5.1.wf (by rw [c5.2.2]; omega)
  have hm5 := kb5.get c5.1.wf (c5.1.get hkeep.wf hm4 (by simp [hap]) (fun l e => by cases e)) (by simp) (fun l e => by cases e)
  have c7 := setAt_keep kb5.wf hm5 (o' := .map (atM 0 (L ++ [x]))) rfl
  have kall := ((k3'.trans hkeep).trans (c5.1.trans kb5)).trans c7.1
  have hidb3 : ∀ i ∈ idb, i < H.next := s.bts.lt s.wf
  have hids' : ∀ i ∈ ids', i ∈ idl ∨ H.next ≤ i := fun i hi => by
    rcases hids i hi with h | h
    · exact .inl h
    · exact .inr (by have := k3'.nx; omega)
  have hbox7 : (({ (H4.setAt p (.cells (.lst (stCells (.sl ay (L.length + 1) cy) a t vb N)) 79 none)) with next := H4.next + 7 } : Heap).setAt a (.map (atM 0 (L ++ [x])))).get H.next = some (.cells (.lst (c3 x)) 33 none) := by
    rw [get_setAt_map, if_neg hna, get_nextH, get_setAt_cells, if_neg hnp]; exact hbox4
  have hp7 : (({ (H4.setAt p (.cells (.lst (stCells (.sl ay (L.length + 1) cy) a t vb N)) 79 none)) with next := H4.next + 7 } : Heap).setAt a (.map (atM 0 (L ++ [x])))).get p = some (.cells (.lst (stCells (.sl ay (L.length + 1) cy) a t vb N)) 79 none) := by
    rw [get_setAt_map, if_neg hpa, get_nextH, get_setAt_cells, if_pos rfl]
  have kb8 := keep_bump (n := H4.next + 7 + 19) c7.1.wf (by rw [c7.2.2]; show H4.next + 7 ≤ _; omega)
  have hp8 := kb8.get c7.1.wf hp7 (by simp) (fun l e => by cases e)
  have c9 := setAt_keep kb8.wf hp8 (o' := .cells (.lst (stCells (.sl ay (L.length + 1) cy) a t vb (nextM N x.2.1 x.2.2))) 79 none) rfl
  have kall9 := (kall.trans kb8).trans c9.1
  have np : ∀ y ∈ ids', y ≠ p ∧ y ≠ a := fun y hy => by
    rcases hids' y hy with h | h
    · exact ⟨fun e => hpl (e ▸ h), fun e => hal (e ▸ h)⟩
    · omega
  refine ⟨_, .sl ay (L.length + 1) cy, ids', ?_, ⟨kall9.wf, c9.2.1, ?_, ?_, s.nb⟩, c9.1.get kb8.wf (kb8.get c7.1.wf c7.2.1 (by simp) (fun l e => by cases e)) (by simp [hap]) (fun l e => by cases e), kall9.mono (fun i hi hm => ?_), hids'⟩
  rotate_left
  · have r4 : TRow H4 (L ++ [x]) (.sl ay (L.length + 1) cy) ids' := by unfold TRow; rw [← flat3_app]; exact hrow
    exact ((((r4.keep hkeep.wf c5.1 (fun y hy => by simp [(np y hy).1])).keep c5.1.wf kb5 (by simp)).keep kb5.wf c7.1 (fun y hy => by simp [(np y hy).2])).keep c7.1.wf kb8 (by simp)).keep kb8.wf c9.1 (fun y hy => by simp [(np y hy).1])
  · have r4 := s3.bts.keep s3.wf hkeep hlb
    exact ((((r4.keep hkeep.wf c5.1 (fun y hy => by simp; exact fun e => hpb (e ▸ hy))).keep c5.1.wf kb5 (by simp)).keep kb5.wf c7.1 (fun y hy => by simp; exact fun e => hab (e ▸ hy))).keep c7.1.wf kb8 (by simp)).keep kb8.wf c9.1 (fun y hy => by simp; exact fun e => hpb (e ▸ hy))
  · simp only [List.append_nil, List.nil_append, List.mem_append, List.mem_cons, List.not_mem_nil, or_false] at hm ⊢
    rcases hm with (((h | h) | h) | h) | h
    · omega
    · exact .inr (.inr h)
    · exact .inl h
    · exact .inr (.inl h)
    · exact .inl h
  rw [go_code hE.f43 (by simp [sf43])]
  obtain ⟨k, u, w⟩ := x
  simp only at hk hu hw0
  subst hk
  have hu5 : (0 : Int) ≤ u ∧ u < (5 : Nat) := by omega
  have hrd : (N.map (AV.int .i64))[u.toNat]? = some (.int .i64 (N.getD u.toNat 0)) := by
    have : u.toNat < N.length := by omega
    simp [List.getElem?_eq_getElem this, List.getD_eq_getElem?_getD]
  have hrd4 : (stCells (.sl ay (L.length + 1) cy) a t vb N)[4 + u.toNat]? = some (.int .i64 (N.getD u.toNat 0)) := by
    rw [show 4 + u.toNat = u.toNat + 4 from by omega]
    simpa only [List.getElem?_cons_succ] using hrd
  have hw8 : ∀ (n : Nat) (m : Int), ({ (({ (H4.setAt p (.cells (.lst (stCells (.sl ay (L.length + 1) cy) a t vb N)) 79 none)) with next := H4.next + 7 } : Heap).setAt a (.map (atM 0 (L ++ [(1, u, w)])))) with next := n } : Heap).write p (4 + u.toNat) [.int .i64 m] = some (({ (({ (H4.setAt p (.cells (.lst (stCells (.sl ay (L.length + 1) cy) a t vb N)) 79 none)) with next := H4.next + 7 } : Heap).setAt a (.map (atM 0 (L ++ [(1, u, w)])))) with next := n } : Heap).setAt p (.cells (.lst (stCells (.sl ay (L.length + 1) cy) a t vb (N.set u.toNat m))) 79 none)) := by
    intro n m
    have hg : ({ (({ (H4.setAt p (.cells (.lst (stCells (.sl ay (L.length + 1) cy) a t vb N)) 79 none)) with next := H4.next + 7 } : Heap).setAt a (.map (atM 0 (L ++ [(1, u, w)])))) with next := n } : Heap).get p = some (.cells (.lst (stCells (.sl ay (L.length + 1) cy) a t vb N)) 79 none) := by rw [get_nextH]; exact hp7
    have hset : (stCells (.sl ay (L.length + 1) cy) a t vb N).set (4 + u.toNat) (.int .i64 m) = stCells (.sl ay (L.length + 1) cy) a t vb (N.set u.toNat m) := by
      rw [show 4 + u.toNat = u.toNat + 4 from by omega]
      simp only [stCells, List.set_cons_succ, List.map_set]
    unfold Heap.write
    rw [hg]
    dsimp only
    rw [if_pos ⟨by simp [Cells.size]; omega, rfl⟩]
    simp only [Cells.setN, Cells.set, hset]
  simp only [c3] at *
  simp only [hrd4, hw8, sf43, fill3, hcell, hcell4, hm4, hw, hupd, hap, hpa, hbox4, hnp, hna, hbox7, hp7, hu5, hrd, mupdA, fitK, fitL, fitLeaf, mmL, mm2, Nat.mul_one, Nat.reduceMul, Nat.reduceLeDiff, List.length_cons, List.length_nil, hge, happ, Cells.get, Cells.getN, List.getElem?_cons_succ, List.getElem?_cons_zero, Nat.ne_of_lt hplt, ↓stepK_app, ↓stepK_mupd, ↓run_draw, ↓runD_nil, ↓runD_cons, ↓stD_t, ↓stD_fe, ↓stD_fp, ↓stD_fr, ↓stD_fa, ↓stD_p, ↓stD_r, ↓stD_a, ↓stD_e, ↓getX_hide, rd_nil, rd_cons, get_lay_cells, get_nextH, List.contains_cons, List.contains_nil, Nat.reduceBEq, Bool.or_false, Bool.false_or, Bool.and_self, Bool.and_true, Bool.true_and, Bool.and_false, Bool.false_and, Bool.true_or, or_true, true_or, and_self, and_true, true_and, Nat.reduceLT, ↓putL_cons, ↓putL_nil, ↓run_seq, ↓run_ops, ↓cond_t, ↓cond_f, ↓run_ret, ↓run_skip, ↓run_block, ↓run_scope, ↓run_exit, ↓bnd_some, ↓bnd_none, ↓nxt_n, ↓nxt_r, ↓nxt_e, ↓blk1_n, ↓blk1_r, ↓blk1_e, ↓ops_0, ↓ops_t, ↓ops_f, ↓ops_nil, wanted_some, ↓stepK_p, ↓stepK_r, ↓stepK_a, ↓stepK_f, ↓stepK_e, evP, evX, evR, blkOf, evA, storeA, ↓getX_put, ↓getX_no, ↓getX_e, putT_none, bin_add, bin_sub, bin_mul, bin_eql, bin_neq, bin_lss, bin_leq, bin_gtr, bin_geq, eqV_pn, eqV_ps, eqV_mn, eqV_ms, eqV_sn, eqV_ss, eqV_se, eqV_ag, eqV_b, ↓reduceIte, Nat.reduceEqDiff, ↓finish_nil, resL, resV, oneOrTup, List.map_cons, List.map_nil, ge_iff_le, gt_iff_lt, decide_true, decide_false, beq_self_eq_true, bft, btf, Option.some.injEq, AV.bool.injEq, Bool.true_eq_false, Int.reduceEq, Int.reduceLT, Int.reduceLE, Int.reduceNeg, Int.reduceAdd, Int.reduceSub, Int.reduceMul, Int.reduceToNat, Bool.not_true, Bool.not_false, Bool.false_eq_true, Option.isNone_some, Option.isNone_none, Option.map_some, Option.map_none, Nat.zero_add, Nat.add_zero, Nat.reduceAdd, get_push_cells, get_push_map, push_next, get_setAt_cells, get_setAt_map, setAt_next, noUnk, AV.cells, reduceCtorEq]
  rfl
end Go.Proofs.Ytnfehkjkmlbceaa.Sx

/- The store of terms: putting a term. -/
namespace Go.Proofs.Ytnfehkjkmlbceaa.Sx
variable {W : World} {E : Env} {H : Heap}

/-- The store, its map, and where they lie apart. -/
structure StM (H : Heap) (p a t : Nat) (L : List T3) (vl vb : AV) (N : List Int) (idl : List Nat) (nb : Nat) (fb : List AV) (idb : List Nat) : Prop where
  s : StH H p a t L vl vb N idl nb fb idb
  m : H.get a = some (.map (atM 0 L))
  n5 : N.length = 5
  pa : p ≠ a
  pl : p ∉ idl
  al : a ∉ idl
  pb : p ∉ idb
  ab : a ∉ idb
  lb : ∀ i ∈ idb, i ∉ idl
/-- What adding makes of the next numbers. -/
def addN (N : List Int) (x : T3) : List Int := if x.1 = 1 then nextM N x.2.1 x.2.2 else N
theorem StM.keep {p a t : Nat} {L : List T3} {vl vb : AV} {N : List Int} {idl : List Nat} {nb : Nat} {fb : List AV} {idb : List Nat} (h : StM H p a t L vl vb N idl nb fb idb) {fp : List Nat} {H' : Heap} (k : Keep fp H H') (hfp : ∀ i ∈ fp, H.next ≤ i) : StM H' p a t L vl vb N idl nb fb idb := by
  have hp := h.s.wf.lt h.s.cell
  have ha := h.s.wf.lt h.m
  have hl := h.s.row.lt h.s.wf
  have hb := h.s.bts.lt h.s.wf
  have out : ∀ i, i < H.next → i ∉ fp := fun i hi hm => by have := hfp i hm; omega
  exact ⟨h.s.keep k (out p hp) (fun i hi => out i (hl i hi)) (fun i hi => out i (hb i hi)), k.get h.s.wf h.m (out a ha) (fun l e => by cases e), h.n5, h.pa, h.pl, h.al, h.pb, h.ab, h.lb⟩

theorem c_add {p a t : Nat} {L : List T3} {vl vb : AV} {N : List Int} {idl : List Nat} {nb : Nat} {fb : List AV} {idb : List Nat} (hE : EnvT E) (h : StM H p a t L vl vb N idl nb fb idb) (x : T3) (hx : numOf x L = none) (hlen : L.length < 65536) (hk : x.1 = 1 → (1 ≤ x.2.1 ∧ x.2.1 ≤ 4) ∧ 0 ≤ x.2.2) :
    ∃ H' vl' idl', go W E 43 [.ptr (some ⟨.own p, 0⟩), .agg (c3 x)] H = some (.tup [.int .i64 L.length, .int .i64 0], H') ∧ StM H' p a t (L ++ [x]) vl' vb (addN N x) idl' nb fb idb ∧ Keep (p :: a :: idl) H H' ∧ ∀ i ∈ idl', i ∈ idl ∨ H.next ≤ i := by
  have hp := h.s.wf.lt h.s.cell
  have ha := h.s.wf.lt h.m
  have hb := h.s.bts.lt h.s.wf
  have fin : ∀ {H' : Heap} {vl' : AV} {idl' : List Nat} {N' : List Int}, N'.length = 5 → StH H' p a t (L ++ [x]) vl' vb N' idl' nb fb idb → H'.get a = some (.map (atM 0 (L ++ [x]))) → (∀ i ∈ idl', i ∈ idl ∨ H.next ≤ i) → StM H' p a t (L ++ [x]) vl' vb N' idl' nb fb idb := by
    intro H' vl' idl' N' hN hs hm hi
    refine ⟨hs, hm, hN, h.pa, fun hh => ?_, fun hh => ?_, h.pb, h.ab, fun i hib hil => ?_⟩
    · rcases hi _ hh with e | e
      · exact h.pl e
      · omega
    · rcases hi _ hh with e | e
      · exact h.al e
      · omega
    · rcases hi _ hil with e | e
      · exact h.lb i hib e
      · have := hb i hib; omega
  unfold addN
  by_cases e : x.1 = 1
  · obtain ⟨h1, h2⟩ := hk e
    obtain ⟨H', vl', idl', r1, r2, r3, r4, r5⟩ := c_add_a (W := W) hE h.s x h.m hx e h1 h2 h.n5 hlen h.pa h.pl h.al h.pb h.ab h.lb
    exact ⟨H', vl', idl', r1, by rw [if_pos e]; exact fin (by simp [nextM, h.n5]) r2 r3 r5, r4, r5⟩
  · obtain ⟨H', vl', idl', r1, r2, r3, r4, r5⟩ := c_add_h (W := W) hE h.s x h.m hx e hlen h.pa h.pl h.al h.pb h.ab h.lb
    exact ⟨H', vl', idl', r1, by rw [if_neg e]; exact fin h.n5 r2 r3 r5, r4, r5⟩
end Go.Proofs.Ytnfehkjkmlbceaa.Sx

/- The store of terms: Put. -/
namespace Go.Proofs.Ytnfehkjkmlbceaa.Sx
variable {W : World} {E : Env} {H : Heap}

theorem c_put {p a t : Nat} {L : List T3} {vl vb : AV} {N : List Int} {idl : List Nat} {nb : Nat} {fb : List AV} {idb : List Nat} (hE : EnvT E) (h : StM H p a t L vl vb N idl nb fb idb) (x : T3) (hno : mayM L nb x = false) :
    ∃ H', go W E 19 [.ptr (some ⟨.own p, 0⟩), .agg (c3 x)] H = some (.tup [.int .i64 0, .int .i64 2], H') ∧ StM H' p a t L vl vb N idl nb fb idb ∧ Keep [] H H' := by
  obtain ⟨k1, k2, k3⟩ := push_keep h.s.wf (o := .cells (.lst (c3 x)) 33 none) rfl
  have h1 := h.keep k1 (by simp)
  have his := c_is (W := W) (E := E) (H := H.push (.cells (.lst (c3 x)) 33 none)) (p := p) (a := a) (t := t) (L := L) (vl := vl) (vb := vb) (N := N) hE.f38 ⟨79, h1.s.cell⟩
  obtain ⟨H2, hmay, km⟩ := c_may (W := W) hE h1.s x
  have kk := k1.trans km
  refine ⟨H2, ?_, h.keep kk (by simp), kk⟩
  rw [go_code hE.f19 (by simp [sf19])]
  rw [hno] at hmay
  obtain ⟨k, u, w⟩ := x
  simp only [c3] at *
  simp only [sf19, his, hmay, k2, Cells.get, Cells.getN, List.getElem?_cons_succ, List.getElem?_cons_zero, ↓stepK_app, ↓stepK_mupd, ↓run_draw, ↓runD_nil, ↓runD_cons, ↓stD_t, ↓stD_fe, ↓stD_fp, ↓stD_fr, ↓stD_fa, ↓stD_p, ↓stD_r, ↓stD_a, ↓stD_e, ↓getX_hide, rd_nil, rd_cons, get_lay_cells, get_nextH, List.contains_cons, List.contains_nil, Nat.reduceBEq, Bool.or_false, Bool.false_or, Bool.and_self, Bool.and_true, Bool.true_and, Bool.and_false, Bool.false_and, Bool.true_or, or_true, true_or, and_self, and_true, true_and, Nat.reduceLT, ↓putL_cons, ↓putL_nil, ↓run_seq, ↓run_ops, ↓cond_t, ↓cond_f, ↓run_ret, ↓run_skip, ↓run_block, ↓run_scope, ↓run_exit, ↓bnd_some, ↓bnd_none, ↓nxt_n, ↓nxt_r, ↓nxt_e, ↓blk1_n, ↓blk1_r, ↓blk1_e, ↓ops_0, ↓ops_t, ↓ops_f, ↓ops_nil, wanted_some, ↓stepK_p, ↓stepK_r, ↓stepK_a, ↓stepK_f, ↓stepK_e, evP, evX, evR, blkOf, evA, storeA, ↓getX_put, ↓getX_no, ↓getX_e, putT_none, bin_add, bin_sub, bin_mul, bin_eql, bin_neq, bin_lss, bin_leq, bin_gtr, bin_geq, eqV_pn, eqV_ps, eqV_mn, eqV_ms, eqV_sn, eqV_ss, eqV_se, eqV_ag, eqV_b, ↓reduceIte, Nat.reduceEqDiff, ↓finish_nil, resL, resV, oneOrTup, List.map_cons, List.map_nil, ge_iff_le, gt_iff_lt, decide_true, decide_false, beq_self_eq_true, bft, btf, Option.some.injEq, AV.bool.injEq, Bool.true_eq_false, Int.reduceEq, Int.reduceLT, Int.reduceLE, Int.reduceNeg, Int.reduceAdd, Int.reduceSub, Int.reduceMul, Int.reduceToNat, Bool.not_true, Bool.not_false, Bool.false_eq_true, Option.isNone_some, Option.isNone_none, Option.map_some, Option.map_none, Nat.zero_add, Nat.add_zero, Nat.reduceAdd, get_push_cells, get_push_map, push_next, get_setAt_cells, get_setAt_map, setAt_next, noUnk, AV.cells, reduceCtorEq]

theorem c_put_old {p a t : Nat} {L : List T3} {vl vb : AV} {N : List Int} {idl : List Nat} {nb : Nat} {fb : List AV} {idb : List Nat} (hE : EnvT E) (h : StM H p a t L vl vb N idl nb fb idb) (x : T3) (hok : mayM L nb x = true) {n : Nat} (hn : numOf x L = some n) :
    ∃ H', go W E 19 [.ptr (some ⟨.own p, 0⟩), .agg (c3 x)] H = some (.tup [.int .i64 n, .int .i64 0], H') ∧ StM H' p a t L vl vb N idl nb fb idb ∧ Keep [] H H' := by
  obtain ⟨k1, k2, k3⟩ := push_keep h.s.wf (o := .cells (.lst (c3 x)) 33 none) rfl
  have h1 := h.keep k1 (by simp)
  have his := c_is (W := W) (E := E) (H := H.push (.cells (.lst (c3 x)) 33 none)) (p := p) (a := a) (t := t) (L := L) (vl := vl) (vb := vb) (N := N) hE.f38 ⟨79, h1.s.cell⟩
  obtain ⟨H2, hmay, km⟩ := c_may (W := W) hE h1.s x
  have h2 := h1.keep km (by simp)
  have hbox := km.get h1.s.wf k2 (by simp) (fun l e => by cases e)
  have hcell := h2.s.cell
  have hm := h2.m
  have kk := (k1.trans km).trans (keep_bump (n := H2.next + 11) km.wf (by omega))
  have hfind := findM x L 0 0
  rw [hn] at hfind
  refine ⟨_, ?_, h.keep kk (by simp), kk⟩
  rw [go_code hE.f19 (by simp [sf19])]
  rw [hok] at hmay
  obtain ⟨k, u, w⟩ := x
  simp only [c3] at *
  simp only [sf19, his, hmay, hbox, hcell, hm, hfind, mapOf, fitK, fitL, fitLeaf, lookV, k2, Cells.get, Cells.getN, List.getElem?_cons_succ, List.getElem?_cons_zero, ↓stepK_app, ↓stepK_mupd, ↓run_draw, ↓runD_nil, ↓runD_cons, ↓stD_t, ↓stD_fe, ↓stD_fp, ↓stD_fr, ↓stD_fa, ↓stD_p, ↓stD_r, ↓stD_a, ↓stD_e, ↓getX_hide, rd_nil, rd_cons, get_lay_cells, get_nextH, List.contains_cons, List.contains_nil, Nat.reduceBEq, Bool.or_false, Bool.false_or, Bool.and_self, Bool.and_true, Bool.true_and, Bool.and_false, Bool.false_and, Bool.true_or, or_true, true_or, and_self, and_true, true_and, Nat.reduceLT, ↓putL_cons, ↓putL_nil, ↓run_seq, ↓run_ops, ↓cond_t, ↓cond_f, ↓run_ret, ↓run_skip, ↓run_block, ↓run_scope, ↓run_exit, ↓bnd_some, ↓bnd_none, ↓nxt_n, ↓nxt_r, ↓nxt_e, ↓blk1_n, ↓blk1_r, ↓blk1_e, ↓ops_0, ↓ops_t, ↓ops_f, ↓ops_nil, wanted_some, ↓stepK_p, ↓stepK_r, ↓stepK_a, ↓stepK_f, ↓stepK_e, evP, evX, evR, blkOf, evA, storeA, ↓getX_put, ↓getX_no, ↓getX_e, putT_none, bin_add, bin_sub, bin_mul, bin_eql, bin_neq, bin_lss, bin_leq, bin_gtr, bin_geq, eqV_pn, eqV_ps, eqV_mn, eqV_ms, eqV_sn, eqV_ss, eqV_se, eqV_ag, eqV_b, ↓reduceIte, Nat.reduceEqDiff, ↓finish_nil, resL, resV, oneOrTup, List.map_cons, List.map_nil, ge_iff_le, gt_iff_lt, decide_true, decide_false, beq_self_eq_true, bft, btf, Option.some.injEq, AV.bool.injEq, Bool.true_eq_false, Int.reduceEq, Int.reduceLT, Int.reduceLE, Int.reduceNeg, Int.reduceAdd, Int.reduceSub, Int.reduceMul, Int.reduceToNat, Bool.not_true, Bool.not_false, Bool.false_eq_true, Option.isNone_some, Option.isNone_none, Option.map_some, Option.map_none, Nat.zero_add, Nat.add_zero, Nat.reduceAdd, get_push_cells, get_push_map, push_next, get_setAt_cells, get_setAt_map, setAt_next, noUnk, AV.cells, reduceCtorEq]

theorem may_atom {L : List T3} {nb : Nat} {x : T3} (h : mayM L nb x = true) (e : x.1 = 1) : (1 ≤ x.2.1 ∧ x.2.1 ≤ 4) ∧ 0 ≤ x.2.2 := by
  unfold mayM at h
  rw [if_pos e] at h
  simpa [sortM] using h
theorem c_put_new {p a t : Nat} {L : List T3} {vl vb : AV} {N : List Int} {idl : List Nat} {nb : Nat} {fb : List AV} {idb : List Nat} (hE : EnvT E) (h : StM H p a t L vl vb N idl nb fb idb) (x : T3) (hok : mayM L nb x = true) (hn : numOf x L = none) (hlen : L.length < 65536) :
    ∃ H' vl' idl', go W E 19 [.ptr (some ⟨.own p, 0⟩), .agg (c3 x)] H = some (.tup [.int .i64 L.length, .int .i64 0], H') ∧ StM H' p a t (L ++ [x]) vl' vb (addN N x) idl' nb fb idb ∧ Keep (p :: a :: idl) H H' ∧ ∀ i ∈ idl', i ∈ idl ∨ H.next ≤ i := by
  obtain ⟨k1, k2, k3⟩ := push_keep h.s.wf (o := .cells (.lst (c3 x)) 33 none) rfl
  have h1 := h.keep k1 (by simp)
  have his := c_is (W := W) (E := E) (H := H.push (.cells (.lst (c3 x)) 33 none)) (p := p) (a := a) (t := t) (L := L) (vl := vl) (vb := vb) (N := N) hE.f38 ⟨79, h1.s.cell⟩
  obtain ⟨H2, hmay, km⟩ := c_may (W := W) hE h1.s x
  have h2 := h1.keep km (by simp)
  have hbox := km.get h1.s.wf k2 (by simp) (fun l e => by cases e)
  have hcell := h2.s.cell
  have hm := h2.m
  have kb := keep_bump (n := H2.next + 11) km.wf (by omega)
  have kk := (k1.trans km).trans kb
  have h3 := h.keep kk (by simp)
  have hfind := findM x L 0 0
  rw [hn] at hfind
  obtain ⟨H4, vl', idl', hadd, g1, g2, g3⟩ := c_add (W := W) hE h3 x hn hlen (may_atom hok)
  have hnx := kk.nx
  refine ⟨H4, vl', idl', ?_, g1, (kk.trans g2).mono (fun i _ hi => by simpa using hi), fun i hi => (g3 i hi).imp id (fun hh => by omega)⟩
  rw [go_code hE.f19 (by simp [sf19])]
  rw [hok] at hmay
  obtain ⟨k, u, w⟩ := x
  simp only [c3] at *
  simp only [sf19, his, hmay, hbox, hcell, hm, hfind, hadd, mapOf, fitK, fitL, fitLeaf, lookV, k2, Cells.get, Cells.getN, List.getElem?_cons_succ, List.getElem?_cons_zero, ↓stepK_app, ↓stepK_mupd, ↓run_draw, ↓runD_nil, ↓runD_cons, ↓stD_t, ↓stD_fe, ↓stD_fp, ↓stD_fr, ↓stD_fa, ↓stD_p, ↓stD_r, ↓stD_a, ↓stD_e, ↓getX_hide, rd_nil, rd_cons, get_lay_cells, get_nextH, List.contains_cons, List.contains_nil, Nat.reduceBEq, Bool.or_false, Bool.false_or, Bool.and_self, Bool.and_true, Bool.true_and, Bool.and_false, Bool.false_and, Bool.true_or, or_true, true_or, and_self, and_true, true_and, Nat.reduceLT, ↓putL_cons, ↓putL_nil, ↓run_seq, ↓run_ops, ↓cond_t, ↓cond_f, ↓run_ret, ↓run_skip, ↓run_block, ↓run_scope, ↓run_exit, ↓bnd_some, ↓bnd_none, ↓nxt_n, ↓nxt_r, ↓nxt_e, ↓blk1_n, ↓blk1_r, ↓blk1_e, ↓ops_0, ↓ops_t, ↓ops_f, ↓ops_nil, wanted_some, ↓stepK_p, ↓stepK_r, ↓stepK_a, ↓stepK_f, ↓stepK_e, evP, evX, evR, blkOf, evA, storeA, ↓getX_put, ↓getX_no, ↓getX_e, putT_none, bin_add, bin_sub, bin_mul, bin_eql, bin_neq, bin_lss, bin_leq, bin_gtr, bin_geq, eqV_pn, eqV_ps, eqV_mn, eqV_ms, eqV_sn, eqV_ss, eqV_se, eqV_ag, eqV_b, ↓reduceIte, Nat.reduceEqDiff, ↓finish_nil, resL, resV, oneOrTup, List.map_cons, List.map_nil, ge_iff_le, gt_iff_lt, decide_true, decide_false, beq_self_eq_true, bft, btf, Option.some.injEq, AV.bool.injEq, Bool.true_eq_false, Int.reduceEq, Int.reduceLT, Int.reduceLE, Int.reduceNeg, Int.reduceAdd, Int.reduceSub, Int.reduceMul, Int.reduceToNat, Bool.not_true, Bool.not_false, Bool.false_eq_true, Option.isNone_some, Option.isNone_none, Option.map_some, Option.map_none, Nat.zero_add, Nat.add_zero, Nat.reduceAdd, get_push_cells, get_push_map, push_next, get_setAt_cells, get_setAt_map, setAt_next, noUnk, AV.cells, reduceCtorEq]
end Go.Proofs.Ytnfehkjkmlbceaa.Sx

/- The store of terms: Draw. -/
namespace Go.Proofs.Ytnfehkjkmlbceaa.Sx
variable {W : World} {E : Env} {H : Heap}

theorem c_draw_no {p a t : Nat} {L : List T3} {vl vb : AV} {N : List Int} {idl : List Nat} {nb : Nat} {fb : List AV} {idb : List Nat} (hE : EnvT E) (h : StM H p a t L vl vb N idl nb fb idb) (n : Int) (hno : sortM n = false) :
    go W E 20 [.ptr (some ⟨.own p, 0⟩), .int .i64 n] H = some (.tup [.int .i64 0, .int .i64 2], H) := by
  have his := c_is (W := W) (E := E) (H := H) (p := p) (a := a) (t := t) (L := L) (vl := vl) (vb := vb) (N := N) hE.f38 ⟨79, h.s.cell⟩
  have hso := c_sort (W := W) (E := E) (H := H) hE.f44 n
  unfold sortM at hno
  rw [hno] at hso
  rw [go_code hE.f20 (by simp [sf20])]
  simp only [sf20, his, hso, Cells.get, Cells.getN, List.getElem?_cons_succ, List.getElem?_cons_zero, ↓stepK_app, ↓stepK_mupd, ↓run_draw, ↓runD_nil, ↓runD_cons, ↓stD_t, ↓stD_fe, ↓stD_fp, ↓stD_fr, ↓stD_fa, ↓stD_p, ↓stD_r, ↓stD_a, ↓stD_e, ↓getX_hide, rd_nil, rd_cons, get_lay_cells, get_nextH, List.contains_cons, List.contains_nil, Nat.reduceBEq, Bool.or_false, Bool.false_or, Bool.and_self, Bool.and_true, Bool.true_and, Bool.and_false, Bool.false_and, Bool.true_or, or_true, true_or, and_self, and_true, true_and, Nat.reduceLT, ↓putL_cons, ↓putL_nil, ↓run_seq, ↓run_ops, ↓cond_t, ↓cond_f, ↓run_ret, ↓run_skip, ↓run_block, ↓run_scope, ↓run_exit, ↓bnd_some, ↓bnd_none, ↓nxt_n, ↓nxt_r, ↓nxt_e, ↓blk1_n, ↓blk1_r, ↓blk1_e, ↓ops_0, ↓ops_t, ↓ops_f, ↓ops_nil, wanted_some, ↓stepK_p, ↓stepK_r, ↓stepK_a, ↓stepK_f, ↓stepK_e, evP, evX, evR, blkOf, evA, storeA, ↓getX_put, ↓getX_no, ↓getX_e, putT_none, bin_add, bin_sub, bin_mul, bin_eql, bin_neq, bin_lss, bin_leq, bin_gtr, bin_geq, eqV_pn, eqV_ps, eqV_mn, eqV_ms, eqV_sn, eqV_ss, eqV_se, eqV_ag, eqV_b, ↓reduceIte, Nat.reduceEqDiff, ↓finish_nil, resL, resV, oneOrTup, List.map_cons, List.map_nil, ge_iff_le, gt_iff_lt, decide_true, decide_false, beq_self_eq_true, bft, btf, Option.some.injEq, AV.bool.injEq, Bool.true_eq_false, Int.reduceEq, Int.reduceLT, Int.reduceLE, Int.reduceNeg, Int.reduceAdd, Int.reduceSub, Int.reduceMul, Int.reduceToNat, Bool.not_true, Bool.not_false, Bool.false_eq_true, Option.isNone_some, Option.isNone_none, Option.map_some, Option.map_none, Nat.zero_add, Nat.add_zero, Nat.reduceAdd, get_push_cells, get_push_map, push_next, get_setAt_cells, get_setAt_map, setAt_next, noUnk, AV.cells, reduceCtorEq]

theorem st_next {vl vb : AV} {a t : Nat} {N : List Int} {u : Int} (hN : N.length = 5) (h1 : 1 ≤ u ∧ u ≤ 4) : (stCells vl a t vb N)[4 + u.toNat]? = some (.int .i64 (N.getD u.toNat 0)) := by
  rw [show 4 + u.toNat = u.toNat + 4 from by omega]
  have : u.toNat < N.length := by omega
  simp [stCells, List.getElem?_eq_getElem this, List.getD_eq_getElem?_getD]
theorem c_draw_top {p a t : Nat} {L : List T3} {vl vb : AV} {N : List Int} {idl : List Nat} {nb : Nat} {fb : List AV} {idb : List Nat} (hE : EnvT E) (h : StM H p a t L vl vb N idl nb fb idb) (n : Int) (h1 : 1 ≤ n ∧ n ≤ 4) (ht : 4611686018427387904 < N.getD n.toNat 0) :
    go W E 20 [.ptr (some ⟨.own p, 0⟩), .int .i64 n] H = some (.tup [.int .i64 0, .int .i64 3], H) := by
  have his := c_is (W := W) (E := E) (H := H) (p := p) (a := a) (t := t) (L := L) (vl := vl) (vb := vb) (N := N) hE.f38 ⟨79, h.s.cell⟩
  have hso := c_sort (W := W) (E := E) (H := H) hE.f44 n
  rw [show (decide (1 ≤ n) && decide (n ≤ 4)) = true from by simp [h1]] at hso
  have hcell := h.s.cell
  have hu5 : (0 : Int) ≤ n ∧ n < (5 : Nat) := by omega
  have hrd := st_next (vl := vl) (vb := vb) (a := a) (t := t) h.n5 h1
  rw [go_code hE.f20 (by simp [sf20])]
  simp only [sf20, his, hso, hcell, hu5, hrd, ht, Nat.mul_one, Cells.get, Cells.getN, List.getElem?_cons_succ, List.getElem?_cons_zero, ↓stepK_app, ↓stepK_mupd, ↓run_draw, ↓runD_nil, ↓runD_cons, ↓stD_t, ↓stD_fe, ↓stD_fp, ↓stD_fr, ↓stD_fa, ↓stD_p, ↓stD_r, ↓stD_a, ↓stD_e, ↓getX_hide, rd_nil, rd_cons, get_lay_cells, get_nextH, List.contains_cons, List.contains_nil, Nat.reduceBEq, Bool.or_false, Bool.false_or, Bool.and_self, Bool.and_true, Bool.true_and, Bool.and_false, Bool.false_and, Bool.true_or, or_true, true_or, and_self, and_true, true_and, Nat.reduceLT, ↓putL_cons, ↓putL_nil, ↓run_seq, ↓run_ops, ↓cond_t, ↓cond_f, ↓run_ret, ↓run_skip, ↓run_block, ↓run_scope, ↓run_exit, ↓bnd_some, ↓bnd_none, ↓nxt_n, ↓nxt_r, ↓nxt_e, ↓blk1_n, ↓blk1_r, ↓blk1_e, ↓ops_0, ↓ops_t, ↓ops_f, ↓ops_nil, wanted_some, ↓stepK_p, ↓stepK_r, ↓stepK_a, ↓stepK_f, ↓stepK_e, evP, evX, evR, blkOf, evA, storeA, ↓getX_put, ↓getX_no, ↓getX_e, putT_none, bin_add, bin_sub, bin_mul, bin_eql, bin_neq, bin_lss, bin_leq, bin_gtr, bin_geq, eqV_pn, eqV_ps, eqV_mn, eqV_ms, eqV_sn, eqV_ss, eqV_se, eqV_ag, eqV_b, ↓reduceIte, Nat.reduceEqDiff, ↓finish_nil, resL, resV, oneOrTup, List.map_cons, List.map_nil, ge_iff_le, gt_iff_lt, decide_true, decide_false, beq_self_eq_true, bft, btf, Option.some.injEq, AV.bool.injEq, Bool.true_eq_false, Int.reduceEq, Int.reduceLT, Int.reduceLE, Int.reduceNeg, Int.reduceAdd, Int.reduceSub, Int.reduceMul, Int.reduceToNat, Bool.not_true, Bool.not_false, Bool.false_eq_true, Option.isNone_some, Option.isNone_none, Option.map_some, Option.map_none, Nat.zero_add, Nat.add_zero, Nat.reduceAdd, get_push_cells, get_push_map, push_next, get_setAt_cells, get_setAt_map, setAt_next, noUnk, AV.cells, reduceCtorEq]

theorem fill3b (b c : Int) : fill [.int .i64 0, .int .i64 0, .int .i64 0] [(0, 1, .int .i64 1), (1, 1, .int .i64 b), (2, 1, .int .i64 c)] = some [.int .i64 1, .int .i64 b, .int .i64 c] := (Eq.refl _).trans rfl
theorem c_draw_new {p a t : Nat} {L : List T3} {vl vb : AV} {N : List Int} {idl : List Nat} {nb : Nat} {fb : List AV} {idb : List Nat} (hE : EnvT E) (h : StM H p a t L vl vb N idl nb fb idb) (n : Int) (h1 : 1 ≤ n ∧ n ≤ 4) (ht : ¬ 4611686018427387904 < N.getD n.toNat 0) (h0 : 0 ≤ N.getD n.toNat 0) (hlen : L.length < 65536)
    (hx : numOf (1, n, N.getD n.toNat 0) L = none) :
    ∃ H' vl' idl', go W E 20 [.ptr (some ⟨.own p, 0⟩), .int .i64 n] H = some (.tup [.int .i64 L.length, .int .i64 0], H') ∧ StM H' p a t (L ++ [(1, n, N.getD n.toNat 0)]) vl' vb (addN N (1, n, N.getD n.toNat 0)) idl' nb fb idb ∧ Keep (p :: a :: idl) H H' ∧ ∀ i ∈ idl', i ∈ idl ∨ H.next ≤ i := by
  have his := c_is (W := W) (E := E) (H := H) (p := p) (a := a) (t := t) (L := L) (vl := vl) (vb := vb) (N := N) hE.f38 ⟨79, h.s.cell⟩
  have hso := c_sort (W := W) (E := E) (H := H) hE.f44 n
  rw [show (decide (1 ≤ n) && decide (n ≤ 4)) = true from by simp [h1]] at hso
  have hcell := h.s.cell
  have hu5 : (0 : Int) ≤ n ∧ n < (5 : Nat) := by omega
  have hrd := st_next (vl := vl) (vb := vb) (a := a) (t := t) h.n5 h1
  obtain ⟨H', vl', idl', hadd, g1, g2, g3⟩ := c_add (W := W) hE h (1, n, N.getD n.toNat 0) hx hlen (fun _ => ⟨h1, h0⟩)
  refine ⟨H', vl', idl', ?_, g1, g2, g3⟩
  rw [go_code hE.f20 (by simp [sf20])]
  simp only [c3] at hadd
  simp only [sf20, his, hso, hcell, hu5, hrd, ht, hadd, fill3b, Nat.mul_one, Cells.get, Cells.getN, List.getElem?_cons_succ, List.getElem?_cons_zero, ↓stepK_app, ↓stepK_mupd, ↓run_draw, ↓runD_nil, ↓runD_cons, ↓stD_t, ↓stD_fe, ↓stD_fp, ↓stD_fr, ↓stD_fa, ↓stD_p, ↓stD_r, ↓stD_a, ↓stD_e, ↓getX_hide, rd_nil, rd_cons, get_lay_cells, get_nextH, List.contains_cons, List.contains_nil, Nat.reduceBEq, Bool.or_false, Bool.false_or, Bool.and_self, Bool.and_true, Bool.true_and, Bool.and_false, Bool.false_and, Bool.true_or, or_true, true_or, and_self, and_true, true_and, Nat.reduceLT, ↓putL_cons, ↓putL_nil, ↓run_seq, ↓run_ops, ↓cond_t, ↓cond_f, ↓run_ret, ↓run_skip, ↓run_block, ↓run_scope, ↓run_exit, ↓bnd_some, ↓bnd_none, ↓nxt_n, ↓nxt_r, ↓nxt_e, ↓blk1_n, ↓blk1_r, ↓blk1_e, ↓ops_0, ↓ops_t, ↓ops_f, ↓ops_nil, wanted_some, ↓stepK_p, ↓stepK_r, ↓stepK_a, ↓stepK_f, ↓stepK_e, evP, evX, evR, blkOf, evA, storeA, ↓getX_put, ↓getX_no, ↓getX_e, putT_none, bin_add, bin_sub, bin_mul, bin_eql, bin_neq, bin_lss, bin_leq, bin_gtr, bin_geq, eqV_pn, eqV_ps, eqV_mn, eqV_ms, eqV_sn, eqV_ss, eqV_se, eqV_ag, eqV_b, ↓reduceIte, Nat.reduceEqDiff, ↓finish_nil, resL, resV, oneOrTup, List.map_cons, List.map_nil, ge_iff_le, gt_iff_lt, decide_true, decide_false, beq_self_eq_true, bft, btf, Option.some.injEq, AV.bool.injEq, Bool.true_eq_false, Int.reduceEq, Int.reduceLT, Int.reduceLE, Int.reduceNeg, Int.reduceAdd, Int.reduceSub, Int.reduceMul, Int.reduceToNat, Bool.not_true, Bool.not_false, Bool.false_eq_true, Option.isNone_some, Option.isNone_none, Option.map_some, Option.map_none, Nat.zero_add, Nat.add_zero, Nat.reduceAdd, get_push_cells, get_push_map, push_next, get_setAt_cells, get_setAt_map, setAt_next, noUnk, AV.cells, reduceCtorEq]
end Go.Proofs.Ytnfehkjkmlbceaa.Sx

/- Bytes that can be read; their clone. -/
namespace Go.Proofs.Ytnfehkjkmlbceaa.Sx
variable {W : World} {E : Env} {H : Heap}

abbrev cb (bs : List UInt8) : List AV := bs.map fun b => .int .u8 b.toNat
/-- Bytes, in a block of the call's own, or in one that lay there. -/
inductive By (W : World) (H : Heap) (bs : List UInt8) : AV → List Nat → Prop
  | nil (h : bs = []) : By W H bs (.sl none 0 (.exact 0)) []
  | zero (h : bs = []) (j : Nat) (c : Cells) (hb : H.get j = some (.cells c 5 none)) : By W H bs (.sl (some ⟨.own j, 0⟩) 0 (.exact 0)) [j]
  | emp (h : bs = []) : By W H bs .emp []
  | old (r off : Nat) (cap : Cap) (c : Cells) (hb : blkOf W H (.old r) = some c) (hg : c.getN off bs.length = some (cb bs)) : By W H bs (.sl (some ⟨.old r, off⟩) bs.length cap) []
  | own (j l : Nat) (cap : Cap) (hb : H.get j = some (.cells (.lst (cb bs)) 5 (some l))) : By W H bs (.sl (some ⟨.own j, 0⟩) bs.length cap) [j, l]
theorem getN_all (l : List AV) : Cells.getN (.lst l) 0 l.length = some l := by
  have key : ∀ (o m : Nat), o + m ≤ l.length → Cells.getN (.lst l) o m = some ((l.drop o).take m) := by
    intro o m
    induction m generalizing o with
    | zero => intro _; simp [Cells.getN]
    | succ m ih =>
      intro hm
      have hlt : o < l.length := by omega
      simp only [Cells.getN, Cells.get, List.getElem?_eq_getElem hlt, ih (o + 1) (by omega)]
      rw [List.drop_eq_getElem_cons hlt, List.take_succ_cons]
  rw [key 0 l.length (by omega)]; simp
theorem bytesOf_cb (bs : List UInt8) : bytesOfL (cb bs) = some bs := by
  induction bs with
  | nil => rfl
  | cons b bs ih =>
    simp only [cb, List.map_cons, bytesOfL]
    rw [show bytesOfL (List.map (fun b => AV.int .u8 b.toNat) bs) = some bs from ih]
    simp
theorem By.keep {bs : List UInt8} {v : AV} {ids : List Nat} (h : By W H bs v ids) (hwf : HWf H) {fp : List Nat} {H' : Heap} (k : Keep fp H H') (hd : ∀ i ∈ ids, i ∉ fp) : By W H' bs v ids := by
  cases h with
  | nil h => exact .nil h
  | zero h j c hb => exact .zero h j c (k.get hwf hb (hd j (by simp)) (fun l' e => by cases e))
  | emp h => exact .emp h
  | old r off cap c hb hg => exact .old r off cap c hb hg
  | own j l cap hb => exact .own j l cap (k.get hwf hb (hd j (by simp)) (fun l' e => by cases e; exact hd l (by simp)))

theorem By.src {bs : List UInt8} {v : AV} {ids : List Nat} (h : By W H bs v ids) : srcA W H 1 false v = some (bs.length, cb bs) := by
  cases h with
  | nil h => subst h; rfl
  | zero h j c hb =>
    subst h
    simp only [srcA, blkOf, hb, Nat.mul_one, Cells.getN]; rfl
  | emp h => subst h; rfl
  | old r off cap c hb hg => simp only [srcA, hb, Nat.mul_one, hg]
  | own j l cap hb =>
    have : Cells.getN (.lst (cb bs)) 0 bs.length = some (cb bs) := by
      have := getN_all (cb bs)
      rwa [List.length_map] at this
    simp only [srcA, blkOf, hb, Nat.mul_one, this]

theorem By.b2s {bs : List UInt8} {v : AV} {ids : List Nat} (h : By W H bs v ids) {A : Tm} {x : SX} (hx : evX A x = v) : evR W H A (.b2s x) = some (.str bs) := by
  simp only [evR, hx]
  cases h with
  | nil h => subst h; rfl
  | zero h j c hb => subst h; simp only [blkOf, hb, Cells.getN]; rfl
  | emp h => subst h; rfl
  | old r off cap c hb hg => simp only [hb, hg, bytesOf_cb]; rfl
  | own j l cap hb =>
    have : Cells.getN (.lst (cb bs)) 0 bs.length = some (cb bs) := by
      have := getN_all (cb bs)
      rwa [List.length_map] at this
    simp only [blkOf, hb, this, bytesOf_cb]; rfl
theorem By.len {bs : List UInt8} {v : AV} {ids : List Nat} (h : By W H bs v ids) {A : Tm} {x : SX} (hx : evX A x = v) : evP A (.len x) = some (.int .i64 bs.length) := by
  simp only [evP, hx]
  cases h with
  | nil h => subst h; rfl
  | zero h j c hb => subst h; rfl
  | emp h => subst h; rfl
  | old r off cap c hb hg => rfl
  | own j l cap hb => rfl
end Go.Proofs.Ytnfehkjkmlbceaa.Sx

/- What lies in memory, piece beside piece: each contract bears the rest along. -/
namespace Go.Proofs.Ytnfehkjkmlbceaa.Sx

/-- A piece of memory, with the numbers that it stands in. -/
structure HP where
  P : Heap → List Nat → Prop
  lt : ∀ {H : Heap} {fp : List Nat}, HWf H → P H fp → ∀ i ∈ fp, i < H.next
  keep : ∀ {H H' : Heap} {fp fq : List Nat}, HWf H → P H fp → Keep fq H H' → (∀ i ∈ fp, i ∉ fq) → P H' fp
namespace HP
def emp : HP := ⟨fun _ fp => fp = [], fun _ h => by subst h; simp, fun _ h _ _ => h⟩
def sep (A B : HP) : HP := ⟨fun H fp => ∃ f g, A.P H f ∧ B.P H g ∧ fp = f ++ g ∧ ∀ i ∈ f, i ∉ g,
  fun hw ⟨f, g, a, b, e, _⟩ i hi => by subst e; rcases List.mem_append.1 hi with h | h; exact A.lt hw a i h; exact B.lt hw b i h,
  fun hw ⟨f, g, a, b, e, d⟩ k hd => by
    subst e
    exact ⟨f, g, A.keep hw a k (fun i hi => hd i (List.mem_append.2 (.inl hi))), B.keep hw b k (fun i hi => hd i (List.mem_append.2 (.inr hi))), rfl, d⟩⟩
def ex {α : Type} (F : α → HP) : HP := ⟨fun H fp => ∃ a, (F a).P H fp, fun hw ⟨a, h⟩ => (F a).lt hw h, fun hw ⟨a, h⟩ k hd => ⟨a, (F a).keep hw h k hd⟩⟩
def pure (φ : Prop) : HP := ⟨fun _ fp => fp = [] ∧ φ, fun _ h => by simp [h.1], fun _ h _ _ => h⟩
def all : List HP → HP
  | [] => emp
  | A :: l => sep A (all l)
def obj (i : Nat) (o : AObj) (ho : o.line = none) : HP := ⟨fun H fp => fp = [i] ∧ H.get i = some o,
  fun hw h j hj => by rw [h.1] at hj; simp at hj; subst hj; exact hw.lt h.2,
  fun hw h k hd => ⟨h.1, k.get hw h.2 (hd i (by simp [h.1])) (fun l e => by rw [ho] at e; cases e)⟩⟩
def blk (i : Nat) (c : List AV) (t : TypeId) : HP := obj i (.cells (.lst c) t none) rfl
def mp (i : Nat) (es : List (AV × AV)) : HP := obj i (.map es) rfl
def row (ty es : Nat) (flat : List AV) (v : AV) : HP := ⟨fun H fp => Row H ty es flat v fp, fun hw h => h.lt hw, fun hw h k hd => h.keep hw k hd⟩
def by_ (W : World) (bs : List UInt8) (v : AV) : HP := ⟨fun H fp => By W H bs v fp, fun hw h i hi => by
    cases h with
    | nil _ => cases hi
    | zero _ j c hb => simp at hi; subst hi; exact hw.lt hb
    | emp _ => cases hi
    | old _ _ _ _ _ _ => cases hi
    | own j l cap hb =>
      simp at hi
      rcases hi with rfl | rfl
      · exact hw.lt hb
      · exact hw.line_lt hb,
  fun hw h k hd => h.keep hw k hd⟩
/-- A number that has been set aside. -/
def resv (i : Nat) : HP := ⟨fun H fp => fp = [i] ∧ i < H.next, fun _ h j hj => by rw [h.1] at hj; simp at hj; subst hj; exact h.2, fun _ h k _ => ⟨h.1, Nat.lt_of_lt_of_le h.2 k.nx⟩⟩
end HP
open HP

structure Holds (H : Heap) (Γ : List HP) : Prop where
  wf : HWf H
  a : ∃ fp, (all Γ).P H fp
section
variable {H H' : Heap} {Γ Δ : List HP} {A B : HP}
theorem Holds.nil (h : HWf H) : Holds H [] := ⟨h, [], rfl⟩
theorem Holds.tail (h : Holds H (A :: Γ)) : Holds H Γ := by
  obtain ⟨fp, f, g, a, b, _⟩ := h.a
  exact ⟨h.wf, g, b⟩
theorem Holds.swap (h : Holds H (A :: B :: Γ)) : Holds H (B :: A :: Γ) := by
  obtain ⟨fp, f, g, a, ⟨f2, g2, b, c, e2, d2⟩, e, d⟩ := h.a
  subst e2
  refine ⟨h.wf, _, f2, f ++ g2, b, ⟨f, g2, a, c, rfl, fun i hi hg => d i hi (List.mem_append.2 (.inr hg))⟩, rfl, fun i hi hg => ?_⟩
  rcases List.mem_append.1 hg with h1 | h1
  · exact d i h1 (List.mem_append.2 (.inl hi))
  · exact d2 i hi h1
theorem all_mono {Γ Δ : List HP} (hm : ∀ {fp}, (all Γ).P H fp → (all Δ).P H fp) {fp : List Nat} (h : (all (A :: Γ)).P H fp) : (all (A :: Δ)).P H fp := by
  obtain ⟨f, g, a, b, e, d⟩ := h
  exact ⟨f, g, a, hm b, e, d⟩
/-- The k-th piece comes first. -/
theorem all_front : ∀ (k : Nat) (Γ : List HP) {fp : List Nat} (hk : k < Γ.length), (all Γ).P H fp → ∃ fp', (all (Γ[k] :: Γ.eraseIdx k)).P H fp' ∧ ∀ i, i ∈ fp' ↔ i ∈ fp := by
  intro k
  induction k with
  | zero =>
    intro Γ fp hk h
    cases Γ with
    | nil => simp at hk
    | cons A Γ => exact ⟨fp, h, fun _ => Iff.rfl⟩
  | succ k ih =>
    intro Γ fp hk h
    cases Γ with
    | nil => simp at hk
    | cons A Γ =>
      obtain ⟨f, g, a, b, e, d⟩ := h
      obtain ⟨g', b', hi⟩ := ih Γ (by simpa using hk) b
      obtain ⟨f2, g2, c1, c2, e2, d2⟩ := b'
      subst e2; subst e
      refine ⟨f2 ++ (f ++ g2), ⟨f2, f ++ g2, by simpa using c1, ⟨f, g2, a, by simpa using c2, rfl, fun i h1 h2 => d i h1 ((hi i).1 (List.mem_append.2 (.inr h2)))⟩, rfl, fun i h1 h2 => ?_⟩, fun i => ?_⟩
      · rcases List.mem_append.1 h2 with h3 | h3
        · exact d i h3 ((hi i).1 (List.mem_append.2 (.inl h1)))
        · exact d2 i h1 h3
      · have := hi i
        simp only [List.mem_append] at this ⊢
        rw [← this]
        constructor
        · rintro (h | h | h)
          · exact .inr (.inl h)
          · exact .inl h
          · exact .inr (.inr h)
        · rintro (h | h | h)
          · exact .inr (.inl h)
          · exact .inl h
          · exact .inr (.inr h)
theorem Holds.fr (h : Holds H Γ) (k : Nat) (hk : k < Γ.length := by simp) : Holds H (Γ[k] :: Γ.eraseIdx k) := by
  obtain ⟨fp, a⟩ := h.a
  obtain ⟨fp', b, _⟩ := all_front k Γ hk a
  exact ⟨h.wf, fp', b⟩
theorem Holds.ex {α : Type} {F : α → HP} (h : Holds H (HP.ex F :: Γ)) : ∃ a, Holds H (F a :: Γ) := by
  obtain ⟨fp, f, g, ⟨x, a⟩, b⟩ := h.a
  exact ⟨x, h.wf, fp, f, g, a, b⟩
theorem Holds.ex' {α : Type} {F : α → HP} (x : α) (h : Holds H (F x :: Γ)) : Holds H (HP.ex F :: Γ) := by
  obtain ⟨fp, f, g, a, b⟩ := h.a
  exact ⟨h.wf, fp, f, g, ⟨x, a⟩, b⟩
theorem Holds.sep (h : Holds H (HP.sep A B :: Γ)) : Holds H (A :: B :: Γ) := by
  obtain ⟨fp, f, g, ⟨f1, f2, a, b, e1, d1⟩, c, e, d⟩ := h.a
  subst e1; subst e
  refine ⟨h.wf, _, f1, f2 ++ g, a, ⟨f2, g, b, c, rfl, fun i hi => d i (List.mem_append.2 (.inr hi))⟩, rfl, fun i hi hg => ?_⟩
  rcases List.mem_append.1 hg with h1 | h1
  · exact d1 i hi h1
  · exact d i (List.mem_append.2 (.inl hi)) h1
theorem Holds.sep' (h : Holds H (A :: B :: Γ)) : Holds H (HP.sep A B :: Γ) := by
  obtain ⟨fp, f, g, a, ⟨f2, g2, b, c, e2, d2⟩, e, d⟩ := h.a
  subst e2
  refine ⟨h.wf, _, f ++ f2, g2, ⟨f, f2, a, b, rfl, fun i hi hg => d i hi (List.mem_append.2 (.inl hg))⟩, c, rfl, fun i hi => ?_⟩
  rcases List.mem_append.1 hi with h1 | h1
  · exact fun hg => d i h1 (List.mem_append.2 (.inr hg))
  · exact d2 i h1
theorem Holds.pure {φ : Prop} (h : Holds H (HP.pure φ :: Γ)) : φ ∧ Holds H Γ := by
  obtain ⟨fp, f, g, a, b⟩ := h.a
  exact ⟨a.2, h.tail⟩
theorem Holds.pure' {φ : Prop} (hφ : φ) (h : Holds H Γ) : Holds H (HP.pure φ :: Γ) := by
  obtain ⟨fp, b⟩ := h.a
  exact ⟨h.wf, fp, [], fp, ⟨rfl, hφ⟩, b, rfl, by simp⟩
theorem Holds.imp (h : Holds H (A :: Γ)) (hi : ∀ fp, A.P H fp → B.P H fp) : Holds H (B :: Γ) := by
  obtain ⟨fp, f, g, a, b⟩ := h.a
  exact ⟨h.wf, fp, f, g, hi f a, b⟩
/-- A step that touches no more than the first piece. -/
theorem Holds.step (h : Holds H (A :: Γ)) (hs : ∀ fp, A.P H fp → ∃ fp', B.P H' fp' ∧ Keep fp H H' ∧ ∀ i ∈ fp', i ∈ fp ∨ H.next ≤ i) : Holds H' (B :: Γ) := by
  obtain ⟨fp, f, g, a, b, e, d⟩ := h.a
  obtain ⟨f', a', k, hn⟩ := hs f a
  refine ⟨k.wf, _, f', g, a', (all Γ).keep h.wf b k (fun i hi hf => d i hf hi), rfl, fun i hi hg => ?_⟩
  rcases hn i hi with h1 | h1
  · exact d i h1 hg
  · have := (all Γ).lt h.wf b i hg; omega
/-- The same, where what is told is found with it. -/
theorem Holds.stepE {α : Type} {Q : Heap → α → Prop} {B : α → HP} (h : Holds H (A :: Γ)) (hs : ∀ fp, A.P H fp → ∃ H' x, Q H' x ∧ ∃ fp', (B x).P H' fp' ∧ Keep fp H H' ∧ ∀ i ∈ fp', i ∈ fp ∨ H.next ≤ i) : ∃ H' x, Q H' x ∧ Holds H' (B x :: Γ) := by
  obtain ⟨fp, f, g, a, b, e, d⟩ := h.a
  obtain ⟨H', x, q, f', a', k, hn⟩ := hs f a
  refine ⟨H', x, q, k.wf, _, f', g, a', (all Γ).keep h.wf b k (fun i hi hf => d i hf hi), rfl, fun i hi hg => ?_⟩
  rcases hn i hi with h1 | h1
  · exact d i h1 hg
  · have := (all Γ).lt h.wf b i hg; omega
/-- A step that touches nothing. -/
theorem Holds.same (h : Holds H Γ) (k : Keep [] H H') : Holds H' Γ := by
  obtain ⟨fp, a⟩ := h.a
  exact ⟨k.wf, fp, (all Γ).keep h.wf a k (by simp)⟩
theorem Holds.get {i : Nat} {c : List AV} {t : TypeId} (h : Holds H (blk i c t :: Γ)) : H.get i = some (.cells (.lst c) t none) := by
  obtain ⟨fp, f, g, a, b⟩ := h.a
  exact a.2
theorem Holds.getm {i : Nat} {es : List (AV × AV)} (h : Holds H (mp i es :: Γ)) : H.get i = some (.map es) := by
  obtain ⟨fp, f, g, a, b⟩ := h.a
  exact a.2
theorem Holds.push {c : List AV} {t : TypeId} (h : Holds H Γ) : Holds (H.push (.cells (.lst c) t none)) (blk H.next c t :: Γ) := by
  obtain ⟨k1, k2, k3⟩ := push_keep h.wf (o := .cells (.lst c) t none) rfl
  obtain ⟨fp, a⟩ := h.a
  refine ⟨k1.wf, _, [H.next], fp, ⟨rfl, k2⟩, (all Γ).keep h.wf a k1 (by simp), rfl, fun i hi hg => ?_⟩
  have := (all Γ).lt h.wf a i hg
  simp at hi; omega
theorem Holds.pushm {es : List (AV × AV)} (h : Holds H Γ) : Holds (H.push (.map es)) (mp H.next es :: Γ) := by
  obtain ⟨k1, k2, k3⟩ := push_keep h.wf (o := .map es) rfl
  obtain ⟨fp, a⟩ := h.a
  refine ⟨k1.wf, _, [H.next], fp, ⟨rfl, k2⟩, (all Γ).keep h.wf a k1 (by simp), rfl, fun i hi hg => ?_⟩
  have := (all Γ).lt h.wf a i hg
  simp at hi; omega
theorem Holds.bump (h : Holds H Γ) (n : Nat) : Holds { H with next := H.next + n } Γ := h.same (keep_bump h.wf (Nat.le_add_right _ _))
theorem Holds.bump1 (h : Holds H Γ) (n i : Nat) (hi : i < n := by omega) : Holds { H with next := H.next + n } (resv (H.next + i) :: Γ) := by
  have k := keep_bump (n := H.next + n) h.wf (Nat.le_add_right _ _)
  obtain ⟨fp, a⟩ := h.a
  refine ⟨k.wf, _, [H.next + i], fp, ⟨rfl, by show _ < H.next + n; omega⟩, (all Γ).keep h.wf a k (by simp), rfl, fun j hj hg => ?_⟩
  have := (all Γ).lt h.wf a j hg
  simp at hj; omega
theorem Holds.bump2 (h : Holds H Γ) (n i j : Nat) (hi : i < n := by omega) (hj : j < n := by omega) (hn : i ≠ j := by omega) : Holds { H with next := H.next + n } (resv (H.next + i) :: resv (H.next + j) :: Γ) := by
  have k := keep_bump (n := H.next + n) h.wf (Nat.le_add_right _ _)
  obtain ⟨fp, a⟩ := h.a
  refine ⟨k.wf, _, [H.next + i], _, ⟨rfl, by show _ < H.next + n; omega⟩, ⟨[H.next + j], fp, ⟨rfl, by show _ < H.next + n; omega⟩, (all Γ).keep h.wf a k (by simp), rfl, fun l hl hg => ?_⟩, rfl, fun l hl hg => ?_⟩
  · have := (all Γ).lt h.wf a l hg
    simp at hl; omega
  · simp at hl
    rcases List.mem_append.1 hg with h1 | h1
    · simp at h1; omega
    · have := (all Γ).lt h.wf a l h1; omega
theorem Holds.lay {id : Nat} {c : List AV} {t : TypeId} (h : Holds H (resv id :: Γ)) : Holds (H.lay id (.cells (.lst c) t none)) (blk id c t :: Γ) :=
  h.step fun fp hp => by
    obtain ⟨k1, k2⟩ := keep_lay h.wf (o := .cells (.lst c) t none) hp.2 rfl
    exact ⟨[id], ⟨rfl, k2⟩, by rw [hp.1]; exact k1, fun i hi => .inl (by rw [hp.1]; exact hi)⟩
theorem Holds.laym {id : Nat} {es : List (AV × AV)} (h : Holds H (resv id :: Γ)) : Holds (H.lay id (.map es)) (mp id es :: Γ) :=
  h.step fun fp hp => by
    obtain ⟨k1, k2⟩ := keep_lay h.wf (o := .map es) hp.2 rfl
    exact ⟨[id], ⟨rfl, k2⟩, by rw [hp.1]; exact k1, fun i hi => .inl (by rw [hp.1]; exact hi)⟩
theorem Holds.set {i : Nat} {c c' : List AV} {t t' : TypeId} (h : Holds H (blk i c t :: Γ)) : Holds (H.setAt i (.cells (.lst c') t' none)) (blk i c' t' :: Γ) :=
  h.step fun fp hp => by
    obtain ⟨k1, k2, k3⟩ := setAt_keep h.wf hp.2 (o' := .cells (.lst c') t' none) rfl
    exact ⟨[i], ⟨rfl, k2⟩, by rw [hp.1]; exact k1, fun j hj => .inl (by rw [hp.1]; exact hj)⟩
theorem Holds.setm {i : Nat} {es es' : List (AV × AV)} (h : Holds H (mp i es :: Γ)) : Holds (H.setAt i (.map es')) (mp i es' :: Γ) :=
  h.step fun fp hp => by
    obtain ⟨k1, k2, k3⟩ := setAt_keep h.wf hp.2 (o' := .map es') rfl
    exact ⟨[i], ⟨rfl, k2⟩, by rw [hp.1]; exact k1, fun j hj => .inl (by rw [hp.1]; exact hj)⟩
/-- Appending to a row. -/
theorem Holds.app {W : World} {ty es bytes : Nat} {flat new : List AV} {v x : AV} {k n : Nat} {os : Bool} (h : Holds H (row ty es flat v :: Γ)) (he : 0 < es) (hs : srcA W H es os x = some (k, new)) (hk : 0 < k) (hnl : new.length = k * es) (h1 : new.all oneC = true) (hn : flat.length = n * es) (hb : (n + k) * bytes ≤ 140737488355328) :
    ∃ v' H', appA W H ty es bytes os v x = some (v', H') ∧ Holds H' (row ty es (flat ++ new) v' :: Γ) := by
  obtain ⟨fp, f, g, a, b, e, d⟩ := h.a
  obtain ⟨v', H', ids', e1, r, k', hi⟩ := Row.app (bytes := bytes) h.wf a he hs hk hnl h1 hn hb
  refine ⟨v', H', e1, h.step fun fp2 hp => ?_⟩
  obtain ⟨v2, H2, ids2, e2, r2, k2, hi2⟩ := Row.app (bytes := bytes) h.wf hp he hs hk hnl h1 hn hb
  rw [e1] at e2
  cases e2
  exact ⟨ids2, r2, k2, hi2⟩
theorem Holds.row_len {ty es n : Nat} {flat : List AV} {v : AV} (h : Holds H (row ty es flat v :: Γ)) (he : 0 < es) (hn : flat.length = n * es) : ∃ a c, v = .sl a n c := by
  obtain ⟨fp, f, g, a, b⟩ := h.a
  exact Row.len a he hn
/-- Reading from a row. -/
theorem Holds.row_get {ty es n : Nat} {flat : List AV} {v : AV} (h : Holds H (row ty es flat v :: Γ)) (he : 0 < es) (hn : flat.length = n * es) (h0 : 0 < n) : ∃ j l c, v = .sl (some ⟨.own j, 0⟩) n c ∧ H.get j = some (.cells (.lst flat) ty (some l)) := by
  obtain ⟨fp, f, g, a, b⟩ := h.a
  cases a with
  | nil =>
    have := Nat.mul_pos h0 he
    simp at hn; omega
  | mk hl0 hl hg hln =>
    rename_i j l fl len
    have : len = n := Nat.eq_of_mul_eq_mul_right he (hl.symm.trans hn)
    subst this
    exact ⟨j, l, _, rfl, hg⟩

theorem sep_assoc {C : HP} {H : Heap} {fp : List Nat} : (HP.sep (HP.sep A B) C).P H fp ↔ (HP.sep A (HP.sep B C)).P H fp := by
  constructor
  · rintro ⟨_, g, ⟨f1, f2, a, b, rfl, d1⟩, c, rfl, d⟩
    exact ⟨f1, f2 ++ g, a, ⟨f2, g, b, c, rfl, fun i hi => d i (List.mem_append.2 (.inr hi))⟩, by simp, fun i hi hg => by
      rcases List.mem_append.1 hg with h1 | h1
      · exact d1 i hi h1
      · exact d i (List.mem_append.2 (.inl hi)) h1⟩
  · rintro ⟨f1, _, a, ⟨f2, g, b, c, rfl, d1⟩, rfl, d⟩
    exact ⟨f1 ++ f2, g, ⟨f1, f2, a, b, rfl, fun i hi hf => d i hi (List.mem_append.2 (.inl hf))⟩, c, by simp, fun i hi hg => by
      rcases List.mem_append.1 hi with h1 | h1
      · exact d i h1 (List.mem_append.2 (.inr hg))
      · exact d1 i h1 hg⟩
theorem all_app : ∀ (l : List HP) {H : Heap} {fp : List Nat}, (all (all l :: Γ)).P H fp ↔ (all (l ++ Γ)).P H fp := by
  intro l
  induction l with
  | nil =>
    intro H fp
    constructor
    · rintro ⟨_, g, rfl, b, rfl, _⟩; exact b
    · intro h; exact ⟨[], fp, rfl, h, rfl, by simp⟩
  | cons A l ih =>
    intro H fp
    show (HP.sep (HP.sep A (all l)) (all Γ)).P H fp ↔ (HP.sep A (all (l ++ Γ))).P H fp
    rw [sep_assoc]
    constructor
    · rintro ⟨f, g, a, b, e, d⟩; exact ⟨f, g, a, ih.1 b, e, d⟩
    · rintro ⟨f, g, a, b, e, d⟩; exact ⟨f, g, a, ih.2 b, e, d⟩
theorem Holds.opn {l : List HP} (h : Holds H (HP.all l :: Γ)) : Holds H (l ++ Γ) := ⟨h.wf, h.a.imp fun _ hp => (all_app l).1 hp⟩
theorem Holds.cls (l : List HP) (h : Holds H (l ++ Γ)) : Holds H (HP.all l :: Γ) := ⟨h.wf, h.a.imp fun _ hp => (all_app l).2 hp⟩
def takeAt : Nat → List HP → Option (HP × List HP)
  | 0, A :: Γ => some (A, Γ)
  | k + 1, A :: Γ => match takeAt k Γ with
    | some (B, Δ) => some (B, A :: Δ)
    | none => none
  | _, [] => none
def ord : List Nat → List HP → List HP
  | [], Γ => Γ
  | k :: ks, Γ => match takeAt k Γ with
    | some (B, Δ) => B :: ord ks Δ
    | none => Γ
theorem takeAt_eq : ∀ {k : Nat} {Γ Δ : List HP} {B : HP}, takeAt k Γ = some (B, Δ) → ∃ hk : k < Γ.length, Γ[k] = B ∧ Γ.eraseIdx k = Δ := by
  intro k
  induction k with
  | zero => intro Γ Δ B h; cases Γ <;> simp [takeAt] at h; obtain ⟨rfl, rfl⟩ := h; exact ⟨by simp, rfl, rfl⟩
  | succ k ih =>
    intro Γ Δ B h
    cases Γ with
    | nil => simp [takeAt] at h
    | cons A Γ =>
      simp only [takeAt] at h
      cases ht : takeAt k Γ with
      | none => simp [ht] at h
      | some x =>
        obtain ⟨C, Θ⟩ := x
        simp only [ht, Option.some.injEq, Prod.mk.injEq] at h
        obtain ⟨rfl, rfl⟩ := h
        obtain ⟨hk, h1, h2⟩ := ih ht
        exact ⟨by simp; omega, by simpa using h1, by simp [h2]⟩
theorem all_ord : ∀ (ks : List Nat) (Γ : List HP) {fp : List Nat}, (all Γ).P H fp → ∃ fp', (all (ord ks Γ)).P H fp' ∧ ∀ i, i ∈ fp' ↔ i ∈ fp := by
  intro ks
  induction ks with
  | nil => intro Γ fp h; exact ⟨fp, h, fun _ => Iff.rfl⟩
  | cons k ks ih =>
    intro Γ fp h
    simp only [ord]
    cases ht : takeAt k Γ with
    | none => exact ⟨fp, h, fun _ => Iff.rfl⟩
    | some x =>
      obtain ⟨B, Δ⟩ := x
      obtain ⟨hk, h1, h2⟩ := takeAt_eq ht
      obtain ⟨fp', h', hi⟩ := all_front k Γ hk h
      rw [h1, h2] at h'
      obtain ⟨f, g, a, b, e, d⟩ := h'
      obtain ⟨g', b', hi'⟩ := ih Δ b
      subst e
      refine ⟨f ++ g', ⟨f, g', a, b', rfl, fun i hi hg => d i hi ((hi' i).1 hg)⟩, fun i => ?_⟩
      rw [← hi i]
      simp only [List.mem_append, hi' i]
theorem Holds.ord (h : Holds H Γ) (ks : List Nat) : Holds H (ord ks Γ) := by
  obtain ⟨fp, a⟩ := h.a
  obtain ⟨fp', b, _⟩ := all_ord ks Γ a
  exact ⟨h.wf, fp', b⟩
end
end Go.Proofs.Ytnfehkjkmlbceaa.Sx

/- More rules for following code. -/
namespace Go.Proofs.Ytnfehkjkmlbceaa.Sx
theorem w64 {n : Int} (h : -9223372036854775808 ≤ n ∧ n ≤ 9223372036854775807) : IntKind.i64.wrap n = n := by rw [IntKind.wrap_i64]; omega
theorem fill_nil {cells : List AV} : fill cells [] = some cells := (Eq.refl _).trans rfl
theorem cells_one {v : AV} (h : oneC v = true) : v.cells = [v] := by cases v <;> first | rfl | cases h
theorem fill_one {cells : List AV} {off : Nat} {v : AV} {r : List (Nat × Nat × AV)} (h : oneC v = true) : fill cells ((off, 1, v) :: r) = if off + 1 ≤ cells.length then fill (cells.take off ++ v :: cells.drop (off + 1)) r else none := by
  have hc := cells_one h
  cases v <;> first | (simp only [fill, hc, List.length_cons, List.length_nil, if_true]; simp; done) | cases h
theorem fill_agg {cells cs : List AV} {off n : Nat} {r : List (Nat × Nat × AV)} : fill cells ((off, n, .agg cs) :: r) = if cs.length = n then (if off + n ≤ cells.length then fill (cells.take off ++ cs ++ cells.drop (off + n)) r else none) else none := (Eq.refl _).trans rfl
theorem oneC_int {k : IntKind} {n : Int} : oneC (.int k n) = true := (Eq.refl _).trans rfl
theorem oneC_bool {b : Bool} : oneC (.bool b) = true := (Eq.refl _).trans rfl
theorem oneC_str {b : List UInt8} : oneC (.str b) = true := (Eq.refl _).trans rfl
theorem oneC_sl {a : Option Ad} {n : Nat} {c : Cap} : oneC (.sl a n c) = true := (Eq.refl _).trans rfl
theorem oneC_ptr {a : Option Ad} : oneC (.ptr a) = true := (Eq.refl _).trans rfl
theorem oneC_map {a : Option Rf} : oneC (.map a) = true := (Eq.refl _).trans rfl
theorem zerosL_0 {z : List AV} : zerosL z 0 = [] := (Eq.refl _).trans rfl
theorem zerosL_1 {z : List AV} : zerosL z 1 = z := by simp [zerosL]
def b2sV (W : World) (H : Heap) : AV → Option AV
  | .sl none _ _ => some (.str [])
  | .emp => some (.str [])
  | .sl (some a) len _ => match blkOf W H a.rf with
    | some c => match c.getN a.off len with
      | some l => (bytesOfL l).map .str
      | none => none
    | none => none
  | _ => none
def lenV : AV → Option AV
  | .sl _ n _ => some (.int .i64 n)
  | .emp => some (.int .i64 0)
  | _ => none
def loadV (W : World) (H : Heap) (n : Option Nat) : AV → Option AV
  | .ptr (some a) => match blkOf W H a.rf with
    | some c => match n with
      | none => c.get a.off
      | some k => (c.getN a.off k).map .agg
    | none => none
  | _ => none
def iaddrV (es : Nat) : AV → AV → Option AV
  | .sl (some a) len _, .int _ i => if 0 ≤ i ∧ i < len then some (.ptr (some ⟨a.rf, a.off + i.toNat * es⟩)) else none
  | _, _ => none
section
variable {W : World} {H : Heap} {A : Tm}
theorem evR_b2s {x : SX} : evR W H A (.b2s x) = b2sV W H (evX A x) := (Eq.refl _).trans rfl
theorem evR_load {n : Option Nat} {x : SX} : evR W H A (.load n x) = loadV W H n (evX A x) := (Eq.refl _).trans rfl
theorem evP_len {x : SX} : evP A (.len x) = lenV (evX A x) := (Eq.refl _).trans rfl
theorem evP_iaddr {es : Nat} {x i : SX} : evP A (.iaddr es x i) = iaddrV es (evX A x) (evX A i) := (Eq.refl _).trans rfl
theorem lenV_sl {a : Option Ad} {n : Nat} {c : Cap} : lenV (.sl a n c) = some (.int .i64 n) := (Eq.refl _).trans rfl
theorem lenV_emp : lenV .emp = some (.int .i64 0) := (Eq.refl _).trans rfl
theorem load_own1 {i off : Nat} : loadV W H none (.ptr (some ⟨.own i, off⟩)) = bnd (H.get i) fun o => match o with | .cells c _ _ => c.get off | _ => none := by
  simp only [loadV, blkOf]
  cases H.get i with
  | none => rfl
  | some o => cases o <;> rfl
theorem load_ownN {i off n : Nat} : loadV W H (some n) (.ptr (some ⟨.own i, off⟩)) = bnd (H.get i) fun o => match o with | .cells c _ _ => (c.getN off n).map .agg | _ => none := by
  simp only [loadV, blkOf]
  cases H.get i with
  | none => rfl
  | some o => cases o <;> rfl
theorem iaddr_own {es n : Nat} {r : Rf} {off : Nat} {c : Cap} {k : IntKind} {i : Int} : iaddrV es (.sl (some ⟨r, off⟩) n c) (.int k i) = if 0 ≤ i ∧ i < n then some (.ptr (some ⟨r, off + i.toNat * es⟩)) else none := (Eq.refl _).trans rfl
theorem bnd_assoc {α β γ : Type} {m : Option α} {k : α → Option β} {k' : β → Option γ} : bnd (bnd m k) k' = bnd m fun x => bnd (k x) k' := by cases m <;> rfl
/-- How a call ends. -/
def Ends (Q : AV → Heap → Prop) (o : Option (AV × Heap)) : Prop := ∃ r, o = some r ∧ Q r.1 r.2
theorem Ends.ret {Q : AV → Heap → Prop} {v : AV} {H : Heap} (h : Q v H) : Ends Q (some (v, H)) := ⟨_, rfl, h⟩
theorem Ends.out {v : AV} {Γ : List HP} {o : Option (AV × Heap)} (h : Ends (fun r H' => r = v ∧ Holds H' Γ) o) : ∃ H', o = some (v, H') ∧ Holds H' Γ := by
  obtain ⟨⟨r, H'⟩, e, rfl, h⟩ := h
  exact ⟨H', e, h⟩
theorem Ends.out2 {B : AV → List HP} {o : Option (AV × Heap)} (h : Ends (fun r H' => Holds H' (B r)) o) : ∃ v H', o = some (v, H') ∧ Holds H' (B v) := by
  obtain ⟨⟨r, H'⟩, e, h⟩ := h
  exact ⟨r, H', e, h⟩
theorem Ends.bind {α : Type} {Q : AV → Heap → Prop} {m : Option α} {k : α → Option (AV × Heap)} {R : α → Prop} (h : ∃ r, m = some r ∧ R r) (hk : ∀ r, R r → Ends Q (k r)) : Ends Q (bnd m k) := by
  obtain ⟨r, rfl, hr⟩ := h
  exact hk r hr
theorem Ends.call {Q : AV → Heap → Prop} {m : Option (AV × Heap)} {k : AV × Heap → Option (AV × Heap)} {v : AV} {Γ : List HP} (h : ∃ H', m = some (v, H') ∧ Holds H' Γ) (hk : ∀ H', Holds H' Γ → Ends Q (k (v, H'))) : Ends Q (bnd m k) := by
  obtain ⟨r, rfl, hr⟩ := h
  exact hk r hr
theorem Ends.call2 {Q : AV → Heap → Prop} {m : Option (AV × Heap)} {k : AV × Heap → Option (AV × Heap)} {B : AV → List HP} (h : ∃ v H', m = some (v, H') ∧ Holds H' (B v)) (hk : ∀ v H', Holds H' (B v) → Ends Q (k (v, H'))) : Ends Q (bnd m k) := by
  obtain ⟨v, r, rfl, hr⟩ := h
  exact hk v r hr
theorem Ends.loop {Q : AV → Heap → Prop} {m : Out} {k : Lv × Fr × Heap → Option (AV × Heap)} {df : List Nat} {ro : Option Nat} {R : Lv → Tm → Heap → Prop} (h : ∃ lv A' H', m = some (lv, ⟨A', df, ro⟩, H') ∧ R lv A' H') (hk : ∀ lv A' H', R lv A' H' → Ends Q (k (lv, ⟨A', df, ro⟩, H'))) : Ends Q (bnd m k) := by
  obtain ⟨lv, A', r, rfl, hr⟩ := h
  exact hk lv A' r hr
theorem Holds.writeN {H : Heap} {Γ : List HP} {j off : Nat} {c c' vs : List AV} {t : TypeId} (h : Holds H (HP.blk j c t :: Γ)) (hc : (Cells.lst c).setN off vs = .lst c') (hl : off + vs.length ≤ c.length) (hv : vs.all oneC = true) :
    H.write j off vs = some (H.setAt j (.cells (.lst c') t none)) ∧ Holds (H.setAt j (.cells (.lst c') t none)) (HP.blk j c' t :: Γ) := by
  refine ⟨?_, h.set⟩
  simp only [Heap.write, h.get, Cells.size, hv]
  rw [if_pos ⟨hl, trivial⟩, hc]
theorem Ends.write {Q : AV → Heap → Prop} {k : Heap → Option (AV × Heap)} {H : Heap} {Γ : List HP} {j off : Nat} {c vs : List AV} {t : TypeId} (c' : List AV) (h : Holds H (HP.blk j c t :: Γ)) (hc : (Cells.lst c).setN off vs = .lst c') (hl : off + vs.length ≤ c.length) (hv : vs.all oneC = true)
    (hk : ∀ H', Holds H' (HP.blk j c' t :: Γ) → Ends Q (k H')) : Ends Q (bnd (H.write j off vs) k) := by
  obtain ⟨e, h'⟩ := h.writeN hc hl hv
  rw [e, bnd_some]
  exact hk _ h'
theorem Ends.app {Q : AV → Heap → Prop} {k : AV × Heap → Option (AV × Heap)} {W : World} {H : Heap} {Γ : List HP} {ty es bytes : Nat} {flat new : List AV} {v x : AV} {k0 n : Nat} {os : Bool} (h : Holds H (HP.row ty es flat v :: Γ)) (he : 0 < es) (hs : srcA W H es os x = some (k0, new)) (hk0 : 0 < k0) (hnl : new.length = k0 * es) (h1 : new.all oneC = true) (hn : flat.length = n * es) (hb : (n + k0) * bytes ≤ 140737488355328)
    (hk : ∀ v' H', Holds H' (HP.row ty es (flat ++ new) v' :: Γ) → Ends Q (k (v', H'))) : Ends Q (bnd (appA W H ty es bytes os v x) k) := by
  obtain ⟨v', H', e, h'⟩ := h.app (bytes := bytes) he hs hk0 hnl h1 hn hb
  rw [e, bnd_some]
  exact hk _ _ h'
def rmAt (k : Nat) (Γ : List HP) : List HP := match takeAt k Γ with
  | some (_, Δ) => Δ
  | none => Γ
theorem Holds.rm {H : Heap} {Γ : List HP} (h : Holds H Γ) (k : Nat) : Holds H (rmAt k Γ) := by
  have h1 := h.ord [k]
  unfold rmAt
  simp only [Go.Proofs.Ytnfehkjkmlbceaa.Sx.ord] at h1
  cases ht : takeAt k Γ with
  | none => exact h
  | some x => rw [ht] at h1; exact h1.tail
theorem loop_mono {m : Out} {df : List Nat} {ro : Option Nat} {R R' : Lv → Tm → Heap → Prop} (h : ∃ lv A' H', m = some (lv, ⟨A', df, ro⟩, H') ∧ R lv A' H') (hr : ∀ lv A' H', R lv A' H' → R' lv A' H') : ∃ lv A' H', m = some (lv, ⟨A', df, ro⟩, H') ∧ R' lv A' H' := by
  obtain ⟨lv, A', H', e, h⟩ := h
  exact ⟨lv, A', H', e, hr _ _ _ h⟩
/-- How a piece of code ends. -/
def Fin {α : Type} (R : α → Prop) (o : Option α) : Prop := ∃ r, o = some r ∧ R r
theorem Fin.ret {α : Type} {R : α → Prop} {r : α} (h : R r) : Fin R (some r) := ⟨r, rfl, h⟩
theorem Fin.call {α : Type} {R : α → Prop} {m : Option (AV × Heap)} {k : AV × Heap → Option α} {v : AV} {Γ : List HP} (h : ∃ H', m = some (v, H') ∧ Holds H' Γ) (hk : ∀ H', Holds H' Γ → Fin R (k (v, H'))) : Fin R (bnd m k) := by
  obtain ⟨r, rfl, hr⟩ := h
  exact hk r hr
theorem Fin.callP {α : Type} {R : α → Prop} {m : Option (AV × Heap)} {k : AV × Heap → Option α} {v : AV} {P : Heap → Prop} (h : ∃ H', m = some (v, H') ∧ P H') (hk : ∀ H', P H' → Fin R (k (v, H'))) : Fin R (bnd m k) := by
  obtain ⟨r, rfl, hr⟩ := h
  exact hk r hr
theorem Fin.call2 {α : Type} {R : α → Prop} {m : Option (AV × Heap)} {k : AV × Heap → Option α} {B : AV → List HP} (h : ∃ v H', m = some (v, H') ∧ Holds H' (B v)) (hk : ∀ v H', Holds H' (B v) → Fin R (k (v, H'))) : Fin R (bnd m k) := by
  obtain ⟨v, r, rfl, hr⟩ := h
  exact hk v r hr
theorem Fin.write {α : Type} {R : α → Prop} {k : Heap → Option α} {H : Heap} {Γ : List HP} {j off : Nat} {c vs : List AV} {t : TypeId} (c' : List AV) (h : Holds H (HP.blk j c t :: Γ)) (hc : (Cells.lst c).setN off vs = .lst c') (hl : off + vs.length ≤ c.length) (hv : vs.all oneC = true)
    (hk : ∀ H', Holds H' (HP.blk j c' t :: Γ) → Fin R (k H')) : Fin R (bnd (H.write j off vs) k) := by
  obtain ⟨e, h'⟩ := h.writeN hc hl hv
  rw [e, bnd_some]
  exact hk _ h'
theorem Fin.app {α : Type} {R : α → Prop} {k : AV × Heap → Option α} {W : World} {H : Heap} {Γ : List HP} {ty es bytes : Nat} {flat new : List AV} {v x : AV} {k0 n : Nat} {os : Bool} (h : Holds H (HP.row ty es flat v :: Γ)) (he : 0 < es) (hs : srcA W H es os x = some (k0, new)) (hk0 : 0 < k0) (hnl : new.length = k0 * es) (h1 : new.all oneC = true) (hn : flat.length = n * es) (hb : (n + k0) * bytes ≤ 140737488355328)
    (hk : ∀ v' H', Holds H' (HP.row ty es (flat ++ new) v' :: Γ) → Fin R (k (v', H'))) : Fin R (bnd (appA W H ty es bytes os v x) k) := by
  obtain ⟨v', H', e, h'⟩ := h.app (bytes := bytes) he hs hk0 hnl h1 hn hb
  rw [e, bnd_some]
  exact hk _ _ h'
theorem Fin.loop {α : Type} {R : α → Prop} {m : Out} {k : Lv × Fr × Heap → Option α} {df : List Nat} {ro : Option Nat} {Q : Lv → Tm → Heap → Prop} (h : ∃ lv A' H', m = some (lv, ⟨A', df, ro⟩, H') ∧ Q lv A' H') (hk : ∀ lv A' H', Q lv A' H' → Fin R (k (lv, ⟨A', df, ro⟩, H'))) : Fin R (bnd m k) := by
  obtain ⟨lv, A', r, rfl, hr⟩ := h
  exact hk lv A' r hr
/-- How a loop ends, whose frame keeps its marks. -/
def Out3 (df : List Nat) (ro : Option Nat) (R : Lv → Tm → Heap → Prop) (r : Lv × Fr × Heap) : Prop := ∃ A', r.2.1 = ⟨A', df, ro⟩ ∧ R r.1 A' r.2.2
theorem Fin.ex3 {m : Out} {df : List Nat} {ro : Option Nat} {R : Lv → Tm → Heap → Prop} (h : Fin (Out3 df ro R) m) : ∃ lv A' H', m = some (lv, ⟨A', df, ro⟩, H') ∧ R lv A' H' := by
  obtain ⟨⟨lv, f, H'⟩, e, A', e2, h⟩ := h
  simp only at e2 h
  subst e2
  exact ⟨lv, A', H', e, h⟩
theorem Fin.of3 {m : Out} {df : List Nat} {ro : Option Nat} {R R' : Lv → Tm → Heap → Prop} (h : ∃ lv A' H', m = some (lv, ⟨A', df, ro⟩, H') ∧ R lv A' H') (hr : ∀ lv A' H', R lv A' H' → R' lv A' H') : Fin (Out3 df ro R') m := by
  obtain ⟨lv, A', H', e, h⟩ := h
  exact ⟨_, e, A', rfl, hr _ _ _ h⟩
theorem Fin.end3 {df : List Nat} {ro : Option Nat} {R : Lv → Tm → Heap → Prop} {lv : Lv} {A : Tm} {H : Heap} (h : R lv A H) : Fin (Out3 df ro R) (some (lv, ⟨A, df, ro⟩, H)) := ⟨_, rfl, A, rfl, h⟩
theorem Fin.callE {α β : Type} {R : β → Prop} {m : Option (AV × Heap)} {k : AV × Heap → Option β} (v : α → AV) (B : α → List HP) (h : ∃ x H', m = some (v x, H') ∧ Holds H' (B x)) (hk : ∀ x H', Holds H' (B x) → Fin R (k (v x, H'))) : Fin R (bnd m k) := by
  obtain ⟨x, r, rfl, hr⟩ := h
  exact hk x r hr
end
end Go.Proofs.Ytnfehkjkmlbceaa.Sx

/- The rules, in two bundles. -/
namespace Go.Proofs.Ytnfehkjkmlbceaa.Sx
theorem sxp : type_of% (And.intro @stepK_app (And.intro @stepK_mupd (And.intro @run_draw (And.intro @runD_nil (And.intro @runD_cons (And.intro @stD_t (And.intro @stD_fe (And.intro @stD_fp (And.intro @stD_fr (And.intro @stD_fa (And.intro @stD_p (And.intro @stD_r (And.intro @stD_a (And.intro @stD_e (And.intro @getX_hide (And.intro @putL_cons (And.intro @putL_nil (And.intro @run_seq (And.intro @run_ops (And.intro @cond_t (And.intro @cond_f (And.intro @run_ret (And.intro @run_skip (And.intro @run_block (And.intro @run_scope (And.intro @run_exit (And.intro @bnd_some (And.intro @bnd_none (And.intro @nxt_n (And.intro @nxt_r (And.intro @nxt_e (And.intro @blk1_n (And.intro @blk1_r (And.intro @blk1_e (And.intro @ops_0 (And.intro @ops_t (And.intro @ops_f (And.intro @ops_nil (And.intro @stepK_p (And.intro @stepK_r (And.intro @stepK_a (And.intro @stepK_f (And.intro @stepK_e (And.intro @getX_put (And.intro @getX_no (And.intro @getX_e (And.intro @finish_nil (And.intro @evR_b2s (And.intro @evR_load (And.intro @evP_len @evP_iaddr)))))))))))))))))))))))))))))))))))))))))))))))))) := (And.intro @stepK_app (And.intro @stepK_mupd (And.intro @run_draw (And.intro @runD_nil (And.intro @runD_cons (And.intro @stD_t (And.intro @stD_fe (And.intro @stD_fp (And.intro @stD_fr (And.intro @stD_fa (And.intro @stD_p (And.intro @stD_r (And.intro @stD_a (And.intro @stD_e (And.intro @getX_hide (And.intro @putL_cons (And.intro @putL_nil (And.intro @run_seq (And.intro @run_ops (And.intro @cond_t (And.intro @cond_f (And.intro @run_ret (And.intro @run_skip (And.intro @run_block (And.intro @run_scope (And.intro @run_exit (And.intro @bnd_some (And.intro @bnd_none (And.intro @nxt_n (And.intro @nxt_r (And.intro @nxt_e (And.intro @blk1_n (And.intro @blk1_r (And.intro @blk1_e (And.intro @ops_0 (And.intro @ops_t (And.intro @ops_f (And.intro @ops_nil (And.intro @stepK_p (And.intro @stepK_r (And.intro @stepK_a (And.intro @stepK_f (And.intro @stepK_e (And.intro @getX_put (And.intro @getX_no (And.intro @getX_e (And.intro @finish_nil (And.intro @evR_b2s (And.intro @evR_load (And.intro @evP_len @evP_iaddr))))))))))))))))))))))))))))))))))))))))))))))))))
theorem sxq : type_of% (And.intro @rd_nil (And.intro @rd_cons (And.intro @get_lay_cells (And.intro @get_nextH (And.intro @List.contains_cons.{0} (And.intro @List.contains_nil.{0} (And.intro @Bool.or_false (And.intro @Bool.false_or (And.intro @Bool.and_self (And.intro @Bool.and_true (And.intro @Bool.true_and (And.intro @Bool.and_false (And.intro @Bool.false_and (And.intro @Bool.true_or (And.intro @or_true (And.intro @true_or (And.intro @and_self (And.intro @and_true (And.intro @true_and (And.intro @wanted_some (And.intro @putT_none (And.intro @bin_add (And.intro @bin_sub (And.intro @bin_mul (And.intro @bin_eql (And.intro @bin_neq (And.intro @bin_lss (And.intro @bin_leq (And.intro @bin_gtr (And.intro @bin_geq (And.intro @eqV_pn (And.intro @eqV_ps (And.intro @eqV_mn (And.intro @eqV_ms (And.intro @eqV_sn (And.intro @eqV_ss (And.intro @eqV_se (And.intro @eqV_ag (And.intro @eqV_b (And.intro @List.map_cons.{0, 0} (And.intro @List.map_nil.{0, 0} (And.intro @ge_iff_le.{0} (And.intro @gt_iff_lt.{0} (And.intro @decide_true (And.intro @decide_false (And.intro @beq_self_eq_true.{0} (And.intro @bft (And.intro @btf (And.intro @Option.some.injEq.{0} (And.intro @AV.bool.injEq (And.intro @Bool.true_eq_false (And.intro @Bool.not_true (And.intro @Bool.not_false (And.intro @Bool.false_eq_true (And.intro @Option.isNone_some.{0} (And.intro @Option.isNone_none.{0} (And.intro @Option.map_some.{0, 0} (And.intro @Option.map_none.{0, 0} (And.intro @Nat.zero_add (And.intro @Nat.add_zero (And.intro @get_push_cells (And.intro @get_push_map (And.intro @push_next (And.intro @get_setAt_cells (And.intro @get_setAt_map (And.intro @setAt_next (And.intro @fill_nil (And.intro @fill_one (And.intro @fill_agg (And.intro @oneC_int (And.intro @oneC_bool (And.intro @oneC_str (And.intro @oneC_sl (And.intro @oneC_ptr (And.intro @oneC_map (And.intro @zerosL_0 (And.intro @zerosL_1 (And.intro @List.take_succ_cons.{0} (And.intro @List.take_zero.{0} (And.intro @List.take_nil.{0} (And.intro @List.drop_succ_cons.{0} (And.intro @List.drop_zero.{0} (And.intro @List.drop_nil.{0} (And.intro @List.cons_append.{0} (And.intro @List.nil_append.{0} (And.intro @List.append_nil.{0} (And.intro @List.length_cons.{0} (And.intro @List.length_nil.{0} (And.intro @lenV_sl (And.intro @lenV_emp (And.intro @load_own1 (And.intro @load_ownN (And.intro @iaddr_own (And.intro @List.getElem?_cons_succ.{0} (And.intro @List.getElem?_cons_zero.{0} (And.intro @Nat.zero_le @Nat.mul_one)))))))))))))))))))))))))))))))))))))))))))))))))))))))))))))))))))))))))))))))))))))))))))))))) := (And.intro @rd_nil (And.intro @rd_cons (And.intro @get_lay_cells (And.intro @get_nextH (And.intro @List.contains_cons.{0} (And.intro @List.contains_nil.{0} (And.intro @Bool.or_false (And.intro @Bool.false_or (And.intro @Bool.and_self (And.intro @Bool.and_true (And.intro @Bool.true_and (And.intro @Bool.and_false (And.intro @Bool.false_and (And.intro @Bool.true_or (And.intro @or_true (And.intro @true_or (And.intro @and_self (And.intro @and_true (And.intro @true_and (And.intro @wanted_some (And.intro @putT_none (And.intro @bin_add (And.intro @bin_sub (And.intro @bin_mul (And.intro @bin_eql (And.intro @bin_neq (And.intro @bin_lss (And.intro @bin_leq (And.intro @bin_gtr (And.intro @bin_geq (And.intro @eqV_pn (And.intro @eqV_ps (And.intro @eqV_mn (And.intro @eqV_ms (And.intro @eqV_sn (And.intro @eqV_ss (And.intro @eqV_se (And.intro @eqV_ag (And.intro @eqV_b (And.intro @List.map_cons.{0, 0} (And.intro @List.map_nil.{0, 0} (And.intro @ge_iff_le.{0} (And.intro @gt_iff_lt.{0} (And.intro @decide_true (And.intro @decide_false (And.intro @beq_self_eq_true.{0} (And.intro @bft (And.intro @btf (And.intro @Option.some.injEq.{0} (And.intro @AV.bool.injEq (And.intro @Bool.true_eq_false (And.intro @Bool.not_true (And.intro @Bool.not_false (And.intro @Bool.false_eq_true (And.intro @Option.isNone_some.{0} (And.intro @Option.isNone_none.{0} (And.intro @Option.map_some.{0, 0} (And.intro @Option.map_none.{0, 0} (And.intro @Nat.zero_add (And.intro @Nat.add_zero (And.intro @get_push_cells (And.intro @get_push_map (And.intro @push_next (And.intro @get_setAt_cells (And.intro @get_setAt_map (And.intro @setAt_next (And.intro @fill_nil (And.intro @fill_one (And.intro @fill_agg (And.intro @oneC_int (And.intro @oneC_bool (And.intro @oneC_str (And.intro @oneC_sl (And.intro @oneC_ptr (And.intro @oneC_map (And.intro @zerosL_0 (And.intro @zerosL_1 (And.intro @List.take_succ_cons.{0} (And.intro @List.take_zero.{0} (And.intro @List.take_nil.{0} (And.intro @List.drop_succ_cons.{0} (And.intro @List.drop_zero.{0} (And.intro @List.drop_nil.{0} (And.intro @List.cons_append.{0} (And.intro @List.nil_append.{0} (And.intro @List.append_nil.{0} (And.intro @List.length_cons.{0} (And.intro @List.length_nil.{0} (And.intro @lenV_sl (And.intro @lenV_emp (And.intro @load_own1 (And.intro @load_ownN (And.intro @iaddr_own (And.intro @List.getElem?_cons_succ.{0} (And.intro @List.getElem?_cons_zero.{0} (And.intro @Nat.zero_le @Nat.mul_one))))))))))))))))))))))))))))))))))))))))))))))))))))))))))))))))))))))))))))))))))))))))))))))))
end Go.Proofs.Ytnfehkjkmlbceaa.Sx

/- The store of terms as a piece of memory; New, Put, Draw. -/
namespace Go.Proofs.Ytnfehkjkmlbceaa.Sx
open HP

/-- The store's struct, its map of terms, its two rows. -/
def stM (p a t : Nat) (L : List T3) (vl vb : AV) (N : List Int) (fb : List AV) : HP :=
  HP.all [HP.pure (N.length = 5), blk p (stCells vl a t vb N) 79, mp a (atM 0 L), row 33 3 (flat3 L) vl, row 34 1 fb vb]
theorem stM_to {H : Heap} (hw : HWf H) {p a t : Nat} {L : List T3} {vl vb : AV} {N : List Int} {fb : List AV} {fp : List Nat} (h : (stM p a t L vl vb N fb).P H fp) :
    ∃ idl idb, fp = p :: a :: (idl ++ idb) ∧ StM H p a t L vl vb N idl fb.length fb idb := by
  obtain ⟨_, _, ⟨rfl, h5⟩, ⟨_, _, ⟨rfl, h1⟩, ⟨_, _, ⟨rfl, h2⟩, ⟨idl, _, h3, ⟨idb, _, h4, rfl, rfl, _⟩, rfl, d3⟩, rfl, d2⟩, rfl, d1⟩, rfl, _⟩ := h
  simp only [List.append_nil, List.mem_append, List.mem_cons, List.not_mem_nil, or_false, forall_eq, not_or] at d1 d2 d3
  exact ⟨idl, idb, by simp, ⟨⟨hw, h1, h3, h4, rfl⟩, h2, h5, d1.1, d1.2.1, d2.1, d1.2.2, d2.2, fun i hi hl => d3 i hl hi⟩⟩
theorem stM_of {H : Heap} {p a t : Nat} {L : List T3} {vl vb : AV} {N : List Int} {fb : List AV} {idl idb : List Nat} {nb : Nat} (h : StM H p a t L vl vb N idl nb fb idb) : (stM p a t L vl vb N fb).P H (p :: a :: (idl ++ idb)) := by
  refine ⟨[], _, ⟨rfl, h.n5⟩, ⟨[p], _, ⟨rfl, h.s.cell⟩, ⟨[a], _, ⟨rfl, h.m⟩, ⟨idl, idb, h.s.row, ⟨idb, [], h.s.bts, rfl, by simp, by simp⟩, rfl, fun i hi hb => h.lb i hb hi⟩, rfl, ?_⟩, rfl, ?_⟩, by simp, by simp⟩
  · have h1 := h.al; have h2 := h.ab; simp [h1, h2]
  · have h1 := h.pa; have h2 := h.pl; have h3 := h.pb; simp [h1, h2, h3]
/-- Texts that lie in memory. -/
def bys (W : World) : List (List UInt8) → List AV → HP
  | [], [] => HP.emp
  | b :: B, v :: V => HP.sep (by_ W b v) (bys W B V)
  | _, _ => HP.pure False
/-- A store: its terms, its next numbers, its texts with their numbers. -/
structure MS where
  L : List T3
  N : List Int
  T : List (List UInt8 × Nat)
def txM (T : List (List UInt8 × Nat)) : List (AV × AV) := T.map fun x => (.str x.1, .int .i64 x.2)
def storeI (W : World) (p : Nat) (S : MS) (a t : Nat) (vl vb : AV) (fb : List AV) : HP :=
  HP.all [HP.pure (fb.length = S.T.length), stM p a t S.L vl vb S.N fb, mp t (txM S.T), bys W (S.T.map (·.1)) fb]
def storeP (W : World) (p : Nat) (S : MS) : HP := HP.ex fun a => HP.ex fun t => HP.ex fun vl => HP.ex fun vb => HP.ex fun fb => storeI W p S a t vl vb fb
section
variable {W : World} {E : Env} {H : Heap} {Γ : List HP}
theorem storeP_open {p : Nat} {S : MS} (h : Holds H (storeP W p S :: Γ)) : ∃ a t vl vb fb, fb.length = S.T.length ∧ Holds H (stM p a t S.L vl vb S.N fb :: mp t (txM S.T) :: bys W (S.T.map (·.1)) fb :: Γ) := by
  obtain ⟨a, h⟩ := h.ex
  obtain ⟨t, h⟩ := h.ex
  obtain ⟨vl, h⟩ := h.ex
  obtain ⟨vb, h⟩ := h.ex
  obtain ⟨fb, h⟩ := h.ex
  have h2 : Holds H (HP.pure (fb.length = S.T.length) :: stM p a t S.L vl vb S.N fb :: mp t (txM S.T) :: bys W (S.T.map (·.1)) fb :: Γ) := h.opn
  exact ⟨a, t, vl, vb, fb, h2.pure⟩
theorem storeP_shut {p : Nat} {S : MS} {a t : Nat} {vl vb : AV} {fb : List AV} (hl : fb.length = S.T.length) (h : Holds H (stM p a t S.L vl vb S.N fb :: mp t (txM S.T) :: bys W (S.T.map (·.1)) fb :: Γ)) : Holds H (storeP W p S :: Γ) := by
  have h1 := Holds.cls [HP.pure (fb.length = S.T.length), stM p a t S.L vl vb S.N fb, mp t (txM S.T), bys W (S.T.map (·.1)) fb] (Holds.pure' hl h)
  exact ((((h1.ex' (F := fun fb => storeI W p S a t vl vb fb) fb).ex' (F := fun vb => HP.ex fun fb => storeI W p S a t vl vb fb) vb).ex' (F := fun vl => HP.ex fun vb => HP.ex fun fb => storeI W p S a t vl vb fb) vl).ex' (F := fun t => HP.ex fun vl => HP.ex fun vb => HP.ex fun fb => storeI W p S a t vl vb fb) t).ex' (F := fun a => HP.ex fun t => HP.ex fun vl => HP.ex fun vb => HP.ex fun fb => storeI W p S a t vl vb fb) a
theorem stM_st {p a t : Nat} {L : List T3} {vl vb : AV} {N : List Int} {fb : List AV} (h : Holds H (stM p a t L vl vb N fb :: Γ)) : ∃ idl idb, StM H p a t L vl vb N idl fb.length fb idb := by
  obtain ⟨fp, f, g, x, _⟩ := h.a
  obtain ⟨idl, idb, _, s⟩ := stM_to h.wf x
  exact ⟨idl, idb, s⟩
theorem stM_open {p a t : Nat} {L : List T3} {vl vb : AV} {N : List Int} {fb : List AV} (h : Holds H (stM p a t L vl vb N fb :: Γ)) : N.length = 5 ∧ Holds H (blk p (stCells vl a t vb N) 79 :: mp a (atM 0 L) :: row 33 3 (flat3 L) vl :: row 34 1 fb vb :: Γ) :=
  Holds.pure (Γ := blk p (stCells vl a t vb N) 79 :: mp a (atM 0 L) :: row 33 3 (flat3 L) vl :: row 34 1 fb vb :: Γ) h.opn
theorem stM_shut {p a t : Nat} {L : List T3} {vl vb : AV} {N : List Int} {fb : List AV} (h5 : N.length = 5) (h : Holds H (blk p (stCells vl a t vb N) 79 :: mp a (atM 0 L) :: row 33 3 (flat3 L) vl :: row 34 1 fb vb :: Γ)) : Holds H (stM p a t L vl vb N fb :: Γ) :=
  Holds.cls [HP.pure (N.length = 5), blk p (stCells vl a t vb N) 79, mp a (atM 0 L), row 33 3 (flat3 L) vl, row 34 1 fb vb] (Holds.pure' h5 h)
/-- A function that touches nothing but what it makes. -/
def Quiet (W : World) (E : Env) (f : FuncId) (args : List AV) (v : AV) (Γ : List HP) : Prop := ∀ H Δ, Holds H (Γ ++ Δ) → ∃ H', go W E f args H = some (v, H') ∧ Holds H' (Γ ++ Δ)

theorem s_is {p : Nat} {S : MS} (hE : EnvT E) (h : Holds H (storeP W p S :: Γ)) : go W E 38 [.ptr (some ⟨.own p, 0⟩)] H = some (.bool true, H) := by
  obtain ⟨a, t, vl, vb, fb, hl, h⟩ := storeP_open h
  obtain ⟨idl, idb, s⟩ := stM_st h
  exact c_is (p := p) (a := a) (t := t) (L := S.L) (vl := vl) (vb := vb) (N := S.N) hE.f38 ⟨79, s.s.cell⟩
theorem s_len {p : Nat} {S : MS} (hE : EnvT E) (h : Holds H (storeP W p S :: Γ)) : go W E 12 [.ptr (some ⟨.own p, 0⟩)] H = some (.int .i64 S.L.length, H) := by
  obtain ⟨a, t, vl, vb, fb, hl, h⟩ := storeP_open h
  obtain ⟨idl, idb, s⟩ := stM_st h
  exact c_len hE s.s
theorem s_has {p : Nat} {S : MS} (hE : EnvT E) (h : Holds H (storeP W p S :: Γ)) (n k : Int) : go W E 40 [.ptr (some ⟨.own p, 0⟩), .int .i64 n, .int .i64 k] H = some (.bool (hasM S.L n k), H) := by
  obtain ⟨a, t, vl, vb, fb, hl, h⟩ := storeP_open h
  obtain ⟨idl, idb, s⟩ := stM_st h
  exact c_has hE.f40 s.s.cell s.s.row n k

def putM (S : MS) (x : T3) : Int × Int × MS :=
  if mayM S.L S.T.length x then (match numOf x S.L with
    | some n => (n, 0, S)
    | none => (S.L.length, 0, { S with L := S.L ++ [x], N := addN S.N x }))
  else (0, 2, S)
theorem s_put {p : Nat} {S : MS} (hE : EnvT E) (h : Holds H (storeP W p S :: Γ)) (x : T3) (hlen : S.L.length < 65536) :
    ∃ H', go W E 19 [.ptr (some ⟨.own p, 0⟩), .agg (c3 x)] H = some (.tup [.int .i64 (putM S x).1, .int .i64 (putM S x).2.1], H') ∧ Holds H' (storeP W p (putM S x).2.2 :: Γ) := by
  obtain ⟨a, t, vl, vb, fb, hl, h⟩ := storeP_open h
  unfold putM
  cases hm : mayM S.L S.T.length x with
  | false =>
    obtain ⟨H', x', h1, h2⟩ := h.stepE (Q := fun H' (_ : Unit) => go W E 19 [.ptr (some ⟨.own p, 0⟩), .agg (c3 x)] H = some (.tup [.int .i64 0, .int .i64 2], H')) (B := fun _ => stM p a t S.L vl vb S.N fb) (fun fp hp => by
      obtain ⟨idl, idb, rfl, s⟩ := stM_to h.wf hp
      obtain ⟨H', h1, h2, h3⟩ := c_put (W := W) hE s x (by rw [hl]; exact hm)
      exact ⟨H', (), h1, _, stM_of h2, h3.mono (by simp), fun i hi => .inl hi⟩)
    exact ⟨H', h1, storeP_shut hl h2⟩
  | true =>
    cases hn : numOf x S.L with
    | some n =>
      obtain ⟨H', x', h1, h2⟩ := h.stepE (Q := fun H' (_ : Unit) => go W E 19 [.ptr (some ⟨.own p, 0⟩), .agg (c3 x)] H = some (.tup [.int .i64 n, .int .i64 0], H')) (B := fun _ => stM p a t S.L vl vb S.N fb) (fun fp hp => by
        obtain ⟨idl, idb, rfl, s⟩ := stM_to h.wf hp
        obtain ⟨H', h1, h2, h3⟩ := c_put_old (W := W) hE s x (by rw [hl]; exact hm) hn
        exact ⟨H', (), h1, _, stM_of h2, h3.mono (by simp), fun i hi => .inl hi⟩)
      exact ⟨H', h1, storeP_shut hl h2⟩
    | none =>
      obtain ⟨H', vl', h1, h2⟩ := h.stepE (Q := fun H' (_ : AV) => go W E 19 [.ptr (some ⟨.own p, 0⟩), .agg (c3 x)] H = some (.tup [.int .i64 S.L.length, .int .i64 0], H')) (B := fun vl' => stM p a t (S.L ++ [x]) vl' vb (addN S.N x) fb) (fun fp hp => by
        obtain ⟨idl, idb, rfl, s⟩ := stM_to h.wf hp
        obtain ⟨H', vl', idl', h1, h2, h3, h4⟩ := c_put_new (W := W) hE s x (by rw [hl]; exact hm) hn hlen
        exact ⟨H', vl', h1, _, stM_of h2, h3.mono (fun i _ hi => by simp at hi ⊢; rcases hi with h | h | h <;> simp [h]), fun i hi => by
          simp only [List.mem_cons, List.mem_append] at hi ⊢
          rcases hi with h | h | h | h
          · simp [h]
          · simp [h]
          · rcases h4 i h with h | h <;> simp [h]
          · simp [h]⟩)
      exact ⟨H', h1, storeP_shut (S := { S with L := S.L ++ [x], N := addN S.N x }) hl h2⟩
def nxt_ (S : MS) (n : Int) : Int := S.N.getD n.toNat 0
def drawM (S : MS) (n : Int) : Int × Int × MS :=
  if sortM n then (if 4611686018427387904 < nxt_ S n then (0, 3, S) else (S.L.length, 0, { S with L := S.L ++ [(1, n, nxt_ S n)], N := addN S.N (1, n, nxt_ S n) }))
  else (0, 2, S)
theorem s_draw {p : Nat} {S : MS} (hE : EnvT E) (h : Holds H (storeP W p S :: Γ)) (n : Int) (hlen : S.L.length < 65536) (h0 : 0 ≤ nxt_ S n) (hx : sortM n = true → numOf (1, n, nxt_ S n) S.L = none) :
    ∃ H', go W E 20 [.ptr (some ⟨.own p, 0⟩), .int .i64 n] H = some (.tup [.int .i64 (drawM S n).1, .int .i64 (drawM S n).2.1], H') ∧ Holds H' (storeP W p (drawM S n).2.2 :: Γ) := by
  obtain ⟨a, t, vl, vb, fb, hl, h⟩ := storeP_open h
  unfold drawM
  cases hm : sortM n with
  | false =>
    obtain ⟨idl, idb, s⟩ := stM_st h
    exact ⟨H, c_draw_no hE s n hm, storeP_shut hl h⟩
  | true =>
    have h1 : 1 ≤ n ∧ n ≤ 4 := by simpa [sortM] using hm
    by_cases ht : 4611686018427387904 < nxt_ S n
    · simp only [if_true, if_pos ht]
      obtain ⟨idl, idb, s⟩ := stM_st h
      exact ⟨H, c_draw_top hE s n h1 ht, storeP_shut hl h⟩
    · simp only [if_true, if_neg ht]
      obtain ⟨H', vl', h1, h2⟩ := h.stepE (Q := fun H' (_ : AV) => go W E 20 [.ptr (some ⟨.own p, 0⟩), .int .i64 n] H = some (.tup [.int .i64 S.L.length, .int .i64 0], H')) (B := fun vl' => stM p a t (S.L ++ [(1, n, nxt_ S n)]) vl' vb (addN S.N (1, n, nxt_ S n)) fb) (fun fp hp => by
        obtain ⟨idl, idb, rfl, s⟩ := stM_to h.wf hp
        obtain ⟨H', vl', idl', h1, h2, h3, h4⟩ := c_draw_new (W := W) hE s n h1 ht h0 hlen (hx hm)
        exact ⟨H', vl', h1, _, stM_of h2, h3.mono (fun i _ hi => by simp at hi ⊢; rcases hi with h | h | h <;> simp [h]), fun i hi => by
          simp only [List.mem_cons, List.mem_append] at hi ⊢
          rcases hi with h | h | h | h
          · simp [h]
          · simp [h]
          · rcases h4 i h with h | h <;> simp [h]
          · simp [h]⟩)
      exact ⟨H', h1, storeP_shut (S := { S with L := S.L ++ [(1, n, nxt_ S n)], N := addN S.N (1, n, nxt_ S n) }) hl h2⟩
end
end Go.Proofs.Ytnfehkjkmlbceaa.Sx

/- Clones of bytes; texts. -/
namespace Go.Proofs.Ytnfehkjkmlbceaa.Sx
open HP
section
variable {W : World} {E : Env} {H : Heap} {Γ : List HP}
theorem Holds.row_nil {ty es : Nat} (h : Holds H Γ) : Holds H (row ty es [] (.sl none 0 (.exact 0)) :: Γ) := by
  obtain ⟨fp, a⟩ := h.a
  exact ⟨h.wf, fp, [], fp, .nil, a, rfl, by simp⟩
theorem Holds.by_nil (h : Holds H Γ) : Holds H (by_ W [] (.sl none 0 (.exact 0)) :: Γ) := by
  obtain ⟨fp, a⟩ := h.a
  exact ⟨h.wf, fp, [], fp, .nil rfl, a, rfl, by simp⟩
theorem Holds.by_get {bs : List UInt8} {v : AV} (h : Holds H (by_ W bs v :: Γ)) : ∃ ids, By W H bs v ids := by
  obtain ⟨fp, f, g, a, b⟩ := h.a
  exact ⟨f, a⟩
theorem noUnk_by {bs : List UInt8} {v : AV} {ids : List Nat} (h : By W H bs v ids) : oneC v = true := by cases h <;> rfl
theorem cb_len (bs : List UInt8) : (cb bs).length = bs.length := List.length_map ..
theorem s_clone (hE : EnvT E) (h : Holds H Γ) {bs : List UInt8} {v : AV} {ids : List Nat} (hb : By W H bs v ids) (hl : bs.length ≤ 140737488355328) :
    ∃ w H', go W E 41 [v] H = some (w, H') ∧ Holds H' (by_ W bs w :: Γ) := by
  by_cases hv : v = .sl none 0 (.exact 0)
  · subst hv
    have : bs = [] := by cases hb; assumption
    subst this
    refine ⟨_, H, ?_, h.by_nil⟩
    rw [go_code hE.f41 (by simp [sf41])]
    simp only [sf41, ↓stepK_app, ↓stepK_mupd, ↓run_draw, ↓runD_nil, ↓runD_cons, ↓stD_t, ↓stD_fe, ↓stD_fp, ↓stD_fr, ↓stD_fa, ↓stD_p, ↓stD_r, ↓stD_a, ↓stD_e, ↓getX_hide, rd_nil, rd_cons, get_lay_cells, get_nextH, List.contains_cons, List.contains_nil, Nat.reduceBEq, Bool.or_false, Bool.false_or, Bool.and_self, Bool.and_true, Bool.true_and, Bool.and_false, Bool.false_and, Bool.true_or, or_true, true_or, and_self, and_true, true_and, Nat.reduceLT, ↓putL_cons, ↓putL_nil, ↓run_seq, ↓run_ops, ↓cond_t, ↓cond_f, ↓run_ret, ↓run_skip, ↓run_block, ↓run_scope, ↓run_exit, ↓bnd_some, ↓bnd_none, ↓nxt_n, ↓nxt_r, ↓nxt_e, ↓blk1_n, ↓blk1_r, ↓blk1_e, ↓ops_0, ↓ops_t, ↓ops_f, ↓ops_nil, wanted_some, ↓stepK_p, ↓stepK_r, ↓stepK_a, ↓stepK_f, ↓stepK_e, evP, evX, evR, blkOf, evA, storeA, ↓getX_put, ↓getX_no, ↓getX_e, putT_none, bin_add, bin_sub, bin_mul, bin_eql, bin_neq, bin_lss, bin_leq, bin_gtr, bin_geq, eqV_pn, eqV_ps, eqV_mn, eqV_ms, eqV_sn, eqV_ss, eqV_se, eqV_ag, eqV_b, ↓reduceIte, Nat.reduceEqDiff, ↓finish_nil, resL, resV, oneOrTup, List.map_cons, List.map_nil, ge_iff_le, gt_iff_lt, decide_true, decide_false, beq_self_eq_true, bft, btf, Option.some.injEq, AV.bool.injEq, Bool.true_eq_false, Int.reduceEq, Int.reduceLT, Int.reduceLE, Int.reduceNeg, Int.reduceAdd, Int.reduceSub, Int.reduceMul, Int.reduceToNat, Bool.not_true, Bool.not_false, Bool.false_eq_true, Option.isNone_some, Option.isNone_none, Option.map_some, Option.map_none, Nat.zero_add, Nat.add_zero, Nat.reduceAdd, get_push_cells, get_push_map, push_next, get_setAt_cells, get_setAt_map, setAt_next, noUnk, AV.cells, reduceCtorEq]
  · have heq : eqV .sl v (.sl none 0 (.exact 0)) = some false := by cases hb <;> first | rfl | exact absurd rfl hv
    obtain ⟨k1, k2, k3⟩ := push_keep h.wf (o := .cells (.lst []) 5 none) rfl
    have h1 := h.push (c := []) (t := 5)
    have hb1 := hb.keep h.wf k1 (by simp)
    have hsrc := hb1.src
    have hg1 := h1.get
    have hfill : fill (zerosL [.int .u8 0] 0) [] = some [] := rfl
    by_cases h0 : bs = []
    · subst h0
      refine ⟨.sl (some ⟨.own H.next, 0⟩) 0 (.exact 0), H.push (.cells (.lst []) 5 none), ?_, h1.imp fun fp hp => by rw [hp.1]; exact .zero rfl _ _ hg1⟩
      rw [go_code hE.f41 (by simp [sf41])]
      have happ : appA W (H.push (.cells (.lst []) 5 none)) 5 1 1 false (.sl (some ⟨.own H.next, 0⟩) 0 (.exact 0)) v = some (.sl (some ⟨.own H.next, 0⟩) 0 (.exact 0), H.push (.cells (.lst []) 5 none)) := by
        simp only [appA, hsrc]; rfl
      simp only [sf41, heq, hfill, happ, Nat.zero_mul, Nat.reduceLeDiff, List.length_cons, List.length_nil, ↓stepK_app, ↓stepK_mupd, ↓run_draw, ↓runD_nil, ↓runD_cons, ↓stD_t, ↓stD_fe, ↓stD_fp, ↓stD_fr, ↓stD_fa, ↓stD_p, ↓stD_r, ↓stD_a, ↓stD_e, ↓getX_hide, rd_nil, rd_cons, get_lay_cells, get_nextH, List.contains_cons, List.contains_nil, Nat.reduceBEq, Bool.or_false, Bool.false_or, Bool.and_self, Bool.and_true, Bool.true_and, Bool.and_false, Bool.false_and, Bool.true_or, or_true, true_or, and_self, and_true, true_and, Nat.reduceLT, ↓putL_cons, ↓putL_nil, ↓run_seq, ↓run_ops, ↓cond_t, ↓cond_f, ↓run_ret, ↓run_skip, ↓run_block, ↓run_scope, ↓run_exit, ↓bnd_some, ↓bnd_none, ↓nxt_n, ↓nxt_r, ↓nxt_e, ↓blk1_n, ↓blk1_r, ↓blk1_e, ↓ops_0, ↓ops_t, ↓ops_f, ↓ops_nil, wanted_some, ↓stepK_p, ↓stepK_r, ↓stepK_a, ↓stepK_f, ↓stepK_e, evP, evX, evR, blkOf, evA, storeA, ↓getX_put, ↓getX_no, ↓getX_e, putT_none, bin_add, bin_sub, bin_mul, bin_eql, bin_neq, bin_lss, bin_leq, bin_gtr, bin_geq, eqV_pn, eqV_ps, eqV_mn, eqV_ms, eqV_sn, eqV_ss, eqV_se, eqV_ag, eqV_b, ↓reduceIte, Nat.reduceEqDiff, ↓finish_nil, resL, resV, oneOrTup, List.map_cons, List.map_nil, ge_iff_le, gt_iff_lt, decide_true, decide_false, beq_self_eq_true, bft, btf, Option.some.injEq, AV.bool.injEq, Bool.true_eq_false, Int.reduceEq, Int.reduceLT, Int.reduceLE, Int.reduceNeg, Int.reduceAdd, Int.reduceSub, Int.reduceMul, Int.reduceToNat, Bool.not_true, Bool.not_false, Bool.false_eq_true, Option.isNone_some, Option.isNone_none, Option.map_some, Option.map_none, Nat.zero_add, Nat.add_zero, Nat.reduceAdd, get_push_cells, get_push_map, push_next, get_setAt_cells, get_setAt_map, setAt_next, noUnk, AV.cells, reduceCtorEq]
    · have hpos : 0 < bs.length := List.length_pos_iff.2 h0
      obtain ⟨v', H', e, h2⟩ := (h1.row_nil (ty := 5) (es := 1)).app (W := W) (bytes := 1) (n := 0) (os := false) (by omega) hsrc hpos (by rw [cb_len]; omega) (by simp [oneC]) rfl (by omega)
      have e2 : appA W (H.push (.cells (.lst []) 5 none)) 5 1 1 false (.sl (some ⟨.own H.next, 0⟩) 0 (.exact 0)) v = some (v', H') := by
        rw [← e]
        simp only [appA, hsrc, blkOf, hg1, Cells.getN]
        simp [show ¬ bs = [] from h0]
      refine ⟨v', H', ?_, h2.swap.tail.imp fun fp hp => ?_⟩
      · rw [go_code hE.f41 (by simp [sf41])]
        simp only [sf41, heq, hfill, e2, Nat.zero_mul, Nat.reduceLeDiff, List.length_cons, List.length_nil, ↓stepK_app, ↓stepK_mupd, ↓run_draw, ↓runD_nil, ↓runD_cons, ↓stD_t, ↓stD_fe, ↓stD_fp, ↓stD_fr, ↓stD_fa, ↓stD_p, ↓stD_r, ↓stD_a, ↓stD_e, ↓getX_hide, rd_nil, rd_cons, get_lay_cells, get_nextH, List.contains_cons, List.contains_nil, Nat.reduceBEq, Bool.or_false, Bool.false_or, Bool.and_self, Bool.and_true, Bool.true_and, Bool.and_false, Bool.false_and, Bool.true_or, or_true, true_or, and_self, and_true, true_and, Nat.reduceLT, ↓putL_cons, ↓putL_nil, ↓run_seq, ↓run_ops, ↓cond_t, ↓cond_f, ↓run_ret, ↓run_skip, ↓run_block, ↓run_scope, ↓run_exit, ↓bnd_some, ↓bnd_none, ↓nxt_n, ↓nxt_r, ↓nxt_e, ↓blk1_n, ↓blk1_r, ↓blk1_e, ↓ops_0, ↓ops_t, ↓ops_f, ↓ops_nil, wanted_some, ↓stepK_p, ↓stepK_r, ↓stepK_a, ↓stepK_f, ↓stepK_e, evP, evX, evR, blkOf, evA, storeA, ↓getX_put, ↓getX_no, ↓getX_e, putT_none, bin_add, bin_sub, bin_mul, bin_eql, bin_neq, bin_lss, bin_leq, bin_gtr, bin_geq, eqV_pn, eqV_ps, eqV_mn, eqV_ms, eqV_sn, eqV_ss, eqV_se, eqV_ag, eqV_b, ↓reduceIte, Nat.reduceEqDiff, ↓finish_nil, resL, resV, oneOrTup, List.map_cons, List.map_nil, ge_iff_le, gt_iff_lt, decide_true, decide_false, beq_self_eq_true, bft, btf, Option.some.injEq, AV.bool.injEq, Bool.true_eq_false, Int.reduceEq, Int.reduceLT, Int.reduceLE, Int.reduceNeg, Int.reduceAdd, Int.reduceSub, Int.reduceMul, Int.reduceToNat, Bool.not_true, Bool.not_false, Bool.false_eq_true, Option.isNone_some, Option.isNone_none, Option.map_some, Option.map_none, Nat.zero_add, Nat.add_zero, Nat.reduceAdd, get_push_cells, get_push_map, push_next, get_setAt_cells, get_setAt_map, setAt_next, noUnk, AV.cells, reduceCtorEq]
      · rw [List.nil_append] at hp
        have hp' : Row H' 5 1 (cb bs) v' fp := hp
        generalize hf : cb bs = fl at hp'
        cases hp' with
        | nil => exact absurd (by simpa using hf) h0
        | mk q0 ql hg hln =>
          rename_i j l fl' len
          have : len = bs.length := by rw [← hf, cb_len] at ql; omega
          subst this
          subst hf
          exact .own j l _ hg
theorem findT (b : List UInt8) : ∀ (T : List (List UInt8 × Nat)) (i : Nat), ∃ j, findK (.leaf .s) (.str b) (txM T) i = some ((T.find? fun x => x.1 = b).map fun x => (j, .int .i64 x.2)) := by
  intro T
  induction T with
  | nil => intro i; exact ⟨0, rfl⟩
  | cons x T ih =>
    intro i
    simp only [txM, List.map_cons, findK, eqKey, eqLeaf, List.find?_cons]
    by_cases hx : x.1 = b
    · have : (b == x.1) = true := by simp [hx]
      exact ⟨i, by simp [this, hx]⟩
    · have : (b == x.1) = false := by simp; exact fun e => hx e.symm
      obtain ⟨j, hj⟩ := ih (i + 1)
      exact ⟨j, by simp only [this, decide_eq_false hx]; exact hj⟩
theorem bys_snoc {b : List UInt8} {v : AV} : ∀ {B : List (List UInt8)} {V : List AV} {H : Heap} {Γ : List HP}, Holds H (bys W B V :: by_ W b v :: Γ) → Holds H (bys W (B ++ [b]) (V ++ [v]) :: Γ) := by
  have key : ∀ {B : List (List UInt8)} {V : List AV} {H : Heap} {f g : List Nat}, (bys W B V).P H f → (by_ W b v).P H g → (∀ i ∈ f, i ∉ g) → (bys W (B ++ [b]) (V ++ [v])).P H (f ++ g) := by
    intro B
    induction B with
    | nil =>
      intro V H f g hf hg hd
      cases V with
      | nil => cases hf; exact ⟨g, [], hg, rfl, by simp, by simp⟩
      | cons u V => exact hf.2.elim
    | cons c B ih =>
      intro V H f g hf hg hd
      cases V with
      | nil => exact hf.2.elim
      | cons u V =>
        obtain ⟨f1, f2, a, b', rfl, d⟩ := hf
        refine ⟨f1, f2 ++ g, a, ih b' hg (fun i hi => hd i (List.mem_append.2 (.inr hi))), by simp, fun i hi hg' => ?_⟩
        rcases List.mem_append.1 hg' with h1 | h1
        · exact d i hi h1
        · exact hd i (List.mem_append.2 (.inl hi)) h1
  intro B V H Γ h
  have h := h.sep'
  exact h.imp fun fp ⟨f, g, a, b, e, d⟩ => by subst e; exact key a b d
theorem bys_get : ∀ {B : List (List UInt8)} {V : List AV} {i : Nat} {fp : List Nat}, (bys W B V).P H fp → (hi : i < B.length) → ∃ v ids, V[i]? = some v ∧ By W H B[i] v ids := by
  intro B
  induction B with
  | nil => intro V i fp _ hi; simp at hi
  | cons c B ih =>
    intro V i fp hp hi
    cases V with
    | nil => exact hp.2.elim
    | cons u V =>
      obtain ⟨f1, f2, a, b', rfl, d⟩ := hp
      cases i with
      | zero => exact ⟨u, f1, rfl, a⟩
      | succ i => simpa using ih (i := i) b' (by simpa using hi)
theorem Holds.bys_get {B : List (List UInt8)} {V : List AV} (h : Holds H (bys W B V :: Γ)) {i : Nat} (hi : i < B.length) : ∃ v ids, V[i]? = some v ∧ By W H B[i] v ids := by
  obtain ⟨fp, f, g, a, b⟩ := h.a
  exact Go.Proofs.Ytnfehkjkmlbceaa.Sx.bys_get a hi
end
end Go.Proofs.Ytnfehkjkmlbceaa.Sx

/- Text. -/
namespace Go.Proofs.Ytnfehkjkmlbceaa.Sx
open HP
section
variable {W : World} {E : Env} {H : Heap} {Γ : List HP}
theorem By.b2s' {bs : List UInt8} {v : AV} {ids : List Nat} (h : By W H bs v ids) : b2sV W H v = some (.str bs) := h.b2s (A := .e) (x := .c v) rfl
theorem By.len' {bs : List UInt8} {v : AV} {ids : List Nat} (h : By W H bs v ids) : lenV v = some (.int .i64 bs.length) := h.len (A := .e) (x := .c v) rfl
/-- Bytes that lay there when the call began. -/
def OldBy (W : World) (bs : List UInt8) (v : AV) : Prop := ∀ H, By W H bs v []
theorem Holds.ne {i j : Nat} {o o' : AObj} {ho : o.line = none} {ho' : o'.line = none} (h : Holds H (obj i o ho :: obj j o' ho' :: Γ)) : ¬ i = j := by
  obtain ⟨fp, f, g, a, ⟨f2, g2, b, c, e2, d2⟩, e, d⟩ := h.a
  intro hij
  refine d i (by rw [a.1]; simp) ?_
  rw [e2, b.1, hij]; simp
theorem s_add {p a t : Nat} {L : List T3} {vl vb : AV} {N : List Int} {fb : List AV} (hE : EnvT E) (h : Holds H (stM p a t L vl vb N fb :: Γ)) (x : T3) (hx : numOf x L = none) (hlen : L.length < 65536) (hk : x.1 = 1 → (1 ≤ x.2.1 ∧ x.2.1 ≤ 4) ∧ 0 ≤ x.2.2) :
    ∃ H' vl', go W E 43 [.ptr (some ⟨.own p, 0⟩), .agg (c3 x)] H = some (.tup [.int .i64 L.length, .int .i64 0], H') ∧ Holds H' (stM p a t (L ++ [x]) vl' vb (addN N x) fb :: Γ) := by
  exact h.stepE (Q := fun H' (_ : AV) => go W E 43 [.ptr (some ⟨.own p, 0⟩), .agg (c3 x)] H = some (.tup [.int .i64 L.length, .int .i64 0], H')) (B := fun vl' => stM p a t (L ++ [x]) vl' vb (addN N x) fb) (fun fp hp => by
        obtain ⟨idl, idb, rfl, s⟩ := stM_to h.wf hp
        obtain ⟨H', vl', idl', h1, h2, h3, h4⟩ := c_add (W := W) hE s x hx hlen hk
        exact ⟨H', vl', h1, _, stM_of h2, h3.mono (fun i _ hi => by simp at hi ⊢; rcases hi with h | h | h <;> simp [h]), fun i hi => by
          simp only [List.mem_cons, List.mem_append] at hi ⊢
          rcases hi with h | h | h | h
          · simp [h]
          · simp [h]
          · rcases h4 i h with h | h <;> simp [h]
          · simp [h]⟩)
def textN (S : MS) (b : List UInt8) : Nat := match S.T.find? fun x => x.1 = b with
  | some x => x.2
  | none => S.L.length
def textM (S : MS) (b : List UInt8) : MS := match S.T.find? fun x => x.1 = b with
  | some _ => S
  | none => { S with L := S.L ++ [(9, (S.T.length : Int), 0)], T := S.T ++ [(b, S.L.length)] }
theorem s_text {p : Nat} {S : MS} (hE : EnvT E) (h : Holds H (storeP W p S :: Γ)) {bs : List UInt8} {v : AV} (hv : OldBy W bs v) (hlen : S.L.length < 65536) (hT : S.T.length < 65536) (hbs : bs.length ≤ 1048576) (hx : numOf (9, (S.T.length : Int), 0) S.L = none) :
    ∃ H', go W E 21 [.ptr (some ⟨.own p, 0⟩), v] H = some (.tup [.int .i64 (textN S bs), .int .i64 0], H') ∧ Holds H' (storeP W p (textM S bs) :: Γ) := by
  have his := s_is hE h
  obtain ⟨a, t, vl, vb, fb, hl, h⟩ := storeP_open h
  obtain ⟨h5, h'⟩ := stM_open h
  have hcell := h'.get
  have hmt := (h.ord [1]).getm
  have hlv := (hv H).len'
  have hb2s := fun H => (hv H).b2s'
  have hbl : ¬ (1048576 : Int) < bs.length := by omega
  obtain ⟨j, hf⟩ := findT bs S.T 0
  have ha := h.bump 12
  unfold textN textM
  cases hfd : S.T.find? fun x => x.1 = bs with
  | some x =>
    rw [hfd] at hf
    refine ⟨_, ?_, storeP_shut hl ha⟩
    rw [go_code hE.f21 (by simp [sf21])]
    simp only [sf21, his, hlv, hb2s, hbl, hcell, hmt, hf, mapOf, fitK, fitL, fitLeaf, lookV, ↓sxp, sxq, ↓reduceIte, Nat.reduceBEq, Nat.reduceLT, evP, evX, evR, blkOf, evA, storeA, Nat.reduceEqDiff, resL, resV, oneOrTup, Int.reduceEq, Int.reduceLT, Int.reduceLE, Int.reduceNeg, Int.reduceAdd, Int.reduceSub, Int.reduceMul, Int.reduceToNat, Nat.reduceAdd, noUnk, AV.cells, reduceCtorEq, Nat.reduceLeDiff, Cells.get, Cells.getN, Nat.reduceMul]
  | none =>
    rw [hfd] at hf
    obtain ⟨H1, vl', hadd, h1⟩ := s_add (W := W) hE ha (9, (S.T.length : Int), 0) hx hlen (by simp)
    rw [show addN S.N (9, (S.T.length : Int), 0) = S.N from by simp [addN]] at h1
    have hb1 := h1.bump1 12 7
    obtain ⟨w, H2, hcl, h2⟩ := s_clone hE hb1 (hv _) (by omega)
    have h3 := h2.swap.lay (c := [w]) (t := 34)
    obtain ⟨_, h3'⟩ := stM_open (h3.ord [2] : Holds _ (stM p a t (S.L ++ [(9, (S.T.length : Int), 0)]) vl' vb S.N fb :: blk (H1.next + 7) [w] 34 :: by_ W bs w :: mp t (txM S.T) :: bys W (S.T.map (·.1)) fb :: Γ))
    obtain ⟨idw, hbw⟩ := (h3.ord [1]).by_get
    obtain ⟨vb', H4, happ, h4⟩ := (h3'.ord [3]).app (W := W) (bytes := 24) (k := 1) (n := S.T.length) (new := [w]) (os := false) (x := .sl (some ⟨.own (H1.next + 7), 0⟩) 1 (.exact 1)) (by omega)
      (by simp only [srcA, blkOf, h3.get, Cells.getN, Cells.get]; rfl) (by omega) rfl (by simp [noUnk_by hbw]) (by omega) (by omega)
    have hcell1 := (stM_open h1).2.get
    have hcell2 := (stM_open (h2.ord [2])).2.get
    have hcell3 := h3'.get
    have hcell4 := (h4.ord [1]).get
    have hmt4 := (h4.ord [6]).getm
    have htp : ¬ t = p := (h4.ord [6, 1]).ne
    obtain ⟨ay, cy, hv'⟩ := h4.row_len (by omega) (n := S.T.length + 1) (by simp [hl])
    subst hv'
    obtain ⟨ax, cx, hv⟩ := (h'.ord [3]).row_len (by omega) (n := S.T.length) (by simp [hl])
    subst hv
    have hw : H4.write p 3 [.sl ay (S.T.length + 1) cy] = some (H4.setAt p (.cells (.lst (stCells vl' a t (.sl ay (S.T.length + 1) cy) S.N)) 79 none)) := by
      simp [Heap.write, hcell4, Cells.size, oneC, Cells.setN, Cells.set]
    have h6 := h4.swap.set (c' := stCells vl' a t (.sl ay (S.T.length + 1) cy) S.N) (t' := 79) |>.bump 8
    have h7 := (h6.ord [6]).setm (es' := txM (S.T ++ [(bs, S.L.length)]))
    have hupd : updK (.leaf .s) (txM S.T) (.str bs) (.int .i64 S.L.length) = some (txM (S.T ++ [(bs, S.L.length)])) := by
      simp only [updK, hf, Option.map_none]; simp [txM]
    have e1 := stM_shut h5 (h7.ord [1, 2, 2, 1])
    have e2 := ((bys_snoc (e1.ord [4, 3])).ord [3]).tail.ord [1, 1]
    have e3 := storeP_shut (S := { S with L := S.L ++ [(9, (S.T.length : Int), 0)], T := S.T ++ [(bs, S.L.length)] }) (fb := fb ++ [w]) (Γ := Γ) (W := W) (p := p) (a := a) (t := t) (vl := vl') (vb := .sl ay (S.T.length + 1) cy) (by simp [hl]) (by rw [show (S.T ++ [(bs, S.L.length)]).map (·.1) = S.T.map (·.1) ++ [bs] from by simp]; exact e2)
    refine ⟨_, ?_, e3⟩
    rw [go_code hE.f21 (by simp [sf21])]
    simp only [c3] at hadd
    simp only [sf21, noUnk_by hbw, his, hlv, hb2s, hbl, hcell, hmt, hf, hadd, hcl, hcell1, hcell2, hcell3, hcell4, hmt4, htp, happ, hw, hupd, mapOf, fitK, fitL, fitLeaf, lookV, mupdA, ↓sxp, sxq, ↓reduceIte, Nat.reduceBEq, Nat.reduceLT, evP, evX, evR, blkOf, evA, storeA, Nat.reduceEqDiff, resL, resV, oneOrTup, Int.reduceEq, Int.reduceLT, Int.reduceLE, Int.reduceNeg, Int.reduceAdd, Int.reduceSub, Int.reduceMul, Int.reduceToNat, Nat.reduceAdd, noUnk, AV.cells, reduceCtorEq, Nat.reduceLeDiff, Cells.get, Cells.getN, Nat.reduceMul]
    done
end
end Go.Proofs.Ytnfehkjkmlbceaa.Sx

/- New, Get, Bytes; a range over all terms. -/
namespace Go.Proofs.Ytnfehkjkmlbceaa.Sx
open HP
section
variable {W : World} {E : Env} {H : Heap} {Γ : List HP}
def S0 : MS := ⟨[], [0, 0, 0, 0, 0], []⟩
theorem Holds.bys_nil (h : Holds H Γ) : Holds H (bys W [] [] :: Γ) := by
  obtain ⟨fp, a⟩ := h.a
  exact ⟨h.wf, fp, [], fp, rfl, a, rfl, by simp⟩
theorem s_new (hE : EnvT E) (h : Holds H Γ) : ∃ p H', go W E 10 [] H = some (.ptr (some ⟨.own p, 0⟩), H') ∧ Holds H' (storeP W p S0 :: Γ) := by
  have h1 := h.pushm (es := [])
  have h2 := h1.pushm (es := [])
  have h3 := h2.push (c := stCells (.sl none 0 (.exact 0)) H.next (H.next + 1) (.sl none 0 (.exact 0)) [0, 0, 0, 0, 0]) (t := 79)
  simp only [push_next] at h3
  have e1 := stM_shut (L := []) rfl (((h3.row_nil (ty := 34) (es := 1)).row_nil (ty := 33) (es := 3)).ord [2, 3, 0, 0])
  have e2 := ((e1.bys_nil (W := W)).ord [1, 1])
  have e3 := storeP_shut (S := S0) (W := W) (fb := []) (Γ := Γ) rfl (e2.ord [0, 0])
  refine ⟨_, _, ?_, e3⟩
  rw [go_code hE.f10 (by simp [sf10])]
  simp only [sf10, stCells, ↓sxp, sxq, ↓reduceIte, Nat.reduceBEq, Nat.reduceLT, evP, evX, evR, blkOf, evA, storeA, Nat.reduceEqDiff, resL, resV, oneOrTup, Int.reduceEq, Int.reduceLT, Int.reduceLE, Int.reduceNeg, Int.reduceAdd, Int.reduceSub, Int.reduceMul, Int.reduceToNat, Nat.reduceAdd, noUnk, AV.cells, reduceCtorEq, Nat.reduceLeDiff, Cells.get, Cells.getN, Nat.reduceMul]
def getM (S : MS) (n : Int) : T3 := if hasM S.L n 0 then S.L.getD n.toNat (0, 0, 0) else (0, 0, 0)
theorem getN3 {L : List T3} {i : Nat} {x : T3} (h : L[i]? = some x) : Cells.getN (.lst (flat3 L)) (i * 3) 3 = some (c3 x) := by
  obtain ⟨h1, h2, h3⟩ := flat3_get h
  simp only [Cells.getN, Cells.get, h1, h2, show i * 3 + 1 + 1 = i * 3 + 2 from rfl, h3]
  rfl
theorem s_get {p : Nat} {S : MS} (hE : EnvT E) (h : Holds H (storeP W p S :: Γ)) (n : Int) :
    ∃ H', go W E 14 [.ptr (some ⟨.own p, 0⟩), .int .i64 n] H = some (.tup [.agg (c3 (getM S n)), .bool (hasM S.L n 0)], H') ∧ Holds H' (storeP W p S :: Γ) := by
  have h1 := h.push (c := [.int .i64 0, .int .i64 0, .int .i64 0]) (t := 33)
  have his := s_is hE h1.swap
  have hhas := s_has hE h1.swap n 0
  unfold getM
  cases hb : hasM S.L n 0 with
  | false =>
    rw [hb] at hhas
    have h2 := h1.set (c' := [.int .i64 0, .int .i64 0, .int .i64 0]) (t' := 33)
    refine ⟨_, ?_, h2.tail⟩
    rw [go_code hE.f14 (by simp [sf14])]
    have hg := h1.get
    simp only [sf14, his, hhas, hg, Heap.write, Cells.size, List.all_cons, List.all_nil, Cells.setN, Cells.set, List.set_cons_zero, List.set_cons_succ, c3, ↓sxp, sxq, ↓reduceIte, Nat.reduceBEq, Nat.reduceLT, evP, evX, evR, blkOf, evA, storeA, Nat.reduceEqDiff, resL, resV, oneOrTup, Int.reduceEq, Int.reduceLT, Int.reduceLE, Int.reduceNeg, Int.reduceAdd, Int.reduceSub, Int.reduceMul, Int.reduceToNat, Nat.reduceAdd, noUnk, AV.cells, reduceCtorEq, Nat.reduceLeDiff, Cells.get, Cells.getN, Nat.reduceMul]
  | true =>
    rw [hb] at hhas
    obtain ⟨a, t, vl, vb, fb, hl, h2⟩ := storeP_open h1.swap
    obtain ⟨_, h3⟩ := stM_open h2
    have hcell := h3.get
    have hn : 0 ≤ n ∧ n < S.L.length := by simp [hasM] at hb; exact hb
    obtain ⟨j, l, c, rfl, hg⟩ := (h3.ord [2]).row_get (by omega) (n := S.L.length) (flat3_len _) (by omega)
    have hx : S.L[n.toNat]? = some S.L[n.toNat] := List.getElem?_eq_getElem (by omega)
    have hgd : S.L.getD n.toNat (0, 0, 0) = S.L[n.toNat] := by simp [List.getD_eq_getElem?_getD, hx]
    have hg3 := getN3 hx
    rw [hgd]
    generalize S.L[n.toNat] = x at *
    have h4 := h1.set (c' := c3 x) (t' := 33)
    refine ⟨_, ?_, h4.tail⟩
    have hgb := h1.get
    rw [go_code hE.f14 (by simp [sf14])]
    simp only [c3] at hg3
    simp only [sf14, his, hhas, hcell, ↓hg, ↓hg3, hgb, hn, and_self, Heap.write, Cells.size, List.all_cons, List.all_nil, Cells.setN, Cells.set, List.set_cons_zero, List.set_cons_succ, c3, ↓sxp, sxq, ↓reduceIte, Nat.reduceBEq, Nat.reduceLT, evP, evX, evR, blkOf, evA, storeA, Nat.reduceEqDiff, resL, resV, oneOrTup, Int.reduceEq, Int.reduceLT, Int.reduceLE, Int.reduceNeg, Int.reduceAdd, Int.reduceSub, Int.reduceMul, Int.reduceToNat, Nat.reduceAdd, noUnk, AV.cells, reduceCtorEq, Nat.reduceLeDiff, Cells.get, Cells.getN, Nat.reduceMul]
end
end Go.Proofs.Ytnfehkjkmlbceaa.Sx

/- Bytes; a range over all terms. -/
namespace Go.Proofs.Ytnfehkjkmlbceaa.Sx
open HP
section
variable {W : World} {E : Env} {H : Heap} {Γ : List HP}
def bytesM (S : MS) (n : Int) : List UInt8 := if hasM S.L n 9 then ((S.T.map (·.1))[(S.L.getD n.toNat (0, 0, 0)).2.1.toNat]?).getD [] else []
theorem s_bytes {p : Nat} {S : MS} (hE : EnvT E) (h : Holds H (storeP W p S :: Γ)) (n : Int) (hA : hasM S.L n 9 = true → 0 ≤ (S.L.getD n.toNat (0, 0, 0)).2.1 ∧ (S.L.getD n.toNat (0, 0, 0)).2.1 < S.T.length)
    (hB : ∀ b ∈ S.T, b.1.length ≤ 1048576) :
    ∃ w H', go W E 15 [.ptr (some ⟨.own p, 0⟩), .int .i64 n] H = some (.tup [w, .bool (hasM S.L n 9)], H') ∧ Holds H' (by_ W (bytesM S n) w :: storeP W p S :: Γ) := by
  have his := s_is hE h
  have hhas := s_has hE h n 9
  unfold bytesM
  cases hb : hasM S.L n 9 with
  | false =>
    rw [hb] at hhas
    refine ⟨_, H, ?_, h.by_nil⟩
    rw [go_code hE.f15 (by simp [sf15])]
    simp only [sf15, his, hhas, ↓sxp, sxq, ↓reduceIte, Nat.reduceBEq, Nat.reduceLT, evP, evX, evR, blkOf, evA, storeA, Nat.reduceEqDiff, resL, resV, oneOrTup, Int.reduceEq, Int.reduceLT, Int.reduceLE, Int.reduceNeg, Int.reduceAdd, Int.reduceSub, Int.reduceMul, Int.reduceToNat, Nat.reduceAdd, noUnk, AV.cells, reduceCtorEq, Nat.reduceLeDiff, Cells.get, Cells.getN, Nat.reduceMul]
  | true =>
    rw [hb] at hhas
    obtain ⟨a, t, vl, vb, fb, hl, h2⟩ := storeP_open (h.bump 17)
    obtain ⟨h5, h3⟩ := stM_open h2
    have hcell := h3.get
    have hn : 0 ≤ n ∧ n < S.L.length := by simp [hasM] at hb; exact hb.1
    obtain ⟨hA0, hA1⟩ := hA hb
    obtain ⟨j, l, c, rfl, hg⟩ := (h3.ord [2]).row_get (by omega) (n := S.L.length) (flat3_len _) (by omega)
    obtain ⟨j2, l2, c2, rfl, hg2⟩ := (h3.ord [3]).row_get (by omega) (n := S.T.length) (by omega) (by omega)
    have hx : S.L[n.toNat]? = some S.L[n.toNat] := List.getElem?_eq_getElem (by omega)
    have hgd : S.L.getD n.toNat (0, 0, 0) = S.L[n.toNat] := by simp [List.getD_eq_getElem?_getD, hx]
    obtain ⟨_, hg1, _⟩ := flat3_get hx
    rw [hgd] at hA0 hA1 ⊢
    generalize S.L[n.toNat] = x at *
    have hi : x.2.1.toNat < (S.T.map (·.1)).length := by simp; omega
    obtain ⟨v, ids, hv1, hv2⟩ := (h2.ord [2]).bys_get hi
    have hq : ((S.T.map (·.1))[x.2.1.toNat]?).getD [] = (S.T.map (·.1))[x.2.1.toNat] := by simp [List.getElem?_eq_getElem hi]
    rw [if_pos rfl, hq]
    obtain ⟨w, H', hcl, h6⟩ := s_clone hE (h.bump 17) hv2 (by
      have := hB (S.T[x.2.1.toNat]'(by simpa using hi)) (List.getElem_mem _)
      simp; omega)
    have hgo2 : 0 ≤ x.2.1 ∧ x.2.1 < S.T.length := ⟨hA0, hA1⟩
    refine ⟨w, H', ?_, h6⟩
    rw [go_code hE.f15 (by simp [sf15])]
    simp only [sf15, his, hhas, ↓hcell, ↓hg, ↓hg2, hg1, hv1, hgo2, hcl, hn, and_self, ↓sxp, sxq, ↓reduceIte, Nat.reduceBEq, Nat.reduceLT, evP, evX, evR, blkOf, evA, storeA, Nat.reduceEqDiff, resL, resV, oneOrTup, Int.reduceEq, Int.reduceLT, Int.reduceLE, Int.reduceNeg, Int.reduceAdd, Int.reduceSub, Int.reduceMul, Int.reduceToNat, Nat.reduceAdd, noUnk, AV.cells, reduceCtorEq, Nat.reduceLeDiff, Cells.get, Cells.getN, Nat.reduceMul]
theorem finish_one {rs : List SRes} {A : Tm} {ro : Option Nat} {d : Nat} (hd : H.get d = some (.deferred true)) : finish W rs ⟨A, [d], ro⟩ H = bnd (resL W (H.setAt d (.deferred false)) A rs) fun l => some (oneOrTup l, H.setAt d (.deferred false)) := by
  simp only [finish, shutMarks, hd]
  cases resL W (H.setAt d (.deferred false)) A rs <;> rfl
theorem finish_two {rs : List SRes} {A : Tm} {ro : Option Nat} {d e : Nat} (hd : H.get d = some (.deferred true)) (he : (H.setAt d (.deferred false)).get e = some (.deferred true)) : finish W rs ⟨A, [d, e], ro⟩ H = bnd (resL W ((H.setAt d (.deferred false)).setAt e (.deferred false)) A rs) fun l => some (oneOrTup l, (H.setAt d (.deferred false)).setAt e (.deferred false)) := by
  simp only [finish, shutMarks, hd, he]
  cases resL W ((H.setAt d (.deferred false)).setAt e (.deferred false)) A rs <;> rfl
def lp (l : Nat) (o : AObj) (ho : o.line = none) : HP := obj l o ho
abbrev ready (l : Nat) (tm : Tm) (ps : List Nat) (asg body : SC) (d : Nat) : HP := obj l (.loop .ready none tm ps asg body d) rfl
abbrev busy (l : Nat) (tm : Tm) (ps : List Nat) (asg body : SC) (d : Nat) : HP := obj l (.loop .busy none tm ps asg body d) rfl
abbrev over (l : Nat) (x : Lv) (tm : Tm) (ps : List Nat) (asg body : SC) (d : Nat) : HP := obj l (.loop .done (some x) tm ps asg body d) rfl
abbrev mark (d : Nat) : HP := obj d (.deferred true) rfl
theorem Holds.geto {i : Nat} {o : AObj} {ho : o.line = none} (h : Holds H (obj i o ho :: Γ)) : H.get i = some o := by
  obtain ⟨fp, f, g, a, b⟩ := h.a
  exact a.2
theorem Holds.seto {i : Nat} {o o' : AObj} {ho : o.line = none} (ho' : o'.line = none) (h : Holds H (obj i o ho :: Γ)) : Holds (H.setAt i o') (obj i o' ho' :: Γ) :=
  h.step fun fp hp => by
    obtain ⟨k1, k2, k3⟩ := setAt_keep h.wf hp.2 (o' := o') ho'
    exact ⟨[i], ⟨rfl, k2⟩, by rw [hp.1]; exact k1, fun j hj => .inl (by rw [hp.1]; exact hj)⟩
theorem Holds.pusho {o : AObj} (ho : o.line = none) (h : Holds H Γ) : Holds (H.push o) (obj H.next o ho :: Γ) := by
  obtain ⟨k1, k2, k3⟩ := push_keep h.wf (o := o) ho
  obtain ⟨fp, a⟩ := h.a
  refine ⟨k1.wf, _, [H.next], fp, ⟨rfl, k2⟩, (all Γ).keep h.wf a k1 (by simp), rfl, fun i hi hg => ?_⟩
  have := (all Γ).lt h.wf a i hg
  simp at hi; omega
/-- One round of a range over a function. -/
theorem yld_run {l d : Nat} {tm : Tm} {ps : List Nat} {asg body : SC} {args : List AV} {f1 f3 : Fr} {H1 H3 : Heap} {x : Lv} {Γ Γ1 Γ3 : List HP} (h : Holds H (ready l tm ps asg body d :: Γ)) (hps : args.length = ps.length)
    (ha : run W E asg ⟨putsT tm ps args, [], some l⟩ H = some (.normal, f1, H1)) (h1 : Holds H1 (ready l tm ps asg body d :: Γ1))
    (hb : run W E body f1 (H1.setAt l (.loop .busy none tm ps asg body d)) = some (x, f3, H3)) (h3 : Holds H3 (busy l tm ps asg body d :: Γ3)) :
    (x = .normal → ∃ H', yldS (run W E) l args H = some (true, H') ∧ Holds H' (ready l tm ps asg body d :: Γ3)) ∧
    (x ≠ .normal → ∃ H', yldS (run W E) l args H = some (false, H') ∧ Holds H' (over l x tm ps asg body d :: Γ3)) := by
  have hg := h.geto
  have hg1 := h1.geto
  have hg3 := h3.geto
  constructor
  · rintro rfl
    refine ⟨_, ?_, h3.seto (o' := .loop .ready none tm ps asg body d) rfl⟩
    simp only [yldS, hg, if_pos hps, ha, hg1, hb, hg3]
  · intro hx
    refine ⟨_, ?_, h3.seto (o' := .loop .done (some x) tm ps asg body d) rfl⟩
    cases x <;> first | exact absurd rfl hx | simp only [yldS, hg, if_pos hps, ha, hg1, hb, hg3]
theorem rnd_b {l d : Nat} {tm : Tm} {ps : List Nat} {asg body : SC} {ex : Ex} (h : Holds H (ready l tm ps asg body d :: Γ)) :
    (∀ f, roundBody l body (.normal, f, H) ex = bnd (ex body f (H.setAt l (.loop .busy none tm ps asg body d))) (roundEnd l)) ∧ Holds (H.setAt l (.loop .busy none tm ps asg body d)) (busy l tm ps asg body d :: Γ) := by
  refine ⟨fun f => ?_, h.seto rfl⟩
  simp only [roundBody, h.geto]
theorem rnd_n {l d : Nat} {tm : Tm} {ps : List Nat} {asg body : SC} (h : Holds H (busy l tm ps asg body d :: Γ)) :
    (∀ f, roundEnd l (.normal, f, H) = some (true, H.setAt l (.loop .ready none tm ps asg body d))) ∧ Holds (H.setAt l (.loop .ready none tm ps asg body d)) (ready l tm ps asg body d :: Γ) := by
  refine ⟨fun f => ?_, h.seto rfl⟩
  simp only [roundEnd, h.geto]
theorem rnd_x {l d : Nat} {tm : Tm} {ps : List Nat} {asg body : SC} {y : Lv} (hy : y ≠ .normal) (h : Holds H (busy l tm ps asg body d :: Γ)) :
    (∀ f, roundEnd l (y, f, H) = some (false, H.setAt l (.loop .done (some y) tm ps asg body d))) ∧ Holds (H.setAt l (.loop .done (some y) tm ps asg body d)) (over l y tm ps asg body d :: Γ) := by
  refine ⟨fun f => ?_, h.seto rfl⟩
  cases y <;> first | exact absurd rfl hy | (simp only [roundEnd, h.geto])
theorem yld_eq {l d : Nat} {tm : Tm} {ps : List Nat} {asg body : SC} {args : List AV} {ex : Ex} (h : Holds H (ready l tm ps asg body d :: Γ)) (hl : args.length = ps.length) :
    yldS ex l args H = bnd (ex asg ⟨putsT tm ps args, [], some l⟩ H) fun x => roundBody l body x ex := yldS_eq _ _ _ _ h.geto hl
theorem putsT_cons {A : Tm} {t : Nat} {ts : List Nat} {v : AV} {vs : List AV} : putsT A (t :: ts) (v :: vs) = putsT (putT A (some t) v) ts vs := (Eq.refl _).trans rfl
theorem putsT_nil {A : Tm} : putsT A [] [] = A := (Eq.refl _).trans rfl
/-- What a round must do. -/
def RoundOk (W : World) (E : Env) (p bx : Nat) (S : MS) (l d : Nat) (tm : Tm) (ps : List Nat) (asg body : SC) (Γ : Nat → List HP) (Δ : Lv → List HP) (i : Nat) (x : T3) : Prop :=
  ∀ H, Holds H (ready l tm ps asg body d :: mark d :: storeP W p S :: blk bx [.ptr (some ⟨.own p, 0⟩)] 25 :: Γ i) →
    ∃ H', (yldS (run W E) l [.int .i64 i, .agg (c3 x)] H = some (true, H') ∧ Holds H' (ready l tm ps asg body d :: mark d :: storeP W p S :: blk bx [.ptr (some ⟨.own p, 0⟩)] 25 :: Γ (i + 1))) ∨
      (yldS (run W E) l [.int .i64 i, .agg (c3 x)] H = some (false, H') ∧ ∃ y, y ≠ .normal ∧ Holds H' (over l y tm ps asg body d :: mark d :: storeP W p S :: blk bx [.ptr (some ⟨.own p, 0⟩)] 25 :: Δ y))
theorem stepK_yld {A : Tm} {l : Nat} {x : SX} {args : List SX} (hx : evX A x = .yld l) : stepK W E (run W E) A H (.e (.callv x args)) = bnd (yldS (run W E) l (args.map (evX A)) H) fun y => some (.bool y.1, y.2) := by
  rw [stepK_v, hx]
theorem all_loop {p bx : Nat} {S : MS} {l d : Nat} {tm : Tm} {ps : List Nat} {asg body : SC} {Γ : Nat → List HP} {Δ : Lv → List HP} (hb : S.L.length < 65536)
    (hr : ∀ i x, S.L[i]? = some x → RoundOk W E p bx S l d tm ps asg body Γ Δ i x) :
    ∀ (m i : Nat) (A : Tm) (H : Heap), i + m = S.L.length → getX A 0 = .yld l → getX A 1 = .ptr (some ⟨.own bx, 0⟩) → getX A 5 = .int .i64 S.L.length → getX A 6 = .int .i64 i →
      Holds H (ready l tm ps asg body d :: mark d :: storeP W p S :: blk bx [.ptr (some ⟨.own p, 0⟩)] 25 :: Γ i) →
      ∃ lv A' H', run W E (.loop lp39_0) ⟨A, [], none⟩ H = some (lv, ⟨A', [], none⟩, H') ∧ ((lv = .exit 0 ∧ Holds H' (ready l tm ps asg body d :: mark d :: storeP W p S :: blk bx [.ptr (some ⟨.own p, 0⟩)] 25 :: Γ S.L.length)) ∨
        (lv = .ret ∧ ∃ y, y ≠ .normal ∧ Holds H' (over l y tm ps asg body d :: mark d :: storeP W p S :: blk bx [.ptr (some ⟨.own p, 0⟩)] 25 :: Δ y))) := by
  intro m
  induction m with
  | zero =>
    intro i A H him h0 h1 h5 h6 h
    have : i = S.L.length := by omega
    subst this
    have hlt : ¬ (S.L.length : Int) < S.L.length := by omega
    rw [run_loop]
    generalize run W E (.loop lp39_0) = L
    simp only [lp39_0, h0, h1, h5, h6, hlt, ↓sxp, sxq, ↓reduceIte, Nat.reduceBEq, Nat.reduceLT, evP, evX, evR, blkOf, evA, storeA, Nat.reduceEqDiff, resL, resV, oneOrTup, Int.reduceEq, Int.reduceLT, Int.reduceLE, Int.reduceNeg, Int.reduceAdd, Int.reduceSub, Int.reduceMul, Int.reduceToNat, Nat.reduceAdd, noUnk, AV.cells, reduceCtorEq, Nat.reduceLeDiff, Cells.get, Cells.getN, Nat.reduceMul]
    exact ⟨_, _, _, rfl, .inl ⟨rfl, h⟩⟩
  | succ m ih =>
    intro i A H him h0 h1 h5 h6 h
    have hlt : (i : Int) < S.L.length := by omega
    have hlt0 : (0 : Int) ≤ i ∧ (i : Int) < S.L.length := by omega
    obtain ⟨a, t, vl, vb, fb, hl, h2⟩ := storeP_open (h.ord [2])
    obtain ⟨_, h3⟩ := stM_open h2
    have hcell := h3.get
    have hbx := (h.ord [3]).get
    obtain ⟨j, l', c, rfl, hg⟩ := (h3.ord [2]).row_get (by omega) (n := S.L.length) (flat3_len _) (by omega)
    have hx : S.L[i]? = some S.L[i] := List.getElem?_eq_getElem (by omega)
    have hg3 := getN3 hx
    obtain ⟨H', hq⟩ := hr i _ hx H h
    generalize S.L[i] = x at *
    rw [run_loop]
    generalize hL : run W E (.loop lp39_0) = L
    simp only [c3] at hg3
    rcases hq with ⟨hy, h'⟩ | ⟨hy, y, hyn, h'⟩
    · have hw : IntKind.i64.wrap ((i : Int) + 1) = ((i + 1 : Nat) : Int) := by rw [w64 (by omega)]; simp
      simp only [c3] at hy
      simp only [lp39_0, h0, h1, h5, h6, hlt, hlt0, ↓hbx, ↓hcell, ↓hg, ↓hg3, ↓stepK_yld (l := l), hy, hw, Int.toNat_natCast, ↓sxp, sxq, ↓reduceIte, Nat.reduceBEq, Nat.reduceLT, evP, evX, evR, blkOf, evA, storeA, Nat.reduceEqDiff, resL, resV, oneOrTup, Int.reduceEq, Int.reduceLT, Int.reduceLE, Int.reduceNeg, Int.reduceAdd, Int.reduceSub, Int.reduceMul, Int.reduceToNat, Nat.reduceAdd, noUnk, AV.cells, reduceCtorEq, Nat.reduceLeDiff, Cells.get, Cells.getN, Nat.reduceMul]
      rw [← hL]
      exact ih (i + 1) _ H' (by omega) (by simp [getX_put, h0]) (by simp [getX_put, h1]) (by simp [getX_put, h5]) (by simp [getX_put]) h'
    · simp only [c3] at hy
      simp only [lp39_0, h0, h1, h5, h6, hlt, hlt0, ↓hbx, ↓hcell, ↓hg, ↓hg3, ↓stepK_yld (l := l), hy, Int.toNat_natCast, ↓sxp, sxq, ↓reduceIte, Nat.reduceBEq, Nat.reduceLT, evP, evX, evR, blkOf, evA, storeA, Nat.reduceEqDiff, resL, resV, oneOrTup, Int.reduceEq, Int.reduceLT, Int.reduceLE, Int.reduceNeg, Int.reduceAdd, Int.reduceSub, Int.reduceMul, Int.reduceToNat, Nat.reduceAdd, noUnk, AV.cells, reduceCtorEq, Nat.reduceLeDiff, Cells.get, Cells.getN, Nat.reduceMul]
      exact ⟨_, _, _, rfl, .inr ⟨rfl, y, hyn, h'⟩⟩
theorem s_range {p bx : Nat} {S : MS} {tm : Tm} {g : SX} {ps : List Nat} {asg body : SC} {Γ : Nat → List HP} {Δ : Lv → List HP} {df : List Nat} (hE : EnvT E) (hb : S.L.length < 65536)
    (hg : evX tm g = .fn 39 [] [.ptr (some ⟨.own bx, 0⟩)]) (h : Holds H (storeP W p S :: blk bx [.ptr (some ⟨.own p, 0⟩)] 25 :: Γ 0))
    (hr : ∀ l d i x, S.L[i]? = some x → RoundOk W E p bx S l d tm ps asg body Γ Δ i x) :
    ∃ y d H', run W E (.rangeFunc g ps asg body) ⟨tm, df, none⟩ H = some (y, ⟨tm, d :: df, none⟩, H') ∧ ((y = .normal ∧ Holds H' (mark d :: storeP W p S :: blk bx [.ptr (some ⟨.own p, 0⟩)] 25 :: Γ S.L.length)) ∨
      (y ≠ .normal ∧ Holds H' (mark d :: storeP W p S :: blk bx [.ptr (some ⟨.own p, 0⟩)] 25 :: Δ y))) := by
  have h1 := h.pusho (o := .deferred true) rfl
  have h2 := h1.pusho (o := .loop .ready none tm ps asg body H.next) rfl
  rw [run_step, step_range (d := H.next) (H1 := H.push (.deferred true)) (df := H.next :: df) (h := 39) (first := []) (cap := [.ptr (some ⟨.own bx, 0⟩)]) W E _ _ _ _ _ _ _ hg rfl]
  have hbx := (h2.ord [3]).get
  have hlen := s_len (p := p) (S := S) hE (h2.ord [2])
  have h3 : Holds _ (ready (H.push (.deferred true)).next tm ps asg body H.next :: mark H.next :: storeP W p S :: blk bx [.ptr (some ⟨.own p, 0⟩)] 25 :: Γ 0) := h2
  generalize hl : (H.push (.deferred true)).next = l at *
  generalize hH : (H.push (.deferred true)).push (.loop .ready none tm ps asg body H.next) = H2 at *
  generalize hd : H.next = d at *
  have hgo : ∃ y H3, go W E 39 ([] ++ [.yld l] ++ [.ptr (some ⟨.own bx, 0⟩)]) H2 = some (.tup [], H3) ∧ ((Holds H3 (ready l tm ps asg body d :: mark d :: storeP W p S :: blk bx [.ptr (some ⟨.own p, 0⟩)] 25 :: Γ S.L.length)) ∨ (y ≠ .normal ∧ Holds H3 (over l y tm ps asg body d :: mark d :: storeP W p S :: blk bx [.ptr (some ⟨.own p, 0⟩)] 25 :: Δ y))) := by
    rw [go_code hE.f39 (by simp [sf39])]
    obtain ⟨lv, A', H3, e, hh⟩ := all_loop (E := E) (Γ := Γ) (Δ := Δ) (tm := tm) (ps := ps) (asg := asg) (body := body) hb (hr l d) S.L.length 0 (putT (putT (putT (putL .e 0 [.yld l, .ptr (some ⟨.own bx, 0⟩)]) (some 4) (.ptr (some ⟨.own p, 0⟩))) (some 5) (.int .i64 S.L.length)) (some 6) (.int .i64 0)) H2 (by omega)
      (by simp only [↓sxp, sxq, ↓reduceIte, Nat.reduceBEq, Nat.reduceLT, evP, evX, evR, blkOf, evA, storeA, Nat.reduceEqDiff, resL, resV, oneOrTup, Int.reduceEq, Int.reduceLT, Int.reduceLE, Int.reduceNeg, Int.reduceAdd, Int.reduceSub, Int.reduceMul, Int.reduceToNat, Nat.reduceAdd, noUnk, AV.cells, reduceCtorEq, Nat.reduceLeDiff, Cells.get, Cells.getN, Nat.reduceMul]) (by simp only [↓sxp, sxq, ↓reduceIte, Nat.reduceBEq, Nat.reduceLT, evP, evX, evR, blkOf, evA, storeA, Nat.reduceEqDiff, resL, resV, oneOrTup, Int.reduceEq, Int.reduceLT, Int.reduceLE, Int.reduceNeg, Int.reduceAdd, Int.reduceSub, Int.reduceMul, Int.reduceToNat, Nat.reduceAdd, noUnk, AV.cells, reduceCtorEq, Nat.reduceLeDiff, Cells.get, Cells.getN, Nat.reduceMul]) (by simp only [↓sxp, sxq, ↓reduceIte, Nat.reduceBEq, Nat.reduceLT, evP, evX, evR, blkOf, evA, storeA, Nat.reduceEqDiff, resL, resV, oneOrTup, Int.reduceEq, Int.reduceLT, Int.reduceLE, Int.reduceNeg, Int.reduceAdd, Int.reduceSub, Int.reduceMul, Int.reduceToNat, Nat.reduceAdd, noUnk, AV.cells, reduceCtorEq, Nat.reduceLeDiff, Cells.get, Cells.getN, Nat.reduceMul]) (by simp only [↓sxp, sxq, ↓reduceIte, Nat.reduceBEq, Nat.reduceLT, evP, evX, evR, blkOf, evA, storeA, Nat.reduceEqDiff, resL, resV, oneOrTup, Int.reduceEq, Int.reduceLT, Int.reduceLE, Int.reduceNeg, Int.reduceAdd, Int.reduceSub, Int.reduceMul, Int.reduceToNat, Nat.reduceAdd, noUnk, AV.cells, reduceCtorEq, Nat.reduceLeDiff, Cells.get, Cells.getN, Nat.reduceMul]; rfl) h3
    simp only [putL_cons, putL_nil, Nat.zero_add] at e
    rcases hh with ⟨rfl, hh⟩ | ⟨rfl, y, hyn, hh⟩
    · refine ⟨.normal, H3, ?_, .inl hh⟩
      simp only [sf39, ↓hbx, hlen, e, ↓sxp, sxq, ↓reduceIte, Nat.reduceBEq, Nat.reduceLT, evP, evX, evR, blkOf, evA, storeA, Nat.reduceEqDiff, resL, resV, oneOrTup, Int.reduceEq, Int.reduceLT, Int.reduceLE, Int.reduceNeg, Int.reduceAdd, Int.reduceSub, Int.reduceMul, Int.reduceToNat, Nat.reduceAdd, noUnk, AV.cells, reduceCtorEq, Nat.reduceLeDiff, Cells.get, Cells.getN, Nat.reduceMul]
    · refine ⟨y, H3, ?_, .inr ⟨hyn, hh⟩⟩
      simp only [sf39, ↓hbx, hlen, e, ↓sxp, sxq, ↓reduceIte, Nat.reduceBEq, Nat.reduceLT, evP, evX, evR, blkOf, evA, storeA, Nat.reduceEqDiff, resL, resV, oneOrTup, Int.reduceEq, Int.reduceLT, Int.reduceLE, Int.reduceNeg, Int.reduceAdd, Int.reduceSub, Int.reduceMul, Int.reduceToNat, Nat.reduceAdd, noUnk, AV.cells, reduceCtorEq, Nat.reduceLeDiff, Cells.get, Cells.getN, Nat.reduceMul]
  obtain ⟨y, H3, e, hh⟩ := hgo
  have e' : callS W E (run W E) 39 ([] ++ [.yld l] ++ [.ptr (some ⟨.own bx, 0⟩)]) H2 = some (.tup [], H3) := e
  rw [e', bnd_some]
  rcases hh with hh | ⟨hyn, hh⟩
  · have h4 := hh.seto (o' := .loop .exhausted none tm ps asg body d) rfl
    refine ⟨.normal, d, _, ?_, .inl ⟨rfl, h4.tail⟩⟩
    simp only [rangeEnd, hh.geto]
    simp
  · have h4 := hh.seto (o' := .loop .exhausted (some y) tm ps asg body d) rfl
    refine ⟨y, d, _, ?_, .inr ⟨hyn, h4.tail⟩⟩
    simp only [rangeEnd, hh.geto]
    simp
theorem Ends.range {Q : AV → Heap → Prop} {k : Lv × Fr × Heap → Option (AV × Heap)} {p bx : Nat} {S : MS} {tm : Tm} {g : SX} {ps : List Nat} {asg body : SC} (Γ : Nat → List HP) (Δ : Lv → List HP) {df : List Nat} (hE : EnvT E) (hb : S.L.length < 65536)
    (hg : evX tm g = .fn 39 [] [.ptr (some ⟨.own bx, 0⟩)]) (h : Holds H (storeP W p S :: blk bx [.ptr (some ⟨.own p, 0⟩)] 25 :: Γ 0))
    (hr : ∀ l d i x, S.L[i]? = some x → RoundOk W E p bx S l d tm ps asg body Γ Δ i x)
    (hk1 : ∀ d H', Holds H' (mark d :: storeP W p S :: blk bx [.ptr (some ⟨.own p, 0⟩)] 25 :: Γ S.L.length) → Ends Q (k (.normal, ⟨tm, d :: df, none⟩, H')))
    (hk2 : ∀ y d H', y ≠ .normal → Holds H' (mark d :: storeP W p S :: blk bx [.ptr (some ⟨.own p, 0⟩)] 25 :: Δ y) → Ends Q (k (y, ⟨tm, d :: df, none⟩, H'))) :
    Ends Q (bnd (run W E (.rangeFunc g ps asg body) ⟨tm, df, none⟩ H) k) := by
  obtain ⟨y, d, H', e, hh⟩ := s_range hE hb hg h hr
  rw [e, bnd_some]
  rcases hh with ⟨rfl, hh⟩ | ⟨hy, hh⟩
  · exact hk1 d H' hh
  · exact hk2 y d H' hy hh
theorem Fin.range {β : Type} {Q : β → Prop} {k : Lv × Fr × Heap → Option β} {p bx : Nat} {S : MS} {tm : Tm} {g : SX} {ps : List Nat} {asg body : SC} (Γ : Nat → List HP) (Δ : Lv → List HP) {df : List Nat} (hE : EnvT E) (hb : S.L.length < 65536)
    (hg : evX tm g = .fn 39 [] [.ptr (some ⟨.own bx, 0⟩)]) (h : Holds H (storeP W p S :: blk bx [.ptr (some ⟨.own p, 0⟩)] 25 :: Γ 0))
    (hr : ∀ l d i x, S.L[i]? = some x → RoundOk W E p bx S l d tm ps asg body Γ Δ i x)
    (hk1 : ∀ d H', Holds H' (mark d :: storeP W p S :: blk bx [.ptr (some ⟨.own p, 0⟩)] 25 :: Γ S.L.length) → Fin Q (k (.normal, ⟨tm, d :: df, none⟩, H')))
    (hk2 : ∀ y d H', y ≠ .normal → Holds H' (mark d :: storeP W p S :: blk bx [.ptr (some ⟨.own p, 0⟩)] 25 :: Δ y) → Fin Q (k (y, ⟨tm, d :: df, none⟩, H'))) :
    Fin Q (bnd (run W E (.rangeFunc g ps asg body) ⟨tm, df, none⟩ H) k) := by
  obtain ⟨y, d, H', e, hh⟩ := s_range hE hb hg h hr
  rw [e, bnd_some]
  rcases hh with ⟨rfl, hh⟩ | ⟨hy, hh⟩
  · exact hk1 d H' hh
  · exact hk2 y d H' hy hh
end
end Go.Proofs.Ytnfehkjkmlbceaa.Sx

/- Size. -/
namespace Go.Proofs.Ytnfehkjkmlbceaa.Sx
open HP
theorem snocInd {α : Type} {p : List α → Prop} (h0 : p []) (h1 : ∀ L x, p L → p (L ++ [x])) (L : List α) : p L := by
  have key : ∀ L : List α, p L.reverse := by
    intro L
    induction L with
    | nil => exact h0
    | cons x L ih => rw [List.reverse_cons]; exact h1 _ _ ih
  have := key L.reverse
  rwa [List.reverse_reverse] at this
section
variable {W : World} {E : Env} {H : Heap} {Γ : List HP}
theorem Holds.write1 {j i : Nat} {c : List AV} {t : TypeId} {v : AV} (h : Holds H (blk j c t :: Γ)) (hi : i < c.length) (hv : oneC v = true) :
    H.write j i [v] = some (H.setAt j (.cells (.lst (c.set i v)) t none)) ∧ Holds (H.setAt j (.cells (.lst (c.set i v)) t none)) (blk j (c.set i v) t :: Γ) := by
  refine ⟨?_, h.set⟩
  simp only [Heap.write, h.get, Cells.size, List.length_cons, List.length_nil, List.all_cons, List.all_nil, hv, Bool.and_self]
  rw [if_pos ⟨by omega, trivial⟩]
  simp only [Cells.setN, Cells.set]
/-- The terms that a term refers to are ahead of it. -/
def WFL (L : List T3) : Prop := ∀ (i : Nat) (x : T3), L[i]? = some x → (x.1 ≠ 1 → x.1 ≠ 9 → 0 ≤ x.2.1 ∧ x.2.1 < i) ∧ ((x.1 = 4 ∨ x.1 = 5 ∨ x.1 = 8) → 0 ≤ x.2.2 ∧ x.2.2 < i)
def szRaw (sz : List Int) (x : T3) : Int := if x.1 = 1 ∨ x.1 = 9 then 1 else if x.1 = 4 ∨ x.1 = 5 ∨ x.1 = 8 then 1 + (sz.getD x.2.1.toNat 0 + sz.getD x.2.2.toNat 0) else 1 + sz.getD x.2.1.toNat 0
def szStep (sz : List Int) (x : T3) : Int := if 1048576 < szRaw sz x then 1048576 else szRaw sz x
def szs (L : List T3) : List Int := L.foldl (fun sz x => sz ++ [szStep sz x]) []
theorem szs_snoc (L : List T3) (x : T3) : szs (L ++ [x]) = szs L ++ [szStep (szs L) x] := by simp [szs]
theorem szs_len (L : List T3) : (szs L).length = L.length := by
  induction L using snocInd with
  | h0 => rfl
  | h1 L x ih => rw [szs_snoc]; simp [ih]
theorem szs_take (L : List T3) : ∀ i, i ≤ L.length → szs (L.take i) = (szs L).take i := by
  induction L using snocInd with
  | h0 => intro i hi; simp at hi; subst hi; rfl
  | h1 L x ih =>
    intro i hi
    by_cases h : i ≤ L.length
    · rw [List.take_append_of_le_length h, ih i h, szs_snoc, List.take_append_of_le_length (by rw [szs_len]; exact h)]
    · have : i = L.length + 1 := by simp at hi; omega
      subst this
      rw [List.take_of_length_le (by simp), List.take_of_length_le (by rw [szs_len]; simp)]
theorem szs_get {L : List T3} {i : Nat} {x : T3} (h : L[i]? = some x) : (szs L)[i]? = some (szStep ((szs L).take i) x) := by
  obtain ⟨hi, hx⟩ := List.getElem?_eq_some_iff.1 h
  have e : szs (L.take (i + 1)) = (szs L).take (i + 1) := szs_take L _ (by omega)
  rw [List.take_succ_eq_append_getElem hi, hx, szs_snoc, szs_take L i (by omega)] at e
  have e2 : ((szs L).take (i + 1))[i]? = some (szStep ((szs L).take i) x) := by
    rw [← e, List.getElem?_append_right (by simp [szs_len]; omega)]
    simp [szs_len, show min i L.length = i from by omega]
  rw [List.getElem?_take] at e2
  simpa using e2
theorem szs_bd (L : List T3) : ∀ s ∈ szs L, s ≤ 1048576 := by
  induction L using snocInd with
  | h0 => intro s hs; cases hs
  | h1 L x ih =>
    intro s hs
    rw [szs_snoc] at hs
    rcases List.mem_append.1 hs with h | h
    · exact ih s h
    · simp at h; subst h; unfold szStep; split <;> omega
theorem szs_pos {L : List T3} : ∀ s ∈ szs L, 1 ≤ s := by
  induction L using snocInd with
  | h0 => intro s hs; cases hs
  | h1 L x ih =>
    intro s hs
    rw [szs_snoc] at hs
    rcases List.mem_append.1 hs with h | h
    · exact ih s h
    · have hg : ∀ k, 0 ≤ (szs L).getD k 0 := fun k => by
        rw [List.getD_eq_getElem?_getD]
        cases hk : (szs L)[k]? with
        | none => simp
        | some v => have := ih v (List.mem_of_getElem? hk); simp; omega
      simp at h; subst h
      have h1 := hg x.2.1.toNat
      have h2 := hg x.2.2.toNat
      unfold szStep szRaw
      split
      · omega
      · split
        · omega
        · split <;> omega
/-- What is known of the sizes so far. -/
def SzOk (L : List T3) (n i : Nat) (Z : List Int) : Prop := Z.length = n + 1 ∧ i ≤ n + 1 ∧ ∀ k, k < i → Z[k]? = (szs L)[k]?
theorem SzOk.next {L : List T3} {n i : Nat} {Z : List Int} {x : T3} (h : SzOk L n i Z) (hi : i ≤ n) (hx : L[i]? = some x) (hw : WFL L) : SzOk L n (i + 1) (Z.set i (szStep Z x)) := by
  obtain ⟨hw1, hw2⟩ := hw i x hx
  have hg : ∀ a : Int, 0 ≤ a → a < i → Z.getD a.toNat 0 = ((szs L).take i).getD a.toNat 0 := fun a h0 h1 => by
    rw [List.getD_eq_getElem?_getD, List.getD_eq_getElem?_getD, h.2.2 _ (by omega), List.getElem?_take_of_lt (by omega)]
  have e : szStep Z x = szStep ((szs L).take i) x := by
    have : szRaw Z x = szRaw ((szs L).take i) x := by
      unfold szRaw
      by_cases c1 : x.1 = 1 ∨ x.1 = 9
      · rw [if_pos c1, if_pos c1]
      · rw [if_neg c1, if_neg c1]
        have q1 := hw1 (fun e => c1 (.inl e)) (fun e => c1 (.inr e))
        rw [hg _ q1.1 q1.2]
        by_cases c2 : x.1 = 4 ∨ x.1 = 5 ∨ x.1 = 8
        · have q2 := hw2 c2
          rw [if_pos c2, if_pos c2, hg _ q2.1 q2.2]
        · rw [if_neg c2, if_neg c2]
    unfold szStep; rw [this]
  refine ⟨by simp [h.1], by omega, fun k hk => ?_⟩
  by_cases hki : k = i
  · subst hki
    rw [List.getElem?_set_self (by rw [h.1]; omega), e, szs_get hx]
  · rw [List.getElem?_set_ne (fun e => hki e.symm), h.2.2 k (by omega)]
abbrev ints (Z : List Int) : List AV := Z.map (AV.int .i64)
def szP (L : List T3) (n j i : Nat) : HP := HP.ex fun Z => HP.all [HP.pure (SzOk L n i Z), blk j (ints Z) 3]
theorem szP_open {L : List T3} {n j i : Nat} (h : Holds H (szP L n j i :: Γ)) : ∃ Z, SzOk L n i Z ∧ Holds H (blk j (ints Z) 3 :: Γ) := by
  obtain ⟨Z, h⟩ := h.ex
  have h2 : Holds H (HP.pure (SzOk L n i Z) :: blk j (ints Z) 3 :: Γ) := h.opn
  exact ⟨Z, h2.pure⟩
theorem szP_shut {L : List T3} {n j i : Nat} {Z : List Int} (hz : SzOk L n i Z) (h : Holds H (blk j (ints Z) 3 :: Γ)) : Holds H (szP L n j i :: Γ) :=
  (Holds.cls [HP.pure (SzOk L n i Z), blk j (ints Z) 3] (Holds.pure' hz h)).ex' (F := fun Z => HP.all [HP.pure (SzOk L n i Z), blk j (ints Z) 3]) Z
theorem szs_getD {L : List T3} {n i : Nat} {Z : List Int} (h : SzOk L n i Z) {a : Int} (h0 : 0 ≤ a) (h1 : a < i) (hi : i ≤ L.length) : (ints Z)[a.toNat]? = some (.int .i64 (Z.getD a.toNat 0)) ∧ 0 ≤ Z.getD a.toNat 0 ∧ Z.getD a.toNat 0 ≤ 1048576 := by
  have hlt : a.toNat < (szs L).length := by rw [szs_len]; omega
  have e : Z[a.toNat]? = some (szs L)[a.toNat] := by rw [h.2.2 _ (by omega), List.getElem?_eq_getElem hlt]
  have e2 : Z.getD a.toNat 0 = (szs L)[a.toNat] := by rw [List.getD_eq_getElem?_getD, e]; rfl
  refine ⟨by rw [List.getElem?_map, e, e2]; rfl, ?_, ?_⟩
  · have := szs_pos _ (List.getElem_mem hlt); omega
  · have := szs_bd _ _ (List.getElem_mem hlt); omega
theorem mm_min {x y : Int} {k k' : IntKind} : mmL false (.int k x) [.int k' y] = some (.int k (if y < x then y else x)) := (Eq.refl _).trans rfl
theorem sz_round {p bx : Nat} {S : MS} {l d n j bn bs : Nat} {tm : Tm} {Γ : List HP} (h3 : getX tm 3 = .ptr (some ⟨.own bn, 0⟩)) (h5 : getX tm 5 = .ptr (some ⟨.own bs, 0⟩)) (hw : WFL S.L) (i : Nat) (x : T3) (hx : S.L[i]? = some x) :
    RoundOk W E p bx S l d tm [22, 23] ra17_0 rb17_0 (fun i => szP S.L n j i :: blk bn [.int .i64 n] 3 :: blk bs [.sl (some ⟨.own j, 0⟩) (n + 1) (.exact (n + 1))] 54 :: Γ)
      (fun y => HP.pure (y = .exit 0) :: szP S.L n j (n + 1) :: blk bn [.int .i64 n] 3 :: blk bs [.sl (some ⟨.own j, 0⟩) (n + 1) (.exact (n + 1))] 54 :: Γ) i x := by
  intro H h
  have hi : i < S.L.length := (List.getElem?_eq_some_iff.1 hx).1
  obtain ⟨k, u, w⟩ := x
  -- what is received
  have q1 := h.push (c := [.int .i64 0, .int .i64 0, .int .i64 0]) (t := 33)
  have q2 := q1.set (c' := c3 (k, u, w)) (t' := 33)
  have hg := q1.get
  obtain ⟨hrb, q3⟩ := rnd_b (ex := run W E) (q2.ord [1])
  have hra : ∀ f H, run W E ra17_0 f H = run W E ra17_0 f H := fun _ _ => rfl
  conv at hra => enter [f, H, 2]; unfold ra17_0
  have hrbd : ∀ f H, run W E rb17_0 f H = run W E rb17_0 f H := fun _ _ => rfl
  conv at hrbd => enter [f, H, 2]; unfold rb17_0
  rw [yld_eq h rfl]
  simp only [c3] at *
  simp only [hra, putsT_cons, putsT_nil, ↓hg, hrb, Heap.write, Cells.size, List.all_cons, List.all_nil, Cells.setN, Cells.set, List.set_cons_zero, List.set_cons_succ, ↓sxp, sxq, ↓reduceIte, Nat.reduceBEq, Nat.reduceLT, evP, evX, evR, blkOf, evA, storeA, Nat.reduceEqDiff, resL, resV, oneOrTup, Int.reduceEq, Int.reduceLT, Int.reduceLE, Int.reduceNeg, Int.reduceAdd, Int.reduceSub, Int.reduceMul, Int.reduceToNat, Nat.reduceAdd, noUnk, AV.cells, reduceCtorEq, Nat.reduceLeDiff, Cells.get, Cells.getN, Nat.reduceMul]
  have r1 := q3.ord [5]
  generalize hH1 : (H.push (.cells (.lst [.int .i64 0, .int .i64 0, .int .i64 0]) 33 none)).setAt H.next (.cells (.lst [.int .i64 k, .int .i64 u, .int .i64 w]) 33 none) = H1 at *
  generalize H.next = bt at *
  generalize hH2 : H1.setAt l (.loop .busy none tm [22, 23] ra17_0 rb17_0 d) = H2 at *
  have r1 : Holds H2 (szP S.L n j i :: busy l tm [22, 23] ra17_0 rb17_0 d :: blk bt [.int .i64 k, .int .i64 u, .int .i64 w] 33 :: mark d :: storeP W p S :: blk bx [.ptr (some ⟨.own p, 0⟩)] 25 :: blk bn [.int .i64 n] 3 :: blk bs [.sl (some ⟨.own j, 0⟩) (n + 1) (.exact (n + 1))] 54 :: Γ) := r1
  have gt := (r1.ord [2]).get
  have gn := (r1.ord [6]).get
  have gs := (r1.ord [7]).get
  obtain ⟨Z, hz, r2⟩ := szP_open r1
  by_cases hin : (n : Int) < i
  · have hi1 : i = n + 1 := by have := hz.2.1; omega
    subst hi1
    obtain ⟨hre, r3⟩ := rnd_x (y := .exit 0) (by simp) (r1.ord [1])
    have fin := (Holds.pure' (φ := Lv.exit 0 = .exit 0) rfl (r3.ord [2]).tail).ord [1, 2, 2, 2]
    refine ⟨_, .inr ⟨?_, .exit 0, by simp, fin⟩⟩
    simp only [hrbd, ↓gt, ↓gn, ↓gs, h3, h5, hin, hre, ↓sxp, sxq, ↓reduceIte, Nat.reduceBEq, Nat.reduceLT, evP, evX, evR, blkOf, evA, storeA, Nat.reduceEqDiff, resL, resV, oneOrTup, Int.reduceEq, Int.reduceLT, Int.reduceLE, Int.reduceNeg, Int.reduceAdd, Int.reduceSub, Int.reduceMul, Int.reduceToNat, Nat.reduceAdd, noUnk, AV.cells, reduceCtorEq, Nat.reduceLeDiff, Cells.get, Cells.getN, Nat.reduceMul]
  · have hin' : i ≤ n := by omega
    have hi0 : (0 : Int) ≤ i ∧ (i : Int) < (n + 1 : Nat) := by omega
    obtain ⟨hw1, hw2⟩ := hw i _ hx
    simp only at hw1 hw2
    obtain ⟨w1, r3⟩ := r2.write1 (i := i) (v := .int .i64 1) (by simp [hz.1]; omega) rfl
    generalize hH3 : H2.setAt j (.cells (.lst ((ints Z).set i (.int .i64 1))) 3 none) = H3 at *
    have gz3 := r3.get
    have gt3 := (r3.ord [2]).get
    have gn3 := (r3.ord [6]).get
    have gs3 := (r3.ord [7]).get
    have hset : ∀ (Z : List Int) (v : Int), (ints Z).set i (.int .i64 v) = ints (Z.set i v) := fun Z v => List.map_set.symm
    rw [hset] at *
    have e1 : ∀ v : Int, (ints (Z.set i v))[i]? = some (.int .i64 v) := fun v => by rw [List.getElem?_map, List.getElem?_set_self (by rw [hz.1]; omega)]; rfl
    have e2 : ∀ (v a : Int), 0 ≤ a → a < i → (ints (Z.set i v))[a.toNat]? = some (.int .i64 (Z.getD a.toNat 0)) ∧ 0 ≤ Z.getD a.toNat 0 ∧ Z.getD a.toNat 0 ≤ 1048576 := fun v a h0 h1 => by
      obtain ⟨q1, q2⟩ := szs_getD hz h0 h1 (by omega)
      rw [List.getElem?_map] at q1
      exact ⟨by rw [List.getElem?_map, List.getElem?_set_ne (by omega)]; exact q1, q2⟩
    have hfin := hz.next hin' hx hw
    have end_ : ∀ (H4 : Heap) (v : Int), Holds H4 (blk j (ints (Z.set i v)) 3 :: busy l tm [22, 23] ra17_0 rb17_0 d :: blk bt [.int .i64 k, .int .i64 u, .int .i64 w] 33 :: mark d :: storeP W p S :: blk bx [.ptr (some ⟨.own p, 0⟩)] 25 :: blk bn [.int .i64 n] 3 :: blk bs [.sl (some ⟨.own j, 0⟩) (n + 1) (.exact (n + 1))] 54 :: Γ) →
        szStep Z (k, u, w) = (if 1048576 < v then 1048576 else v) → H4.get j = some (.cells (.lst (ints (Z.set i v))) 3 none) ∧ H4.get bs = some (.cells (.lst [.sl (some ⟨.own j, 0⟩) (n + 1) (.exact (n + 1))]) 54 none) ∧ ∃ H5, Heap.write { H4 with next := H4.next + 9 } j i [.int .i64 (if 1048576 < v then 1048576 else v)] = some H5 ∧ ∃ H6, (∀ f, roundEnd l (.normal, f, H5) = some (true, H6)) ∧
          Holds H6 (ready l tm [22, 23] ra17_0 rb17_0 d :: mark d :: storeP W p S :: blk bx [.ptr (some ⟨.own p, 0⟩)] 25 :: szP S.L n j (i + 1) :: blk bn [.int .i64 n] 3 :: blk bs [.sl (some ⟨.own j, 0⟩) (n + 1) (.exact (n + 1))] 54 :: Γ) := by
      intro H4 v r3 hs
      obtain ⟨w2, r4⟩ := (r3.bump 9).write1 (i := i) (v := .int .i64 (if 1048576 < v then 1048576 else v)) (by simp [hz.1]; omega) rfl
      rw [hset, List.set_set, ← hs] at r4
      rw [hset, List.set_set, ← hs] at w2
      obtain ⟨hre, r5⟩ := rnd_n (r4.ord [1])
      have fin := ((szP_shut hfin (r5.ord [1])).ord [2]).tail.ord [1, 1, 1, 1]
      exact ⟨r3.get, (r3.ord [7]).get, _, (by rw [← hs]; exact w2), _, hre, fin⟩
    by_cases c1 : k = 1 ∨ k = 9
    · obtain ⟨g1, g2, H5, g3, H6, g4, fin⟩ := end_ H3 1 r3 (by simp [szStep, szRaw, c1])
      simp only [Int.reduceLT, ↓reduceIte] at g3
      refine ⟨_, .inl ⟨?_, fin⟩⟩
      rcases c1 with rfl | rfl
      all_goals simp only [hrbd, ↓gt, ↓gn, ↓gs, ↓gz3, ↓gt3, ↓gn3, ↓gs3, h3, h5, hin, hi0, and_self, e1, g3, g4, w1, mm_min, Int.toNat_natCast, ↓sxp, sxq, ↓reduceIte, Nat.reduceBEq, Nat.reduceLT, evP, evX, evR, blkOf, evA, storeA, Nat.reduceEqDiff, resL, resV, oneOrTup, Int.reduceEq, Int.reduceLT, Int.reduceLE, Int.reduceNeg, Int.reduceAdd, Int.reduceSub, Int.reduceMul, Int.reduceToNat, Nat.reduceAdd, noUnk, AV.cells, reduceCtorEq, Nat.reduceLeDiff, Cells.get, Cells.getN, Nat.reduceMul]
    · have n1 : ¬ k = 1 := fun e => c1 (.inl e)
      have n9 : ¬ k = 9 := fun e => c1 (.inr e)
      obtain ⟨u0, u1⟩ := hw1 n1 n9
      obtain ⟨eu, bu0, bu1⟩ := e2 1 u u0 u1
      have u2 : 0 ≤ u ∧ u < (n + 1 : Nat) := by omega
      have st1 : ∀ (m : Nat) (v : Int), (Heap.write { H3 with next := H3.next + m } j i [.int .i64 v] = some (({ H3 with next := H3.next + m } : Heap).setAt j (.cells (.lst (ints (Z.set i v))) 3 none)) ∧ Holds (({ H3 with next := H3.next + m } : Heap).setAt j (.cells (.lst (ints (Z.set i v))) 3 none)) (blk j (ints (Z.set i v)) 3 :: busy l tm [22, 23] ra17_0 rb17_0 d :: blk bt [.int .i64 k, .int .i64 u, .int .i64 w] 33 :: mark d :: storeP W p S :: blk bx [.ptr (some ⟨.own p, 0⟩)] 25 :: blk bn [.int .i64 n] 3 :: blk bs [.sl (some ⟨.own j, 0⟩) (n + 1) (.exact (n + 1))] 54 :: Γ)) := fun m v => by
        have := (r3.bump m).write1 (i := i) (v := .int .i64 v) (by simp [hz.1]; omega) rfl
        rw [hset, List.set_set] at this
        exact this
      by_cases c2 : k = 4 ∨ k = 5 ∨ k = 8
      · obtain ⟨v0, v1⟩ := hw2 c2
        obtain ⟨ev, bv0, bv1⟩ := e2 1 w v0 v1
        have v2 : 0 ≤ w ∧ w < (n + 1 : Nat) := by omega
        obtain ⟨w4, r4⟩ := st1 18 (1 + (Z.getD u.toNat 0 + Z.getD w.toNat 0))
        have hw3 : IntKind.i64.wrap (Z.getD u.toNat 0 + Z.getD w.toNat 0) = Z.getD u.toNat 0 + Z.getD w.toNat 0 := w64 (by omega)
        have hw4 : IntKind.i64.wrap (1 + (Z.getD u.toNat 0 + Z.getD w.toNat 0)) = 1 + (Z.getD u.toNat 0 + Z.getD w.toNat 0) := w64 (by omega)
        generalize hH4 : ({ H3 with next := H3.next + 18 } : Heap).setAt j (.cells (.lst (ints (Z.set i (1 + (Z.getD u.toNat 0 + Z.getD w.toNat 0))))) 3 none) = H4 at *
        obtain ⟨g1, g2, H5, g3, H6, g4, fin⟩ := end_ H4 _ r4 (by simp only [szStep, szRaw, if_neg c1, if_pos c2])
        refine ⟨_, .inl ⟨?_, fin⟩⟩
        generalize Z.getD u.toNat 0 = zu at *
        generalize Z.getD w.toNat 0 = zw at *
        rcases c2 with rfl | rfl | rfl
        all_goals simp only [hrbd, ↓gt, ↓gn, ↓gs, ↓gz3, ↓gt3, ↓gn3, ↓gs3, ↓g1, ↓g2, h3, h5, hin, hi0, u2, v2, and_self, e1, eu, ev, hw3, hw4, w4, g3, g4, w1, mm_min, Int.toNat_natCast, ↓sxp, sxq, ↓reduceIte, Nat.reduceBEq, Nat.reduceLT, evP, evX, evR, blkOf, evA, storeA, Nat.reduceEqDiff, resL, resV, oneOrTup, Int.reduceEq, Int.reduceLT, Int.reduceLE, Int.reduceNeg, Int.reduceAdd, Int.reduceSub, Int.reduceMul, Int.reduceToNat, Nat.reduceAdd, noUnk, AV.cells, reduceCtorEq, Nat.reduceLeDiff, Cells.get, Cells.getN, Nat.reduceMul]
      · have n4 : ¬ k = 4 := fun e => c2 (.inl e)
        have n5 : ¬ k = 5 := fun e => c2 (.inr (.inl e))
        have n8 : ¬ k = 8 := fun e => c2 (.inr (.inr e))
        obtain ⟨w4, r4⟩ := st1 12 (1 + Z.getD u.toNat 0)
        have hw4 : IntKind.i64.wrap (1 + Z.getD u.toNat 0) = 1 + Z.getD u.toNat 0 := w64 (by omega)
        generalize hH4 : ({ H3 with next := H3.next + 12 } : Heap).setAt j (.cells (.lst (ints (Z.set i (1 + Z.getD u.toNat 0)))) 3 none) = H4 at *
        obtain ⟨g1, g2, H5, g3, H6, g4, fin⟩ := end_ H4 _ r4 (by simp only [szStep, szRaw, if_neg c1, if_neg c2])
        refine ⟨_, .inl ⟨?_, fin⟩⟩
        generalize Z.getD u.toNat 0 = zu at *
        simp only [hrbd, ↓gt, ↓gn, ↓gs, ↓gz3, ↓gt3, ↓gn3, ↓gs3, ↓g1, ↓g2, h3, h5, hin, hi0, u2, n1, n9, n4, n5, n8, and_self, e1, eu, hw4, w4, g3, g4, w1, mm_min, Int.toNat_natCast, ↓sxp, sxq, ↓reduceIte, Nat.reduceBEq, Nat.reduceLT, evP, evX, evR, blkOf, evA, storeA, Nat.reduceEqDiff, resL, resV, oneOrTup, Int.reduceEq, Int.reduceLT, Int.reduceLE, Int.reduceNeg, Int.reduceAdd, Int.reduceSub, Int.reduceMul, Int.reduceToNat, Nat.reduceAdd, noUnk, AV.cells, reduceCtorEq, Nat.reduceLeDiff, Cells.get, Cells.getN, Nat.reduceMul]
end
end Go.Proofs.Ytnfehkjkmlbceaa.Sx

/- Size, whole. -/
namespace Go.Proofs.Ytnfehkjkmlbceaa.Sx
open HP
section
variable {W : World} {E : Env} {H : Heap} {Γ : List HP}
theorem mksl_ints {A : Tm} {id n : Nat} {x y : SX} (hx : evX A x = .int .i64 (n : Int)) (hy : evX A y = .int .i64 (n : Int)) (hn : n < 256) :
    evA A id (.mksl 3 1 8 [.int .i64 0] x y) = some (.cells (.lst (ints (List.replicate n 0))) 3 none, .sl (some ⟨.own id, 0⟩) n (.exact n)) := by
  simp only [evA, hx, hy, List.length_cons, List.length_nil]
  rw [if_pos ⟨by omega, by omega, by omega, by omega, trivial, by omega⟩]
  simp only [Int.toNat_natCast, mkCells, List.length_cons, List.length_nil]
  rw [if_pos (by omega)]
  simp [zerosL, ints]
theorem s_all (hE : EnvT E) {p : Nat} : go W E 13 [.ptr (some ⟨.own p, 0⟩)] H = some (.fn 39 [] [.ptr (some ⟨.own H.next, 0⟩)], H.push (.cells (.lst [.ptr (some ⟨.own p, 0⟩)]) 25 none)) := by
  rw [go_code hE.f13 (by simp [sf13])]
  simp only [sf13, ↓sxp, sxq, ↓reduceIte, Nat.reduceBEq, Nat.reduceLT, evP, evX, evR, blkOf, evA, storeA, Nat.reduceEqDiff, resL, resV, oneOrTup, Int.reduceEq, Int.reduceLT, Int.reduceLE, Int.reduceNeg, Int.reduceAdd, Int.reduceSub, Int.reduceMul, Int.reduceToNat, Nat.reduceAdd, noUnk, AV.cells, reduceCtorEq, Nat.reduceLeDiff, Cells.get, Cells.getN, Nat.reduceMul]
def sizeM (L : List T3) (n : Int) : Int := if hasM L n 0 then (szs L).getD n.toNat 0 else 0
theorem s_size {p : Nat} {S : MS} (hE : EnvT E) (h : Holds H (storeP W p S :: Γ)) (n : Int) (hlen : S.L.length < 255) (hw : WFL S.L) :
    ∃ H', go W E 17 [.ptr (some ⟨.own p, 0⟩), .int .i64 n] H = some (.int .i64 (sizeM S.L n), H') ∧ Holds H' (storeP W p S :: Γ) := by
  have h1 := h.push (c := [.int .i64 n]) (t := 3)
  have his := s_is hE h1.swap
  have hhas := s_has hE h1.swap n 0
  have hg1 := h1.get
  unfold sizeM
  cases hb : hasM S.L n 0 with
  | false =>
    rw [hb] at hhas
    refine ⟨_, ?_, h1.tail⟩
    rw [go_code hE.f17 (by simp [sf17])]
    simp only [sf17, his, hhas, ↓hg1, ↓sxp, sxq, ↓reduceIte, Nat.reduceBEq, Nat.reduceLT, evP, evX, evR, blkOf, evA, storeA, Nat.reduceEqDiff, resL, resV, oneOrTup, Int.reduceEq, Int.reduceLT, Int.reduceLE, Int.reduceNeg, Int.reduceAdd, Int.reduceSub, Int.reduceMul, Int.reduceToNat, Nat.reduceAdd, noUnk, AV.cells, reduceCtorEq, Nat.reduceLeDiff, Cells.get, Cells.getN, Nat.reduceMul]
  | true =>
    rw [hb] at hhas
    have hn : 0 ≤ n ∧ n < S.L.length := by simp [hasM] at hb; exact hb
    obtain ⟨m, rfl⟩ := Int.eq_ofNat_of_zero_le hn.1
    have hm : m < S.L.length := by omega
    generalize hbn : H.next = bn at *
    generalize hH1 : H.push (.cells (.lst [.int .i64 (m : Int)]) 3 none) = H1 at *
    have hw1 : IntKind.i64.wrap ((m : Int) + 1) = ((m + 1 : Nat) : Int) := by rw [w64 (by omega)]; simp
    apply Ends.out
    rw [go_code hE.f17 (by simp [sf17])]
    have hm256 : m + 1 < 256 := by omega
    have hall := fun H => s_all (W := W) (E := E) (H := H) hE (p := p)
    simp only [sf17, hbn, hH1, his, hhas, ↓hg1, hw1, ↓mksl_ints (n := m + 1), hm256, hall, ↓sxp, sxq, ↓reduceIte, Nat.reduceBEq, Nat.reduceLT, evP, evX, evR, blkOf, evA, storeA, Nat.reduceEqDiff, resL, resV, oneOrTup, Int.reduceEq, Int.reduceLT, Int.reduceLE, Int.reduceNeg, Int.reduceAdd, Int.reduceSub, Int.reduceMul, Int.reduceToNat, Nat.reduceAdd, noUnk, AV.cells, reduceCtorEq, Nat.reduceLeDiff, Cells.get, Cells.getN, Nat.reduceMul, ↓bnd_assoc]
    have h2 := (h1.push (c := ints (List.replicate (m + 1) 0)) (t := 3)).push (c := [.sl none 0 (.exact 0)]) (t := 54)
    simp only [push_next] at h2
    generalize H1.next = j at *
    refine Ends.write [.sl (some ⟨.own j, 0⟩) (m + 1) (.exact (m + 1))] h2 rfl (by simp) rfl fun H4 h4 => ?_
    generalize j + 1 = bs at *
    have h5 := h4.push (c := [.ptr (some ⟨.own p, 0⟩)]) (t := 25)
    have h7 := (szP_shut (L := S.L) (n := m) (i := 0) (Z := List.replicate (m + 1) 0) ⟨by simp, by omega, fun k hk => by omega⟩ (h5.ord [2])).ord [4, 1, 0, 1]
    have hlen2 : S.L.length < 65536 := by omega
    have fin : ∀ (d : Nat) (H' : Heap), Holds H' (mark d :: storeP W p S :: blk H4.next [.ptr (some ⟨.own p, 0⟩)] 25 :: szP S.L m j (m + 1) :: blk bn [.int .i64 m] 3 :: blk bs [.sl (some ⟨.own j, 0⟩) (m + 1) (.exact (m + 1))] 54 :: Γ) →
        ∃ Z, H'.get j = some (.cells (.lst (ints Z)) 3 none) ∧ H'.get bn = some (.cells (.lst [.int .i64 m]) 3 none) ∧ H'.get bs = some (.cells (.lst [.sl (some ⟨.own j, 0⟩) (m + 1) (.exact (m + 1))]) 54 none) ∧ H'.get d = some (.deferred true) ∧ (ints Z)[m]? = some (.int .i64 ((szs S.L).getD m 0)) ∧ Holds (H'.setAt d (.deferred false)) (storeP W p S :: Γ) := by
      intro d H' h8
      obtain ⟨Z, hz, h9⟩ := szP_open (h8.ord [3])
      refine ⟨Z, h9.get, (h9.ord [4]).get, (h9.ord [5]).get, (h9.ord [1]).geto, ?_, ((((h8.seto (o' := .deferred false) rfl).tail.rm 4).rm 3).rm 2).rm 1⟩
      have hlt : m < (szs S.L).length := by rw [szs_len]; exact hm
      rw [List.getElem?_map, hz.2.2 m (by omega), List.getElem?_eq_getElem hlt, List.getD_eq_getElem?_getD, List.getElem?_eq_getElem hlt]; rfl
    have hi0 : (0 : Int) ≤ m ∧ (m : Int) < (m + 1 : Nat) := by omega
    refine Ends.range (bx := H4.next) (fun i => szP S.L m j i :: blk bn [.int .i64 m] 3 :: blk bs [.sl (some ⟨.own j, 0⟩) (m + 1) (.exact (m + 1))] 54 :: Γ)
      (fun y => HP.pure (y = .exit 0) :: szP S.L m j (m + 1) :: blk bn [.int .i64 m] 3 :: blk bs [.sl (some ⟨.own j, 0⟩) (m + 1) (.exact (m + 1))] 54 :: Γ) hE hlen2 (by simp only [↓sxp, sxq, ↓reduceIte, Nat.reduceBEq, Nat.reduceLT, evP, evX, evR, blkOf, evA, storeA, Nat.reduceEqDiff, resL, resV, oneOrTup, Int.reduceEq, Int.reduceLT, Int.reduceLE, Int.reduceNeg, Int.reduceAdd, Int.reduceSub, Int.reduceMul, Int.reduceToNat, Nat.reduceAdd, noUnk, AV.cells, reduceCtorEq, Nat.reduceLeDiff, Cells.get, Cells.getN, Nat.reduceMul]) h7 (fun l d i x hx => sz_round (by simp only [↓sxp, sxq, ↓reduceIte, Nat.reduceBEq, Nat.reduceLT, evP, evX, evR, blkOf, evA, storeA, Nat.reduceEqDiff, resL, resV, oneOrTup, Int.reduceEq, Int.reduceLT, Int.reduceLE, Int.reduceNeg, Int.reduceAdd, Int.reduceSub, Int.reduceMul, Int.reduceToNat, Nat.reduceAdd, noUnk, AV.cells, reduceCtorEq, Nat.reduceLeDiff, Cells.get, Cells.getN, Nat.reduceMul]) (by simp only [↓sxp, sxq, ↓reduceIte, Nat.reduceBEq, Nat.reduceLT, evP, evX, evR, blkOf, evA, storeA, Nat.reduceEqDiff, resL, resV, oneOrTup, Int.reduceEq, Int.reduceLT, Int.reduceLE, Int.reduceNeg, Int.reduceAdd, Int.reduceSub, Int.reduceMul, Int.reduceToNat, Nat.reduceAdd, noUnk, AV.cells, reduceCtorEq, Nat.reduceLeDiff, Cells.get, Cells.getN, Nat.reduceMul]) hw i x hx) ?_ ?_
    · intro d H' h8
      have hmL : S.L.length = m + 1 := by
        obtain ⟨Z, hz, _⟩ := szP_open (h8.ord [3])
        have := hz.2.1; omega
      rw [hmL] at h8
      obtain ⟨Z, gz, gn, gs, gd, hzm, hf⟩ := fin d H' h8
      simp only [↓gz, ↓gn, ↓gs, hi0, and_self, Int.toNat_natCast, hzm, ↓finish_one gd, ↓sxp, sxq, ↓reduceIte, Nat.reduceBEq, Nat.reduceLT, evP, evX, evR, blkOf, evA, storeA, Nat.reduceEqDiff, resL, resV, oneOrTup, Int.reduceEq, Int.reduceLT, Int.reduceLE, Int.reduceNeg, Int.reduceAdd, Int.reduceSub, Int.reduceMul, Int.reduceToNat, Nat.reduceAdd, noUnk, AV.cells, reduceCtorEq, Nat.reduceLeDiff, Cells.get, Cells.getN, Nat.reduceMul, ↓bnd_assoc]
      exact Ends.ret ⟨rfl, hf⟩
    · intro y d H' hy h8
      obtain ⟨hy1, h9⟩ := (h8.ord [3]).pure
      subst hy1
      obtain ⟨Z, gz, gn, gs, gd, hzm, hf⟩ := fin d H' h9
      simp only [↓gz, ↓gn, ↓gs, hi0, and_self, Int.toNat_natCast, hzm, ↓finish_one gd, ↓sxp, sxq, ↓reduceIte, Nat.reduceBEq, Nat.reduceLT, evP, evX, evR, blkOf, evA, storeA, Nat.reduceEqDiff, resL, resV, oneOrTup, Int.reduceEq, Int.reduceLT, Int.reduceLE, Int.reduceNeg, Int.reduceAdd, Int.reduceSub, Int.reduceMul, Int.reduceToNat, Nat.reduceAdd, noUnk, AV.cells, reduceCtorEq, Nat.reduceLeDiff, Cells.get, Cells.getN, Nat.reduceMul, ↓bnd_assoc]
      exact Ends.ret ⟨rfl, hf⟩
end
end Go.Proofs.Ytnfehkjkmlbceaa.Sx

/- The document's store: has, Find, May. -/
namespace Go.Proofs.Ytnfehkjkmlbceaa.Sx
open HP
section
variable {W : World} {E : Env} {H : Heap} {Γ : List HP}
/-- Values of bytes that lay there. -/
inductive Olds (W : World) : List (List UInt8) → List AV → Prop
  | nil : Olds W [] []
  | cons {b : List UInt8} {v : AV} {B : List (List UInt8)} {V : List AV} : OldBy W b v → Olds W B V → Olds W (b :: B) (v :: V)
theorem Olds.len {B : List (List UInt8)} {V : List AV} (h : Olds W B V) : V.length = B.length := by
  induction h with
  | nil => rfl
  | cons _ _ ih => simp [ih]
theorem Olds.get {B : List (List UInt8)} {V : List AV} (h : Olds W B V) : ∀ {i : Nat}, (hi : i < B.length) → ∃ v, V[i]? = some v ∧ OldBy W B[i] v := by
  induction h with
  | nil => intro i hi; simp at hi
  | cons a _ ih =>
    intro i hi
    cases i with
    | zero => exact ⟨_, rfl, a⟩
    | succ i => simpa using ih (i := i) (by simpa using hi)
theorem Olds.snoc {b : List UInt8} {v : AV} (hb : OldBy W b v) {B : List (List UInt8)} {V : List AV} (h : Olds W B V) : Olds W (B ++ [b]) (V ++ [v]) := by
  induction h with
  | nil => exact .cons hb .nil
  | cons a _ ih => exact .cons a ih
def refI (W : World) (q : Nat) (L : List T3) (B : List (List UInt8)) (vl vb : AV) (fb : List AV) : HP := HP.all [HP.pure (Olds W B fb), blk q [vl, vb] 31, row 33 3 (flat3 L) vl, row 34 1 fb vb]
def refP (W : World) (q : Nat) (L : List T3) (B : List (List UInt8)) : HP := HP.ex fun vl => HP.ex fun vb => HP.ex fun fb => refI W q L B vl vb fb
theorem refP_open {q : Nat} {L : List T3} {B : List (List UInt8)} (h : Holds H (refP W q L B :: Γ)) : ∃ vl vb fb, Olds W B fb ∧ Holds H (blk q [vl, vb] 31 :: row 33 3 (flat3 L) vl :: row 34 1 fb vb :: Γ) := by
  obtain ⟨vl, h⟩ := h.ex
  obtain ⟨vb, h⟩ := h.ex
  obtain ⟨fb, h⟩ := h.ex
  have h2 : Holds H (HP.pure (Olds W B fb) :: blk q [vl, vb] 31 :: row 33 3 (flat3 L) vl :: row 34 1 fb vb :: Γ) := h.opn
  exact ⟨vl, vb, fb, h2.pure⟩
theorem refP_shut {q : Nat} {L : List T3} {B : List (List UInt8)} {vl vb : AV} {fb : List AV} (ho : Olds W B fb) (h : Holds H (blk q [vl, vb] 31 :: row 33 3 (flat3 L) vl :: row 34 1 fb vb :: Γ)) : Holds H (refP W q L B :: Γ) := by
  have h1 := Holds.cls [HP.pure (Olds W B fb), blk q [vl, vb] 31, row 33 3 (flat3 L) vl, row 34 1 fb vb] (Holds.pure' ho h)
  exact ((h1.ex' (F := fun fb => refI W q L B vl vb fb) fb).ex' (F := fun vb => HP.ex fun fb => refI W q L B vl vb fb) vb).ex' (F := fun vl => HP.ex fun vb => HP.ex fun fb => refI W q L B vl vb fb) vl
/-- What can be read of the document's store. -/
theorem refP_facts {q : Nat} {L : List T3} {B : List (List UInt8)} (h : Holds H (refP W q L B :: Γ)) : ∃ vl vb fb al cl ab cb', vl = .sl al L.length cl ∧ vb = .sl ab B.length cb' ∧ Olds W B fb ∧ H.get q = some (.cells (.lst [vl, vb]) 31 none) ∧
    (0 < L.length → ∃ j l, al = some ⟨.own j, 0⟩ ∧ H.get j = some (.cells (.lst (flat3 L)) 33 (some l))) ∧ (0 < B.length → ∃ j l, ab = some ⟨.own j, 0⟩ ∧ H.get j = some (.cells (.lst fb) 34 (some l))) := by
  obtain ⟨vl, vb, fb, ho, h⟩ := refP_open h
  have hl := ho.len
  obtain ⟨al, cl, rfl⟩ := (h.ord [1]).row_len (by omega) (n := L.length) (flat3_len _)
  obtain ⟨ab, cb', rfl⟩ := (h.ord [2]).row_len (by omega) (n := B.length) (by omega)
  refine ⟨_, _, fb, al, cl, ab, cb', rfl, rfl, ho, h.get, fun h0 => ?_, fun h0 => ?_⟩
  · obtain ⟨j, l, c, e, g⟩ := (h.ord [1]).row_get (by omega) (n := L.length) (flat3_len _) h0
    cases e; exact ⟨j, l, rfl, g⟩
  · obtain ⟨j, l, c, e, g⟩ := (h.ord [2]).row_get (by omega) (n := B.length) (by omega) h0
    cases e; exact ⟨j, l, rfl, g⟩
/-- What is as good as the document's store, to read from. -/
def RefLike (W : World) (q : Nat) (L : List T3) (B : List (List UInt8)) (R : HP) : Prop := ∀ {H : Heap} {Γ : List HP}, Holds H (R :: Γ) → ∃ vl vb fb al cl ab cb', vl = .sl al L.length cl ∧ vb = .sl ab B.length cb' ∧ Olds W B fb ∧ H.get q = some (.cells (.lst [vl, vb]) 31 none) ∧
    (0 < L.length → ∃ j l, al = some ⟨.own j, 0⟩ ∧ H.get j = some (.cells (.lst (flat3 L)) 33 (some l))) ∧ (0 < B.length → ∃ j l, ab = some ⟨.own j, 0⟩ ∧ H.get j = some (.cells (.lst fb) 34 (some l)))
theorem refP_like {q : Nat} {L : List T3} {B : List (List UInt8)} : RefLike W q L B (refP W q L B) := fun h => refP_facts h
theorem refI_facts {q : Nat} {L : List T3} {B : List (List UInt8)} {vl vb : AV} {fb : List AV} (h : Holds H (refI W q L B vl vb fb :: Γ)) : ∃ al cl ab cb', vl = .sl al L.length cl ∧ vb = .sl ab B.length cb' ∧ Olds W B fb ∧ H.get q = some (.cells (.lst [vl, vb]) 31 none) ∧
    (0 < L.length → ∃ j l, al = some ⟨.own j, 0⟩ ∧ H.get j = some (.cells (.lst (flat3 L)) 33 (some l))) ∧ (0 < B.length → ∃ j l, ab = some ⟨.own j, 0⟩ ∧ H.get j = some (.cells (.lst fb) 34 (some l))) := by
  have h2 : Holds H (HP.pure (Olds W B fb) :: blk q [vl, vb] 31 :: row 33 3 (flat3 L) vl :: row 34 1 fb vb :: Γ) := h.opn
  obtain ⟨ho, h⟩ := h2.pure
  have hl := ho.len
  obtain ⟨al, cl, rfl⟩ := (h.ord [1]).row_len (by omega) (n := L.length) (flat3_len _)
  obtain ⟨ab, cb', rfl⟩ := (h.ord [2]).row_len (by omega) (n := B.length) (by omega)
  refine ⟨al, cl, ab, cb', rfl, rfl, ho, h.get, fun h0 => ?_, fun h0 => ?_⟩
  · obtain ⟨j, l, c, e, g⟩ := (h.ord [1]).row_get (by omega) (n := L.length) (flat3_len _) h0
    cases e; exact ⟨j, l, rfl, g⟩
  · obtain ⟨j, l, c, e, g⟩ := (h.ord [2]).row_get (by omega) (n := B.length) (by omega) h0
    cases e; exact ⟨j, l, rfl, g⟩
theorem refI_like {q : Nat} {L : List T3} {B : List (List UInt8)} {vl vb : AV} {fb : List AV} : RefLike W q L B (refI W q L B vl vb fb) := fun h => by
  obtain ⟨al, cl, ab, cb', h⟩ := refI_facts h
  exact ⟨vl, vb, fb, al, cl, ab, cb', h⟩
theorem refP_I {q : Nat} {L : List T3} {B : List (List UInt8)} (h : Holds H (refP W q L B :: Γ)) : ∃ vl vb fb, Holds H (refI W q L B vl vb fb :: Γ) := by
  obtain ⟨vl, h⟩ := h.ex
  obtain ⟨vb, h⟩ := h.ex
  obtain ⟨fb, h⟩ := h.ex
  exact ⟨vl, vb, fb, h⟩
theorem r_has (hE : EnvT E) {q : Nat} {L : List T3} {B : List (List UInt8)} (h : Holds H (refP W q L B :: Γ)) (n k : Int) :
    go W E 51 [.ptr (some ⟨.own q, 0⟩), .int .i64 n, .int .i64 k] H = some (.bool (hasM L n k), H) := by
  obtain ⟨vl, vb, fb, al, cl, ab, cb', rfl, rfl, ho, hq, hl, hb⟩ := refP_facts h
  rw [go_code hE.f51 (by simp [sf51])]
  unfold hasM
  by_cases h1 : n < 0
  · have h1' : ¬ 0 ≤ n := by omega
    simp only [sf51, ↓hq, h1, h1', ↓sxp, sxq, ↓reduceIte, Nat.reduceBEq, Nat.reduceLT, evP, evX, evR, blkOf, evA, storeA, Nat.reduceEqDiff, resL, resV, oneOrTup, Int.reduceEq, Int.reduceLT, Int.reduceLE, Int.reduceNeg, Int.reduceAdd, Int.reduceSub, Int.reduceMul, Int.reduceToNat, Nat.reduceAdd, noUnk, AV.cells, reduceCtorEq, Nat.reduceLeDiff, Cells.get, Cells.getN, Nat.reduceMul, ↓bnd_assoc]
  · by_cases h2 : (L.length : Int) ≤ n
    · have h2' : ¬ n < L.length := by omega
      simp only [sf51, ↓hq, h1, h2, h2', ↓sxp, sxq, ↓reduceIte, Nat.reduceBEq, Nat.reduceLT, evP, evX, evR, blkOf, evA, storeA, Nat.reduceEqDiff, resL, resV, oneOrTup, Int.reduceEq, Int.reduceLT, Int.reduceLE, Int.reduceNeg, Int.reduceAdd, Int.reduceSub, Int.reduceMul, Int.reduceToNat, Nat.reduceAdd, noUnk, AV.cells, reduceCtorEq, Nat.reduceLeDiff, Cells.get, Cells.getN, Nat.reduceMul, ↓bnd_assoc]
    · have h1' : 0 ≤ n := by omega
      have h2' : n < L.length := by omega
      have h12 : 0 ≤ n ∧ n < L.length := ⟨h1', h2'⟩
      by_cases h3 : k = 0
      · simp only [sf51, ↓hq, h1, h2, h1', h2', h3, ↓sxp, sxq, ↓reduceIte, Nat.reduceBEq, Nat.reduceLT, evP, evX, evR, blkOf, evA, storeA, Nat.reduceEqDiff, resL, resV, oneOrTup, Int.reduceEq, Int.reduceLT, Int.reduceLE, Int.reduceNeg, Int.reduceAdd, Int.reduceSub, Int.reduceMul, Int.reduceToNat, Nat.reduceAdd, noUnk, AV.cells, reduceCtorEq, Nat.reduceLeDiff, Cells.get, Cells.getN, Nat.reduceMul, ↓bnd_assoc]
      · obtain ⟨j, l, rfl, hg⟩ := hl (by omega)
        have hx : L[n.toNat]? = some L[n.toNat] := List.getElem?_eq_getElem (by omega)
        have hf := (flat3_get hx).1
        have hgd : L.getD n.toNat (0, 0, 0) = L[n.toNat] := by simp [List.getD_eq_getElem?_getD, hx]
        simp only [sf51, ↓hq, ↓hg, h1, h2, h1', h2', h3, hf, hgd, and_self, ↓sxp, sxq, ↓reduceIte, Nat.reduceBEq, Nat.reduceLT, evP, evX, evR, blkOf, evA, storeA, Nat.reduceEqDiff, resL, resV, oneOrTup, Int.reduceEq, Int.reduceLT, Int.reduceLE, Int.reduceNeg, Int.reduceAdd, Int.reduceSub, Int.reduceMul, Int.reduceToNat, Nat.reduceAdd, noUnk, AV.cells, reduceCtorEq, Nat.reduceLeDiff, Cells.get, Cells.getN, Nat.reduceMul, ↓bnd_assoc]
theorem getM_drop {L : List T3} {i : Nat} {x : T3} (h : L[i]? = some x) : L.drop i = x :: L.drop (i + 1) := by
  obtain ⟨hi, rfl⟩ := List.getElem?_eq_some_iff.1 h
  exact List.drop_eq_getElem_cons hi
theorem find_loop {q b : Nat} {L : List T3} {B : List (List UInt8)} {x : T3} (hb : L.length < 65536) : ∀ (m i : Nat) (A : Tm) (H : Heap), i + m = L.length → getX A 0 = .ptr (some ⟨.own q, 0⟩) → getX A 3 = .ptr (some ⟨.own b, 0⟩) → getX A 5 = .int .i64 i →
    Holds H (refP W q L B :: blk b (c3 x) 33 :: Γ) → ∃ lv A' H', run W E (.loop lp48_0) ⟨A, [], none⟩ H = some (lv, ⟨A', [], none⟩, H') ∧ (Holds H' (refP W q L B :: blk b (c3 x) 33 :: Γ) ∧
      ((lv = .exit 0 ∧ numOf x (L.drop i) = none) ∨ (lv = .ret ∧ ∃ n : Nat, numOf x (L.drop i) = some n ∧ getX A' 4 = .int .i64 ((i + n : Nat) : Int)))) := by
  have hlp : ∀ f H, run W E lp48_0 f H = run W E lp48_0 f H := fun _ _ => rfl
  conv at hlp => enter [f, H, 2]; unfold lp48_0
  intro m
  induction m with
  | zero =>
    intro i A H him h0 h3 h5 h
    have : i = L.length := by omega
    subst this
    obtain ⟨vl, vb, fb, al, cl, ab, cb', rfl, rfl, ho, hq, hl, hb⟩ := refP_facts h
    have hlt : ¬ (L.length : Int) < L.length := by omega
    rw [run_loop]
    simp only [hlp, h0, h3, h5, hlt, ↓hq, ↓sxp, sxq, ↓reduceIte, Nat.reduceBEq, Nat.reduceLT, evP, evX, evR, blkOf, evA, storeA, Nat.reduceEqDiff, resL, resV, oneOrTup, Int.reduceEq, Int.reduceLT, Int.reduceLE, Int.reduceNeg, Int.reduceAdd, Int.reduceSub, Int.reduceMul, Int.reduceToNat, Nat.reduceAdd, noUnk, AV.cells, reduceCtorEq, Nat.reduceLeDiff, Cells.get, Cells.getN, Nat.reduceMul, ↓bnd_assoc]
    exact ⟨_, _, _, rfl, h, .inl ⟨rfl, by simp [numOf]⟩⟩
  | succ m ih =>
    intro i A H him h0 h3 h5 h
    obtain ⟨vl, vb, fb, al, cl, ab, cb', rfl, rfl, ho, hq, hl, hb'⟩ := refP_facts h
    obtain ⟨j, l, rfl, hg⟩ := hl (by omega)
    have hlt : (i : Int) < L.length := by omega
    have hlt0 : (0 : Int) ≤ i ∧ (i : Int) < L.length := by omega
    have hx : L[i]? = some L[i] := List.getElem?_eq_getElem (by omega)
    have hg3 := getN3 hx
    have hd := getM_drop hx
    have gb := (h.ord [1]).get
    generalize L[i] = y at *
    have heq := eqL3 y x
    simp only [c3] at hg3 gb heq
    rw [run_loop]
    have hw : IntKind.i64.wrap ((i : Int) + 1) = ((i + 1 : Nat) : Int) := by rw [w64 (by omega)]; simp
    by_cases e : y = x
    · subst e
      simp only [decide_true] at heq
      simp only [hlp, h0, h3, h5, hlt, hlt0, and_self, ↓hq, ↓hg, ↓hg3, ↓gb, heq, hw, Int.toNat_natCast, ↓sxp, sxq, ↓reduceIte, Nat.reduceBEq, Nat.reduceLT, evP, evX, evR, blkOf, evA, storeA, Nat.reduceEqDiff, resL, resV, oneOrTup, Int.reduceEq, Int.reduceLT, Int.reduceLE, Int.reduceNeg, Int.reduceAdd, Int.reduceSub, Int.reduceMul, Int.reduceToNat, Nat.reduceAdd, noUnk, AV.cells, reduceCtorEq, Nat.reduceLeDiff, Cells.get, Cells.getN, Nat.reduceMul, ↓bnd_assoc]
      exact ⟨_, _, _, rfl, h.bump 9, .inr ⟨rfl, 0, by rw [hd]; simp [numOf], by simp only [↓sxp, sxq, ↓reduceIte, Nat.reduceBEq, Nat.reduceLT, evP, evX, evR, blkOf, evA, storeA, Nat.reduceEqDiff, resL, resV, oneOrTup, Int.reduceEq, Int.reduceLT, Int.reduceLE, Int.reduceNeg, Int.reduceAdd, Int.reduceSub, Int.reduceMul, Int.reduceToNat, Nat.reduceAdd, noUnk, AV.cells, reduceCtorEq, Nat.reduceLeDiff, Cells.get, Cells.getN, Nat.reduceMul, ↓bnd_assoc]⟩⟩
    · simp only [decide_eq_false e] at heq
      simp only [hlp, h0, h3, h5, hlt, hlt0, and_self, ↓hq, ↓hg, ↓hg3, ↓gb, heq, hw, Int.toNat_natCast, ↓sxp, sxq, ↓reduceIte, Nat.reduceBEq, Nat.reduceLT, evP, evX, evR, blkOf, evA, storeA, Nat.reduceEqDiff, resL, resV, oneOrTup, Int.reduceEq, Int.reduceLT, Int.reduceLE, Int.reduceNeg, Int.reduceAdd, Int.reduceSub, Int.reduceMul, Int.reduceToNat, Nat.reduceAdd, noUnk, AV.cells, reduceCtorEq, Nat.reduceLeDiff, Cells.get, Cells.getN, Nat.reduceMul, ↓bnd_assoc]
      refine loop_mono (ih (i + 1) _ _ (by omega) (by simp only [h0, ↓sxp, sxq, ↓reduceIte, Nat.reduceBEq, Nat.reduceLT, evP, evX, evR, blkOf, evA, storeA, Nat.reduceEqDiff, resL, resV, oneOrTup, Int.reduceEq, Int.reduceLT, Int.reduceLE, Int.reduceNeg, Int.reduceAdd, Int.reduceSub, Int.reduceMul, Int.reduceToNat, Nat.reduceAdd, noUnk, AV.cells, reduceCtorEq, Nat.reduceLeDiff, Cells.get, Cells.getN, Nat.reduceMul, ↓bnd_assoc]) (by simp only [h3, ↓sxp, sxq, ↓reduceIte, Nat.reduceBEq, Nat.reduceLT, evP, evX, evR, blkOf, evA, storeA, Nat.reduceEqDiff, resL, resV, oneOrTup, Int.reduceEq, Int.reduceLT, Int.reduceLE, Int.reduceNeg, Int.reduceAdd, Int.reduceSub, Int.reduceMul, Int.reduceToNat, Nat.reduceAdd, noUnk, AV.cells, reduceCtorEq, Nat.reduceLeDiff, Cells.get, Cells.getN, Nat.reduceMul, ↓bnd_assoc]) (by simp only [↓sxp, sxq, ↓reduceIte, Nat.reduceBEq, Nat.reduceLT, evP, evX, evR, blkOf, evA, storeA, Nat.reduceEqDiff, resL, resV, oneOrTup, Int.reduceEq, Int.reduceLT, Int.reduceLE, Int.reduceNeg, Int.reduceAdd, Int.reduceSub, Int.reduceMul, Int.reduceToNat, Nat.reduceAdd, noUnk, AV.cells, reduceCtorEq, Nat.reduceLeDiff, Cells.get, Cells.getN, Nat.reduceMul, ↓bnd_assoc]) (h.bump 9)) fun lv A' H' ⟨hh, hr⟩ => ⟨hh, ?_⟩
      have e' : ¬ x = y := fun e' => e e'.symm
      rw [hd]
      rcases hr with ⟨e1, e2⟩ | ⟨e1, n, e2, e3⟩
      · exact .inl ⟨e1, by simp [numOf, e2, e']⟩
      · exact .inr ⟨e1, n + 1, by simp [numOf, e2, e'], by rw [e3]; congr 1; omega⟩
def findR (L : List T3) (x : T3) : Int := match numOf x L with
  | some n => n
  | none => -1
theorem r_find (hE : EnvT E) {q : Nat} {L : List T3} {B : List (List UInt8)} (h : Holds H (refP W q L B :: Γ)) (x : T3) (hb : L.length < 65536) :
    ∃ H', go W E 48 [.ptr (some ⟨.own q, 0⟩), .agg (c3 x)] H = some (.int .i64 (findR L x), H') ∧ Holds H' (refP W q L B :: Γ) := by
  apply Ends.out
  have h1 := h.push (c := c3 x) (t := 33)
  rw [go_code hE.f48 (by simp [sf48])]
  obtain ⟨k, u, w⟩ := x
  simp only [sf48, c3, ↓sxp, sxq, ↓reduceIte, Nat.reduceBEq, Nat.reduceLT, evP, evX, evR, blkOf, evA, storeA, Nat.reduceEqDiff, resL, resV, oneOrTup, Int.reduceEq, Int.reduceLT, Int.reduceLE, Int.reduceNeg, Int.reduceAdd, Int.reduceSub, Int.reduceMul, Int.reduceToNat, Nat.reduceAdd, noUnk, AV.cells, reduceCtorEq, Nat.reduceLeDiff, Cells.get, Cells.getN, Nat.reduceMul, ↓bnd_assoc]
  refine Ends.loop (find_loop hb L.length 0 _ _ (by omega) (by simp only [↓sxp, sxq, ↓reduceIte, Nat.reduceBEq, Nat.reduceLT, evP, evX, evR, blkOf, evA, storeA, Nat.reduceEqDiff, resL, resV, oneOrTup, Int.reduceEq, Int.reduceLT, Int.reduceLE, Int.reduceNeg, Int.reduceAdd, Int.reduceSub, Int.reduceMul, Int.reduceToNat, Nat.reduceAdd, noUnk, AV.cells, reduceCtorEq, Nat.reduceLeDiff, Cells.get, Cells.getN, Nat.reduceMul, ↓bnd_assoc]) (by simp only [↓sxp, sxq, ↓reduceIte, Nat.reduceBEq, Nat.reduceLT, evP, evX, evR, blkOf, evA, storeA, Nat.reduceEqDiff, resL, resV, oneOrTup, Int.reduceEq, Int.reduceLT, Int.reduceLE, Int.reduceNeg, Int.reduceAdd, Int.reduceSub, Int.reduceMul, Int.reduceToNat, Nat.reduceAdd, noUnk, AV.cells, reduceCtorEq, Nat.reduceLeDiff, Cells.get, Cells.getN, Nat.reduceMul, ↓bnd_assoc]) (by simp only [↓sxp, sxq, ↓reduceIte, Nat.reduceBEq, Nat.reduceLT, evP, evX, evR, blkOf, evA, storeA, Nat.reduceEqDiff, resL, resV, oneOrTup, Int.reduceEq, Int.reduceLT, Int.reduceLE, Int.reduceNeg, Int.reduceAdd, Int.reduceSub, Int.reduceMul, Int.reduceToNat, Nat.reduceAdd, noUnk, AV.cells, reduceCtorEq, Nat.reduceLeDiff, Cells.get, Cells.getN, Nat.reduceMul, ↓bnd_assoc]; rfl) h1.swap) fun lv A' H' ⟨hh, hr⟩ => ?_
  unfold findR
  rcases hr with ⟨rfl, e2⟩ | ⟨rfl, n, e2, e3⟩
  · rw [List.drop_zero] at e2
    rw [e2]
    simp only [↓sxp, sxq, ↓reduceIte, Nat.reduceBEq, Nat.reduceLT, evP, evX, evR, blkOf, evA, storeA, Nat.reduceEqDiff, resL, resV, oneOrTup, Int.reduceEq, Int.reduceLT, Int.reduceLE, Int.reduceNeg, Int.reduceAdd, Int.reduceSub, Int.reduceMul, Int.reduceToNat, Nat.reduceAdd, noUnk, AV.cells, reduceCtorEq, Nat.reduceLeDiff, Cells.get, Cells.getN, Nat.reduceMul, ↓bnd_assoc]
    exact Ends.ret ⟨rfl, hh.rm 1⟩
  · rw [List.drop_zero] at e2
    rw [e2]
    simp only [e3, ↓sxp, sxq, ↓reduceIte, Nat.reduceBEq, Nat.reduceLT, evP, evX, evR, blkOf, evA, storeA, Nat.reduceEqDiff, resL, resV, oneOrTup, Int.reduceEq, Int.reduceLT, Int.reduceLE, Int.reduceNeg, Int.reduceAdd, Int.reduceSub, Int.reduceMul, Int.reduceToNat, Nat.reduceAdd, noUnk, AV.cells, reduceCtorEq, Nat.reduceLeDiff, Cells.get, Cells.getN, Nat.reduceMul, ↓bnd_assoc]
    exact Ends.ret ⟨rfl, hh.rm 1⟩
end
end Go.Proofs.Ytnfehkjkmlbceaa.Sx

/- The document's store: May, Put. -/
namespace Go.Proofs.Ytnfehkjkmlbceaa.Sx
open HP
section
variable {W : World} {E : Env} {H : Heap} {Γ : List HP}
theorem r_may (hE : EnvT E) {q : Nat} {L : List T3} {B : List (List UInt8)} (h : Holds H (refP W q L B :: Γ)) (x : T3) :
    ∃ H', go W E 47 [.ptr (some ⟨.own q, 0⟩), .agg (c3 x)] H = some (.bool (mayM L B.length x), H') ∧ Holds H' (refP W q L B :: Γ) := by
  apply Ends.out
  have h1 := h.push (c := c3 x) (t := 33)
  have gb := h1.get
  have hh := fun n k => r_has (W := W) hE h1.swap n k
  obtain ⟨vl, vb, fb, al, cl, ab, cb', rfl, rfl, ho, hq, hl, hb'⟩ := refP_facts h1.swap
  rw [go_code hE.f47 (by simp [sf47])]
  obtain ⟨k, u, w⟩ := x
  simp only [c3] at gb hh hq
  by_cases e1 : k = 1
  · subst e1
    by_cases d1 : 1 ≤ u
    · by_cases d2 : u ≤ 4
      all_goals
        simp only [sf47, ↓gb, d1, d2, c3, ↓sxp, sxq, ↓reduceIte, Nat.reduceBEq, Nat.reduceLT, evP, evX, evR, blkOf, evA, storeA, Nat.reduceEqDiff, resL, resV, oneOrTup, Int.reduceEq, Int.reduceLT, Int.reduceLE, Int.reduceNeg, Int.reduceAdd, Int.reduceSub, Int.reduceMul, Int.reduceToNat, Nat.reduceAdd, noUnk, AV.cells, reduceCtorEq, Nat.reduceLeDiff, Cells.get, Cells.getN, Nat.reduceMul, ↓bnd_assoc]
        exact Ends.ret ⟨by simp [mayM, sortM, d1, d2], h1.tail⟩
    · simp only [sf47, ↓gb, d1, c3, ↓sxp, sxq, ↓reduceIte, Nat.reduceBEq, Nat.reduceLT, evP, evX, evR, blkOf, evA, storeA, Nat.reduceEqDiff, resL, resV, oneOrTup, Int.reduceEq, Int.reduceLT, Int.reduceLE, Int.reduceNeg, Int.reduceAdd, Int.reduceSub, Int.reduceMul, Int.reduceToNat, Nat.reduceAdd, noUnk, AV.cells, reduceCtorEq, Nat.reduceLeDiff, Cells.get, Cells.getN, Nat.reduceMul, ↓bnd_assoc]
      exact Ends.ret ⟨by simp [mayM, sortM, d1], h1.tail⟩
  by_cases e2 : k = 2 ∨ k = 3 ∨ k = 6 ∨ k = 7
  · rcases e2 with rfl | rfl | rfl | rfl
    all_goals
      cases hb : hasM L u 0
      all_goals
        simp only [sf47, ↓gb, hh, hb, c3, ↓sxp, sxq, ↓reduceIte, Nat.reduceBEq, Nat.reduceLT, evP, evX, evR, blkOf, evA, storeA, Nat.reduceEqDiff, resL, resV, oneOrTup, Int.reduceEq, Int.reduceLT, Int.reduceLE, Int.reduceNeg, Int.reduceAdd, Int.reduceSub, Int.reduceMul, Int.reduceToNat, Nat.reduceAdd, noUnk, AV.cells, reduceCtorEq, Nat.reduceLeDiff, Cells.get, Cells.getN, Nat.reduceMul, ↓bnd_assoc]
        exact Ends.ret ⟨by simp [mayM, hb], h1.tail⟩
  have n2 : ¬ k = 2 := fun e => e2 (.inl e)
  have n3 : ¬ k = 3 := fun e => e2 (.inr (.inl e))
  have n6 : ¬ k = 6 := fun e => e2 (.inr (.inr (.inl e)))
  have n7 : ¬ k = 7 := fun e => e2 (.inr (.inr (.inr e)))
  by_cases e4 : k = 4
  · subst e4
    cases hb : hasM L u 2
    all_goals
      simp only [sf47, ↓gb, hh, hb, c3, ↓sxp, sxq, ↓reduceIte, Nat.reduceBEq, Nat.reduceLT, evP, evX, evR, blkOf, evA, storeA, Nat.reduceEqDiff, resL, resV, oneOrTup, Int.reduceEq, Int.reduceLT, Int.reduceLE, Int.reduceNeg, Int.reduceAdd, Int.reduceSub, Int.reduceMul, Int.reduceToNat, Nat.reduceAdd, noUnk, AV.cells, reduceCtorEq, Nat.reduceLeDiff, Cells.get, Cells.getN, Nat.reduceMul, ↓bnd_assoc]
      exact Ends.ret ⟨by simp [mayM, hb], h1.tail⟩
  by_cases e5 : k = 5
  · subst e5
    cases hb : hasM L u 0
    all_goals
      simp only [sf47, ↓gb, hh, hb, c3, ↓sxp, sxq, ↓reduceIte, Nat.reduceBEq, Nat.reduceLT, evP, evX, evR, blkOf, evA, storeA, Nat.reduceEqDiff, resL, resV, oneOrTup, Int.reduceEq, Int.reduceLT, Int.reduceLE, Int.reduceNeg, Int.reduceAdd, Int.reduceSub, Int.reduceMul, Int.reduceToNat, Nat.reduceAdd, noUnk, AV.cells, reduceCtorEq, Nat.reduceLeDiff, Cells.get, Cells.getN, Nat.reduceMul, ↓bnd_assoc]
      exact Ends.ret ⟨by simp [mayM, hb], h1.tail⟩
  by_cases e8 : k = 8
  · subst e8
    cases hb : hasM L u 0
    all_goals
      simp only [sf47, ↓gb, hh, hb, c3, ↓sxp, sxq, ↓reduceIte, Nat.reduceBEq, Nat.reduceLT, evP, evX, evR, blkOf, evA, storeA, Nat.reduceEqDiff, resL, resV, oneOrTup, Int.reduceEq, Int.reduceLT, Int.reduceLE, Int.reduceNeg, Int.reduceAdd, Int.reduceSub, Int.reduceMul, Int.reduceToNat, Nat.reduceAdd, noUnk, AV.cells, reduceCtorEq, Nat.reduceLeDiff, Cells.get, Cells.getN, Nat.reduceMul, ↓bnd_assoc]
      exact Ends.ret ⟨by simp [mayM, hb], h1.tail⟩
  by_cases e9 : k = 9
  · subst e9
    by_cases d1 : 0 ≤ u
    · by_cases d2 : u < B.length
      all_goals
        simp only [sf47, ↓gb, ↓hq, d1, d2, c3, ↓sxp, sxq, ↓reduceIte, Nat.reduceBEq, Nat.reduceLT, evP, evX, evR, blkOf, evA, storeA, Nat.reduceEqDiff, resL, resV, oneOrTup, Int.reduceEq, Int.reduceLT, Int.reduceLE, Int.reduceNeg, Int.reduceAdd, Int.reduceSub, Int.reduceMul, Int.reduceToNat, Nat.reduceAdd, noUnk, AV.cells, reduceCtorEq, Nat.reduceLeDiff, Cells.get, Cells.getN, Nat.reduceMul, ↓bnd_assoc]
        exact Ends.ret ⟨by simp [mayM, d1, d2], (h1.bump 19).tail⟩
    · simp only [sf47, ↓gb, ↓hq, d1, c3, ↓sxp, sxq, ↓reduceIte, Nat.reduceBEq, Nat.reduceLT, evP, evX, evR, blkOf, evA, storeA, Nat.reduceEqDiff, resL, resV, oneOrTup, Int.reduceEq, Int.reduceLT, Int.reduceLE, Int.reduceNeg, Int.reduceAdd, Int.reduceSub, Int.reduceMul, Int.reduceToNat, Nat.reduceAdd, noUnk, AV.cells, reduceCtorEq, Nat.reduceLeDiff, Cells.get, Cells.getN, Nat.reduceMul, ↓bnd_assoc]
      exact Ends.ret ⟨by simp [mayM, d1], (h1.bump 19).tail⟩
  by_cases e10 : k = 10
  · subst e10
    cases hb : hasM L u 9
    all_goals
      simp only [sf47, ↓gb, hh, hb, c3, ↓sxp, sxq, ↓reduceIte, Nat.reduceBEq, Nat.reduceLT, evP, evX, evR, blkOf, evA, storeA, Nat.reduceEqDiff, resL, resV, oneOrTup, Int.reduceEq, Int.reduceLT, Int.reduceLE, Int.reduceNeg, Int.reduceAdd, Int.reduceSub, Int.reduceMul, Int.reduceToNat, Nat.reduceAdd, noUnk, AV.cells, reduceCtorEq, Nat.reduceLeDiff, Cells.get, Cells.getN, Nat.reduceMul, ↓bnd_assoc]
      exact Ends.ret ⟨by simp [mayM, hb], h1.tail⟩
  simp only [sf47, ↓gb, hh, e1, n2, n3, n6, n7, e4, e5, e8, e9, e10, c3, ↓sxp, sxq, ↓reduceIte, Nat.reduceBEq, Nat.reduceLT, evP, evX, evR, blkOf, evA, storeA, Nat.reduceEqDiff, resL, resV, oneOrTup, Int.reduceEq, Int.reduceLT, Int.reduceLE, Int.reduceNeg, Int.reduceAdd, Int.reduceSub, Int.reduceMul, Int.reduceToNat, Nat.reduceAdd, noUnk, AV.cells, reduceCtorEq, Nat.reduceLeDiff, Cells.get, Cells.getN, Nat.reduceMul, ↓bnd_assoc]
  exact Ends.ret ⟨by simp [mayM, e1, n2, n3, n6, n7, e4, e5, e8, e9, e10], h1.tail⟩
end
end Go.Proofs.Ytnfehkjkmlbceaa.Sx

/- The document's store: Put, Draw. -/
namespace Go.Proofs.Ytnfehkjkmlbceaa.Sx
open HP
section
variable {W : World} {E : Env} {H : Heap} {Γ : List HP}
def putR (L : List T3) (nb : Nat) (x : T3) : Int × Int × List T3 :=
  if mayM L nb x then (match numOf x L with
    | some n => (n, 0, L)
    | none => (L.length, 0, L ++ [x]))
  else (0, 2, L)
theorem r_put (hE : EnvT E) {q : Nat} {L : List T3} {B : List (List UInt8)} (h : Holds H (refP W q L B :: Γ)) (x : T3) (hb : L.length < 65536) :
    ∃ H', go W E 35 [.ptr (some ⟨.own q, 0⟩), .agg (c3 x)] H = some (.tup [.int .i64 (putR L B.length x).1, .int .i64 (putR L B.length x).2.1], H') ∧ Holds H' (refP W q (putR L B.length x).2.2 B :: Γ) := by
  apply Ends.out
  have h1 := h.push (c := c3 x) (t := 33)
  have gb := h1.get
  rw [go_code hE.f35 (by simp [sf35])]
  have hx : ∃ k u w, x = (k, u, w) := ⟨_, _, _, rfl⟩
  obtain ⟨k, u, w, hx⟩ := hx
  have hc : c3 x = [.int .i64 k, .int .i64 u, .int .i64 w] := by subst hx; rfl
  rw [hc] at gb h1 ⊢
  simp only [sf35, ↓gb, ↓sxp, sxq, ↓reduceIte, Nat.reduceBEq, Nat.reduceLT, evP, evX, evR, blkOf, evA, storeA, Nat.reduceEqDiff, resL, resV, oneOrTup, Int.reduceEq, Int.reduceLT, Int.reduceLE, Int.reduceNeg, Int.reduceAdd, Int.reduceSub, Int.reduceMul, Int.reduceToNat, Nat.reduceAdd, noUnk, AV.cells, reduceCtorEq, Nat.reduceLeDiff, Cells.get, Cells.getN, Nat.reduceMul, ↓bnd_assoc]
  rw [← hc] at h1 ⊢
  refine Ends.call (r_may hE h1.swap x) fun H2 h2 => ?_
  unfold putR
  cases hm : mayM L B.length x with
  | false =>
    simp only [↓sxp, sxq, ↓reduceIte, Nat.reduceBEq, Nat.reduceLT, evP, evX, evR, blkOf, evA, storeA, Nat.reduceEqDiff, resL, resV, oneOrTup, Int.reduceEq, Int.reduceLT, Int.reduceLE, Int.reduceNeg, Int.reduceAdd, Int.reduceSub, Int.reduceMul, Int.reduceToNat, Nat.reduceAdd, noUnk, AV.cells, reduceCtorEq, Nat.reduceLeDiff, Cells.get, Cells.getN, Nat.reduceMul, ↓bnd_assoc]
    exact Ends.ret ⟨rfl, h2.rm 1⟩
  | true =>
    have gb2 := (h2.ord [1]).get
    rw [hc] at gb2
    simp only [↓gb2, ↓sxp, sxq, ↓reduceIte, Nat.reduceBEq, Nat.reduceLT, evP, evX, evR, blkOf, evA, storeA, Nat.reduceEqDiff, resL, resV, oneOrTup, Int.reduceEq, Int.reduceLT, Int.reduceLE, Int.reduceNeg, Int.reduceAdd, Int.reduceSub, Int.reduceMul, Int.reduceToNat, Nat.reduceAdd, noUnk, AV.cells, reduceCtorEq, Nat.reduceLeDiff, Cells.get, Cells.getN, Nat.reduceMul, ↓bnd_assoc]
    rw [← hc]
    refine Ends.call (r_find hE h2 x hb) fun H3 h3 => ?_
    have gb3 := (h3.ord [1]).get
    rw [hc] at gb3
    unfold findR
    cases hn : numOf x L with
    | some n =>
      have hn0 : ¬ (n : Int) < 0 := by omega
      simp only [hn0, ↓sxp, sxq, ↓reduceIte, Nat.reduceBEq, Nat.reduceLT, evP, evX, evR, blkOf, evA, storeA, Nat.reduceEqDiff, resL, resV, oneOrTup, Int.reduceEq, Int.reduceLT, Int.reduceLE, Int.reduceNeg, Int.reduceAdd, Int.reduceSub, Int.reduceMul, Int.reduceToNat, Nat.reduceAdd, noUnk, AV.cells, reduceCtorEq, Nat.reduceLeDiff, Cells.get, Cells.getN, Nat.reduceMul, ↓bnd_assoc]
      exact Ends.ret ⟨rfl, h3.rm 1⟩
    | none =>
      obtain ⟨vl, vb, fb, ho, h4⟩ := refP_open h3
      obtain ⟨al, cl, rfl⟩ := (h4.ord [1]).row_len (by omega) (n := L.length) (flat3_len _)
      have gq := h4.get
      have h5 := (h4.bump1 11 6).lay (c := c3 x) (t := 33)
      have gq5 := (h5.ord [1]).get
      have g5 := h5.get
      rw [hc] at g5
      simp only [Int.reduceLT, ↓gb3, ↓gq, ↓gq5, ↓sxp, sxq, ↓reduceIte, Nat.reduceBEq, Nat.reduceLT, evP, evX, evR, blkOf, evA, storeA, Nat.reduceEqDiff, resL, resV, oneOrTup, Int.reduceEq, Int.reduceLT, Int.reduceLE, Int.reduceNeg, Int.reduceAdd, Int.reduceSub, Int.reduceMul, Int.reduceToNat, Nat.reduceAdd, noUnk, AV.cells, reduceCtorEq, Nat.reduceLeDiff, Cells.get, Cells.getN, Nat.reduceMul, ↓bnd_assoc]
      rw [← hc] at g5 ⊢
      refine Ends.app (h5.ord [2]) (by omega) (by simp only [srcA, blkOf, g5, Nat.one_mul, getN_all]; rfl) (by omega) (new := c3 x) (n := L.length) rfl rfl (flat3_len _) (by omega) fun v' H6 h6 => ?_
      obtain ⟨ay, cy, hv⟩ := h6.row_len (by omega) (n := L.length + 1) (by rw [flat3_app, flat3_len]; simp)
      subst hv
      have gq6 := (h6.ord [2]).get
      simp only [↓gq6, ↓sxp, sxq, ↓reduceIte, Nat.reduceBEq, Nat.reduceLT, evP, evX, evR, blkOf, evA, storeA, Nat.reduceEqDiff, resL, resV, oneOrTup, Int.reduceEq, Int.reduceLT, Int.reduceLE, Int.reduceNeg, Int.reduceAdd, Int.reduceSub, Int.reduceMul, Int.reduceToNat, Nat.reduceAdd, noUnk, AV.cells, reduceCtorEq, Nat.reduceLeDiff, Cells.get, Cells.getN, Nat.reduceMul, ↓bnd_assoc]
      refine Ends.write [.sl ay (L.length + 1) cy, vb] (h6.ord [2]) rfl (by simp) rfl fun H7 h7 => ?_
      rw [flat3_app] at h7
      exact Ends.ret ⟨rfl, refP_shut ho ((h7.rm 4).rm 2)⟩
/-- The next number of a sort. -/
def drB (k : Int) : List T3 → Int → Option Int
  | [], b => some b
  | x :: L, b => if x.1 = 1 ∧ x.2.1 = k ∧ b ≤ x.2.2 then (if 4611686018427387904 ≤ x.2.2 then none else drB k L (x.2.2 + 1)) else drB k L b
theorem draw_loop {q : Nat} {k : Int} {L : List T3} {B : List (List UInt8)} (hb : L.length < 65536) (h : Holds H (refP W q L B :: Γ)) : ∀ (m i : Nat) (b : Int) (A : Tm), i + m = L.length → 0 ≤ b ∧ b ≤ 4611686018427387904 → getX A 0 = .ptr (some ⟨.own q, 0⟩) → getX A 1 = .int .i64 k → getX A 6 = .int .i64 b → getX A 7 = .int .i64 i →
    ∃ lv A' H', run W E (.loop lp36_0) ⟨A, [], none⟩ H = some (lv, ⟨A', [], none⟩, H') ∧ (H' = H ∧
      ((lv = .exit 0 ∧ ∃ b', drB k (L.drop i) b = some b' ∧ (0 ≤ b' ∧ b' ≤ 4611686018427387904) ∧ getX A' 0 = .ptr (some ⟨.own q, 0⟩) ∧ getX A' 1 = .int .i64 k ∧ getX A' 6 = .int .i64 b') ∨ (lv = .ret ∧ drB k (L.drop i) b = none ∧ getX A' 4 = .int .i64 0 ∧ getX A' 5 = .int .i64 3))) := by
  have hlp : ∀ f H, run W E lp36_0 f H = run W E lp36_0 f H := fun _ _ => rfl
  conv at hlp => enter [f, H, 2]; unfold lp36_0
  obtain ⟨vl, vb, fb, al, cl, ab, cb', rfl, rfl, ho, hq, hl, hb'⟩ := refP_facts h
  intro m
  induction m with
  | zero =>
    intro i b A him hb0 h0 h1 h6 h7
    have : i = L.length := by omega
    subst this
    have hlt : ¬ (L.length : Int) < L.length := by omega
    rw [run_loop]
    simp only [hlp, h0, h7, hlt, ↓hq, ↓sxp, sxq, ↓reduceIte, Nat.reduceBEq, Nat.reduceLT, evP, evX, evR, blkOf, evA, storeA, Nat.reduceEqDiff, resL, resV, oneOrTup, Int.reduceEq, Int.reduceLT, Int.reduceLE, Int.reduceNeg, Int.reduceAdd, Int.reduceSub, Int.reduceMul, Int.reduceToNat, Nat.reduceAdd, noUnk, AV.cells, reduceCtorEq, Nat.reduceLeDiff, Cells.get, Cells.getN, Nat.reduceMul, ↓bnd_assoc]
    exact ⟨_, _, _, rfl, rfl, .inl ⟨rfl, b, by simp [drB], hb0, by simp only [h0, ↓sxp, sxq, ↓reduceIte, Nat.reduceBEq, Nat.reduceLT, evP, evX, evR, blkOf, evA, storeA, Nat.reduceEqDiff, resL, resV, oneOrTup, Int.reduceEq, Int.reduceLT, Int.reduceLE, Int.reduceNeg, Int.reduceAdd, Int.reduceSub, Int.reduceMul, Int.reduceToNat, Nat.reduceAdd, noUnk, AV.cells, reduceCtorEq, Nat.reduceLeDiff, Cells.get, Cells.getN, Nat.reduceMul, ↓bnd_assoc], by simp only [h1, ↓sxp, sxq, ↓reduceIte, Nat.reduceBEq, Nat.reduceLT, evP, evX, evR, blkOf, evA, storeA, Nat.reduceEqDiff, resL, resV, oneOrTup, Int.reduceEq, Int.reduceLT, Int.reduceLE, Int.reduceNeg, Int.reduceAdd, Int.reduceSub, Int.reduceMul, Int.reduceToNat, Nat.reduceAdd, noUnk, AV.cells, reduceCtorEq, Nat.reduceLeDiff, Cells.get, Cells.getN, Nat.reduceMul, ↓bnd_assoc], by simp only [h6, ↓sxp, sxq, ↓reduceIte, Nat.reduceBEq, Nat.reduceLT, evP, evX, evR, blkOf, evA, storeA, Nat.reduceEqDiff, resL, resV, oneOrTup, Int.reduceEq, Int.reduceLT, Int.reduceLE, Int.reduceNeg, Int.reduceAdd, Int.reduceSub, Int.reduceMul, Int.reduceToNat, Nat.reduceAdd, noUnk, AV.cells, reduceCtorEq, Nat.reduceLeDiff, Cells.get, Cells.getN, Nat.reduceMul, ↓bnd_assoc]⟩⟩
  | succ m ih =>
    intro i b A him hb0 h0 h1 h6 h7
    obtain ⟨j, l, rfl, hg⟩ := hl (by omega)
    have hlt : (i : Int) < L.length := by omega
    have hlt0 : (0 : Int) ≤ i ∧ (i : Int) < L.length := by omega
    have hx : L[i]? = some L[i] := List.getElem?_eq_getElem (by omega)
    obtain ⟨q1, q2, q3⟩ := flat3_get hx
    have hd := getM_drop hx
    generalize L[i] = y at *
    obtain ⟨y1, y2, y3⟩ := y
    simp only at q1 q2 q3
    rw [run_loop, hd]
    have hw : IntKind.i64.wrap ((i : Int) + 1) = ((i + 1 : Nat) : Int) := by rw [w64 (by omega)]; simp
    by_cases e1 : y1 = 1
    · by_cases e2 : y2 = k
      · by_cases e3 : b ≤ y3
        · by_cases e4 : 4611686018427387904 ≤ y3
          · simp only [hlp, h0, h1, h6, h7, hlt, hlt0, and_self, ↓hq, ↓hg, q1, q2, q3, e1, e2, e3, e4, hw, Int.toNat_natCast, ↓sxp, sxq, ↓reduceIte, Nat.reduceBEq, Nat.reduceLT, evP, evX, evR, blkOf, evA, storeA, Nat.reduceEqDiff, resL, resV, oneOrTup, Int.reduceEq, Int.reduceLT, Int.reduceLE, Int.reduceNeg, Int.reduceAdd, Int.reduceSub, Int.reduceMul, Int.reduceToNat, Nat.reduceAdd, noUnk, AV.cells, reduceCtorEq, Nat.reduceLeDiff, Cells.get, Cells.getN, Nat.reduceMul, ↓bnd_assoc]
            exact ⟨_, _, _, rfl, rfl, .inr ⟨rfl, by simp [drB, e1, e2, e3, e4], by simp only [↓sxp, sxq, ↓reduceIte, Nat.reduceBEq, Nat.reduceLT, evP, evX, evR, blkOf, evA, storeA, Nat.reduceEqDiff, resL, resV, oneOrTup, Int.reduceEq, Int.reduceLT, Int.reduceLE, Int.reduceNeg, Int.reduceAdd, Int.reduceSub, Int.reduceMul, Int.reduceToNat, Nat.reduceAdd, noUnk, AV.cells, reduceCtorEq, Nat.reduceLeDiff, Cells.get, Cells.getN, Nat.reduceMul, ↓bnd_assoc], by simp only [↓sxp, sxq, ↓reduceIte, Nat.reduceBEq, Nat.reduceLT, evP, evX, evR, blkOf, evA, storeA, Nat.reduceEqDiff, resL, resV, oneOrTup, Int.reduceEq, Int.reduceLT, Int.reduceLE, Int.reduceNeg, Int.reduceAdd, Int.reduceSub, Int.reduceMul, Int.reduceToNat, Nat.reduceAdd, noUnk, AV.cells, reduceCtorEq, Nat.reduceLeDiff, Cells.get, Cells.getN, Nat.reduceMul, ↓bnd_assoc]⟩⟩
          · have hw2 : IntKind.i64.wrap (y3 + 1) = y3 + 1 := w64 (by omega)
            simp only [hlp, h0, h1, h6, h7, hlt, hlt0, and_self, ↓hq, ↓hg, q1, q2, q3, e1, e2, e3, e4, hw, hw2, Int.toNat_natCast, ↓sxp, sxq, ↓reduceIte, Nat.reduceBEq, Nat.reduceLT, evP, evX, evR, blkOf, evA, storeA, Nat.reduceEqDiff, resL, resV, oneOrTup, Int.reduceEq, Int.reduceLT, Int.reduceLE, Int.reduceNeg, Int.reduceAdd, Int.reduceSub, Int.reduceMul, Int.reduceToNat, Nat.reduceAdd, noUnk, AV.cells, reduceCtorEq, Nat.reduceLeDiff, Cells.get, Cells.getN, Nat.reduceMul, ↓bnd_assoc]
            refine loop_mono (ih (i + 1) (y3 + 1) _ (by omega) (by omega) (by simp only [h0, ↓sxp, sxq, ↓reduceIte, Nat.reduceBEq, Nat.reduceLT, evP, evX, evR, blkOf, evA, storeA, Nat.reduceEqDiff, resL, resV, oneOrTup, Int.reduceEq, Int.reduceLT, Int.reduceLE, Int.reduceNeg, Int.reduceAdd, Int.reduceSub, Int.reduceMul, Int.reduceToNat, Nat.reduceAdd, noUnk, AV.cells, reduceCtorEq, Nat.reduceLeDiff, Cells.get, Cells.getN, Nat.reduceMul, ↓bnd_assoc]) (by simp only [h1, ↓sxp, sxq, ↓reduceIte, Nat.reduceBEq, Nat.reduceLT, evP, evX, evR, blkOf, evA, storeA, Nat.reduceEqDiff, resL, resV, oneOrTup, Int.reduceEq, Int.reduceLT, Int.reduceLE, Int.reduceNeg, Int.reduceAdd, Int.reduceSub, Int.reduceMul, Int.reduceToNat, Nat.reduceAdd, noUnk, AV.cells, reduceCtorEq, Nat.reduceLeDiff, Cells.get, Cells.getN, Nat.reduceMul, ↓bnd_assoc]) (by simp only [↓sxp, sxq, ↓reduceIte, Nat.reduceBEq, Nat.reduceLT, evP, evX, evR, blkOf, evA, storeA, Nat.reduceEqDiff, resL, resV, oneOrTup, Int.reduceEq, Int.reduceLT, Int.reduceLE, Int.reduceNeg, Int.reduceAdd, Int.reduceSub, Int.reduceMul, Int.reduceToNat, Nat.reduceAdd, noUnk, AV.cells, reduceCtorEq, Nat.reduceLeDiff, Cells.get, Cells.getN, Nat.reduceMul, ↓bnd_assoc]) (by simp only [↓sxp, sxq, ↓reduceIte, Nat.reduceBEq, Nat.reduceLT, evP, evX, evR, blkOf, evA, storeA, Nat.reduceEqDiff, resL, resV, oneOrTup, Int.reduceEq, Int.reduceLT, Int.reduceLE, Int.reduceNeg, Int.reduceAdd, Int.reduceSub, Int.reduceMul, Int.reduceToNat, Nat.reduceAdd, noUnk, AV.cells, reduceCtorEq, Nat.reduceLeDiff, Cells.get, Cells.getN, Nat.reduceMul, ↓bnd_assoc])) fun lv A' H' ⟨hh, hr⟩ => ⟨hh, ?_⟩
            simpa [drB, e1, e2, e3, e4] using hr
        · simp only [hlp, h0, h1, h6, h7, hlt, hlt0, and_self, ↓hq, ↓hg, q1, q2, q3, e1, e2, e3, hw, Int.toNat_natCast, ↓sxp, sxq, ↓reduceIte, Nat.reduceBEq, Nat.reduceLT, evP, evX, evR, blkOf, evA, storeA, Nat.reduceEqDiff, resL, resV, oneOrTup, Int.reduceEq, Int.reduceLT, Int.reduceLE, Int.reduceNeg, Int.reduceAdd, Int.reduceSub, Int.reduceMul, Int.reduceToNat, Nat.reduceAdd, noUnk, AV.cells, reduceCtorEq, Nat.reduceLeDiff, Cells.get, Cells.getN, Nat.reduceMul, ↓bnd_assoc]
          refine loop_mono (ih (i + 1) b _ (by omega) (by omega) (by simp only [h0, ↓sxp, sxq, ↓reduceIte, Nat.reduceBEq, Nat.reduceLT, evP, evX, evR, blkOf, evA, storeA, Nat.reduceEqDiff, resL, resV, oneOrTup, Int.reduceEq, Int.reduceLT, Int.reduceLE, Int.reduceNeg, Int.reduceAdd, Int.reduceSub, Int.reduceMul, Int.reduceToNat, Nat.reduceAdd, noUnk, AV.cells, reduceCtorEq, Nat.reduceLeDiff, Cells.get, Cells.getN, Nat.reduceMul, ↓bnd_assoc]) (by simp only [h1, ↓sxp, sxq, ↓reduceIte, Nat.reduceBEq, Nat.reduceLT, evP, evX, evR, blkOf, evA, storeA, Nat.reduceEqDiff, resL, resV, oneOrTup, Int.reduceEq, Int.reduceLT, Int.reduceLE, Int.reduceNeg, Int.reduceAdd, Int.reduceSub, Int.reduceMul, Int.reduceToNat, Nat.reduceAdd, noUnk, AV.cells, reduceCtorEq, Nat.reduceLeDiff, Cells.get, Cells.getN, Nat.reduceMul, ↓bnd_assoc]) (by simp only [h6, ↓sxp, sxq, ↓reduceIte, Nat.reduceBEq, Nat.reduceLT, evP, evX, evR, blkOf, evA, storeA, Nat.reduceEqDiff, resL, resV, oneOrTup, Int.reduceEq, Int.reduceLT, Int.reduceLE, Int.reduceNeg, Int.reduceAdd, Int.reduceSub, Int.reduceMul, Int.reduceToNat, Nat.reduceAdd, noUnk, AV.cells, reduceCtorEq, Nat.reduceLeDiff, Cells.get, Cells.getN, Nat.reduceMul, ↓bnd_assoc]) (by simp only [↓sxp, sxq, ↓reduceIte, Nat.reduceBEq, Nat.reduceLT, evP, evX, evR, blkOf, evA, storeA, Nat.reduceEqDiff, resL, resV, oneOrTup, Int.reduceEq, Int.reduceLT, Int.reduceLE, Int.reduceNeg, Int.reduceAdd, Int.reduceSub, Int.reduceMul, Int.reduceToNat, Nat.reduceAdd, noUnk, AV.cells, reduceCtorEq, Nat.reduceLeDiff, Cells.get, Cells.getN, Nat.reduceMul, ↓bnd_assoc])) fun lv A' H' ⟨hh, hr⟩ => ⟨hh, ?_⟩
          simpa [drB, e1, e2, e3] using hr
      · simp only [hlp, h0, h1, h6, h7, hlt, hlt0, and_self, ↓hq, ↓hg, q1, q2, q3, e1, e2, hw, Int.toNat_natCast, ↓sxp, sxq, ↓reduceIte, Nat.reduceBEq, Nat.reduceLT, evP, evX, evR, blkOf, evA, storeA, Nat.reduceEqDiff, resL, resV, oneOrTup, Int.reduceEq, Int.reduceLT, Int.reduceLE, Int.reduceNeg, Int.reduceAdd, Int.reduceSub, Int.reduceMul, Int.reduceToNat, Nat.reduceAdd, noUnk, AV.cells, reduceCtorEq, Nat.reduceLeDiff, Cells.get, Cells.getN, Nat.reduceMul, ↓bnd_assoc]
        refine loop_mono (ih (i + 1) b _ (by omega) (by omega) (by simp only [h0, ↓sxp, sxq, ↓reduceIte, Nat.reduceBEq, Nat.reduceLT, evP, evX, evR, blkOf, evA, storeA, Nat.reduceEqDiff, resL, resV, oneOrTup, Int.reduceEq, Int.reduceLT, Int.reduceLE, Int.reduceNeg, Int.reduceAdd, Int.reduceSub, Int.reduceMul, Int.reduceToNat, Nat.reduceAdd, noUnk, AV.cells, reduceCtorEq, Nat.reduceLeDiff, Cells.get, Cells.getN, Nat.reduceMul, ↓bnd_assoc]) (by simp only [h1, ↓sxp, sxq, ↓reduceIte, Nat.reduceBEq, Nat.reduceLT, evP, evX, evR, blkOf, evA, storeA, Nat.reduceEqDiff, resL, resV, oneOrTup, Int.reduceEq, Int.reduceLT, Int.reduceLE, Int.reduceNeg, Int.reduceAdd, Int.reduceSub, Int.reduceMul, Int.reduceToNat, Nat.reduceAdd, noUnk, AV.cells, reduceCtorEq, Nat.reduceLeDiff, Cells.get, Cells.getN, Nat.reduceMul, ↓bnd_assoc]) (by simp only [h6, ↓sxp, sxq, ↓reduceIte, Nat.reduceBEq, Nat.reduceLT, evP, evX, evR, blkOf, evA, storeA, Nat.reduceEqDiff, resL, resV, oneOrTup, Int.reduceEq, Int.reduceLT, Int.reduceLE, Int.reduceNeg, Int.reduceAdd, Int.reduceSub, Int.reduceMul, Int.reduceToNat, Nat.reduceAdd, noUnk, AV.cells, reduceCtorEq, Nat.reduceLeDiff, Cells.get, Cells.getN, Nat.reduceMul, ↓bnd_assoc]) (by simp only [↓sxp, sxq, ↓reduceIte, Nat.reduceBEq, Nat.reduceLT, evP, evX, evR, blkOf, evA, storeA, Nat.reduceEqDiff, resL, resV, oneOrTup, Int.reduceEq, Int.reduceLT, Int.reduceLE, Int.reduceNeg, Int.reduceAdd, Int.reduceSub, Int.reduceMul, Int.reduceToNat, Nat.reduceAdd, noUnk, AV.cells, reduceCtorEq, Nat.reduceLeDiff, Cells.get, Cells.getN, Nat.reduceMul, ↓bnd_assoc])) fun lv A' H' ⟨hh, hr⟩ => ⟨hh, ?_⟩
        simpa [drB, e1, e2] using hr
    · simp only [hlp, h0, h1, h6, h7, hlt, hlt0, and_self, ↓hq, ↓hg, q1, q2, q3, e1, hw, Int.toNat_natCast, ↓sxp, sxq, ↓reduceIte, Nat.reduceBEq, Nat.reduceLT, evP, evX, evR, blkOf, evA, storeA, Nat.reduceEqDiff, resL, resV, oneOrTup, Int.reduceEq, Int.reduceLT, Int.reduceLE, Int.reduceNeg, Int.reduceAdd, Int.reduceSub, Int.reduceMul, Int.reduceToNat, Nat.reduceAdd, noUnk, AV.cells, reduceCtorEq, Nat.reduceLeDiff, Cells.get, Cells.getN, Nat.reduceMul, ↓bnd_assoc]
      refine loop_mono (ih (i + 1) b _ (by omega) (by omega) (by simp only [h0, ↓sxp, sxq, ↓reduceIte, Nat.reduceBEq, Nat.reduceLT, evP, evX, evR, blkOf, evA, storeA, Nat.reduceEqDiff, resL, resV, oneOrTup, Int.reduceEq, Int.reduceLT, Int.reduceLE, Int.reduceNeg, Int.reduceAdd, Int.reduceSub, Int.reduceMul, Int.reduceToNat, Nat.reduceAdd, noUnk, AV.cells, reduceCtorEq, Nat.reduceLeDiff, Cells.get, Cells.getN, Nat.reduceMul, ↓bnd_assoc]) (by simp only [h1, ↓sxp, sxq, ↓reduceIte, Nat.reduceBEq, Nat.reduceLT, evP, evX, evR, blkOf, evA, storeA, Nat.reduceEqDiff, resL, resV, oneOrTup, Int.reduceEq, Int.reduceLT, Int.reduceLE, Int.reduceNeg, Int.reduceAdd, Int.reduceSub, Int.reduceMul, Int.reduceToNat, Nat.reduceAdd, noUnk, AV.cells, reduceCtorEq, Nat.reduceLeDiff, Cells.get, Cells.getN, Nat.reduceMul, ↓bnd_assoc]) (by simp only [h6, ↓sxp, sxq, ↓reduceIte, Nat.reduceBEq, Nat.reduceLT, evP, evX, evR, blkOf, evA, storeA, Nat.reduceEqDiff, resL, resV, oneOrTup, Int.reduceEq, Int.reduceLT, Int.reduceLE, Int.reduceNeg, Int.reduceAdd, Int.reduceSub, Int.reduceMul, Int.reduceToNat, Nat.reduceAdd, noUnk, AV.cells, reduceCtorEq, Nat.reduceLeDiff, Cells.get, Cells.getN, Nat.reduceMul, ↓bnd_assoc]) (by simp only [↓sxp, sxq, ↓reduceIte, Nat.reduceBEq, Nat.reduceLT, evP, evX, evR, blkOf, evA, storeA, Nat.reduceEqDiff, resL, resV, oneOrTup, Int.reduceEq, Int.reduceLT, Int.reduceLE, Int.reduceNeg, Int.reduceAdd, Int.reduceSub, Int.reduceMul, Int.reduceToNat, Nat.reduceAdd, noUnk, AV.cells, reduceCtorEq, Nat.reduceLeDiff, Cells.get, Cells.getN, Nat.reduceMul, ↓bnd_assoc])) fun lv A' H' ⟨hh, hr⟩ => ⟨hh, ?_⟩
      simpa [drB, e1] using hr
end
end Go.Proofs.Ytnfehkjkmlbceaa.Sx

/- Draw; lists of bytes that are the same; Text. -/
namespace Go.Proofs.Ytnfehkjkmlbceaa.Sx
open HP
section
variable {W : World} {E : Env} {H : Heap} {Γ : List HP}
theorem getN_one {c : Cells} {o n : Nat} {l : List AV} (h : c.getN o n = some l) {i : Nat} (hi : i < n) : c.get (o + i) = l[i]? := (Cells.getN_get h).2 i hi
theorem By.at {bs : List UInt8} {v : AV} {ids : List Nat} (h : By W H bs v ids) {i : Nat} (hi : i < bs.length) : ∃ p, iaddrV 1 v (.int .i64 (i : Int)) = some p ∧ loadV W H none p = some (.int .u8 (bs[i].toNat : Int)) := by
  have hcb : (cb bs)[i]? = some (.int .u8 (bs[i].toNat : Int)) := by simp [cb, List.getElem?_eq_getElem hi]
  have h0 : (0 : Int) ≤ i ∧ (i : Int) < bs.length := by omega
  cases h with
  | nil h => subst h; simp at hi
  | zero h _ _ _ => subst h; simp at hi
  | emp h => subst h; simp at hi
  | old r off cap c hb hg =>
    refine ⟨_, by simp only [iaddrV]; rw [if_pos h0], ?_⟩
    simp only [loadV, hb, Int.toNat_natCast, Nat.mul_one]
    rw [getN_one hg hi, hcb]
  | own j l cap hb =>
    refine ⟨_, by simp only [iaddrV]; rw [if_pos h0], ?_⟩
    simp only [loadV, blkOf, hb, Int.toNat_natCast, Nat.mul_one, Nat.zero_add, Cells.get, hcb]
theorem By.bump {bs : List UInt8} {v : AV} {ids : List Nat} (h : By W H bs v ids) (hw : HWf H) (n : Nat) : By W { H with next := H.next + n } bs v ids := h.keep hw (keep_bump hw (Nat.le_add_right _ _)) (by simp)
theorem byte_eq {a b : UInt8} : ((a.toNat : Int) = b.toNat) = (a = b) := by
  rw [eq_iff_iff]
  constructor
  · intro h; exact UInt8.toNat_inj.1 (by omega)
  · intro h; rw [h]
theorem same_loop {a b : List UInt8} {u v : AV} (hab : a.length = b.length) (hb : a.length < 4611686018427387904) : ∀ (m i : Nat) (A : Tm) (H : Heap) (ia ib : List Nat), i + m = a.length → getX A 0 = u → getX A 1 = v → getX A 5 = .int .i64 i → By W H a u ia → By W H b v ib →
    Holds H Γ → ∃ lv A' H', run W E (.loop lp16_0) ⟨A, [], none⟩ H = some (lv, ⟨A', [], none⟩, H') ∧ (Holds H' Γ ∧ Keep [] H H' ∧
      ((lv = .exit 0 ∧ a.drop i = b.drop i) ∨ (lv = .ret ∧ a.drop i ≠ b.drop i ∧ getX A' 4 = .bool false))) := by
  have hlp : ∀ f H, run W E lp16_0 f H = run W E lp16_0 f H := fun _ _ => rfl
  conv at hlp => enter [f, H, 2]; unfold lp16_0
  intro m
  induction m with
  | zero =>
    intro i A H ia ib him h0 h1 h5 hu hv h
    have : i = a.length := by omega
    subst this
    have hlt : ¬ (a.length : Int) < a.length := by omega
    have hl := hu.len (A := .e) (x := .c u) rfl
    have hl : lenV u = some (.int .i64 a.length) := hl
    rw [run_loop]
    simp only [hlp, h0, h5, hlt, hl, ↓sxp, sxq, ↓reduceIte, Nat.reduceBEq, Nat.reduceLT, evP, evX, evR, blkOf, evA, storeA, Nat.reduceEqDiff, resL, resV, oneOrTup, Int.reduceEq, Int.reduceLT, Int.reduceLE, Int.reduceNeg, Int.reduceAdd, Int.reduceSub, Int.reduceMul, Int.reduceToNat, Nat.reduceAdd, noUnk, AV.cells, reduceCtorEq, Nat.reduceLeDiff, Cells.get, Cells.getN, Nat.reduceMul, ↓bnd_assoc]
    exact ⟨_, _, _, rfl, h, Keep.refl h.wf [], .inl ⟨rfl, by rw [List.drop_length, hab, List.drop_length]⟩⟩
  | succ m ih =>
    intro i A H ia ib him h0 h1 h5 hu hv h
    have hlt : (i : Int) < a.length := by omega
    have hl : lenV u = some (.int .i64 a.length) := hu.len (A := .e) (x := .c u) rfl
    have hu2 := hu.bump h.wf 9
    have hv2 := hv.bump h.wf 9
    obtain ⟨p1, e1, l1⟩ := hu2.at (i := i) (by omega)
    obtain ⟨p2, e2, l2⟩ := hv2.at (i := i) (by omega)
    have hw : IntKind.i64.wrap ((i : Int) + 1) = ((i + 1 : Nat) : Int) := by rw [w64 (by omega)]; simp
    have kb := keep_bump (n := H.next + 9) h.wf (Nat.le_add_right _ _)
    rw [run_loop, List.drop_eq_getElem_cons (show i < a.length by omega), List.drop_eq_getElem_cons (show i < b.length by omega)]
    by_cases e : a[i] = b[i]
    · simp only [hlp, h0, h1, h5, hlt, hl, e1, e2, l1, l2, byte_eq, e, hw, ↓sxp, sxq, ↓reduceIte, Nat.reduceBEq, Nat.reduceLT, evP, evX, evR, blkOf, evA, storeA, Nat.reduceEqDiff, resL, resV, oneOrTup, Int.reduceEq, Int.reduceLT, Int.reduceLE, Int.reduceNeg, Int.reduceAdd, Int.reduceSub, Int.reduceMul, Int.reduceToNat, Nat.reduceAdd, noUnk, AV.cells, reduceCtorEq, Nat.reduceLeDiff, Cells.get, Cells.getN, Nat.reduceMul, ↓bnd_assoc]
      refine loop_mono (ih (i + 1) _ _ ia ib (by omega) (by simp only [h0, ↓sxp, sxq, ↓reduceIte, Nat.reduceBEq, Nat.reduceLT, evP, evX, evR, blkOf, evA, storeA, Nat.reduceEqDiff, resL, resV, oneOrTup, Int.reduceEq, Int.reduceLT, Int.reduceLE, Int.reduceNeg, Int.reduceAdd, Int.reduceSub, Int.reduceMul, Int.reduceToNat, Nat.reduceAdd, noUnk, AV.cells, reduceCtorEq, Nat.reduceLeDiff, Cells.get, Cells.getN, Nat.reduceMul, ↓bnd_assoc]) (by simp only [h1, ↓sxp, sxq, ↓reduceIte, Nat.reduceBEq, Nat.reduceLT, evP, evX, evR, blkOf, evA, storeA, Nat.reduceEqDiff, resL, resV, oneOrTup, Int.reduceEq, Int.reduceLT, Int.reduceLE, Int.reduceNeg, Int.reduceAdd, Int.reduceSub, Int.reduceMul, Int.reduceToNat, Nat.reduceAdd, noUnk, AV.cells, reduceCtorEq, Nat.reduceLeDiff, Cells.get, Cells.getN, Nat.reduceMul, ↓bnd_assoc]) (by simp only [↓sxp, sxq, ↓reduceIte, Nat.reduceBEq, Nat.reduceLT, evP, evX, evR, blkOf, evA, storeA, Nat.reduceEqDiff, resL, resV, oneOrTup, Int.reduceEq, Int.reduceLT, Int.reduceLE, Int.reduceNeg, Int.reduceAdd, Int.reduceSub, Int.reduceMul, Int.reduceToNat, Nat.reduceAdd, noUnk, AV.cells, reduceCtorEq, Nat.reduceLeDiff, Cells.get, Cells.getN, Nat.reduceMul, ↓bnd_assoc]) hu2 hv2 (h.bump 9)) fun lv A' H' ⟨hh, hk, hr⟩ => ⟨hh, by simpa using kb.trans hk, ?_⟩
      simp only [e, List.cons.injEq, true_and, ne_eq]
      exact hr
    · simp only [hlp, h0, h1, h5, hlt, hl, e1, e2, l1, l2, byte_eq, e, hw, ↓sxp, sxq, ↓reduceIte, Nat.reduceBEq, Nat.reduceLT, evP, evX, evR, blkOf, evA, storeA, Nat.reduceEqDiff, resL, resV, oneOrTup, Int.reduceEq, Int.reduceLT, Int.reduceLE, Int.reduceNeg, Int.reduceAdd, Int.reduceSub, Int.reduceMul, Int.reduceToNat, Nat.reduceAdd, noUnk, AV.cells, reduceCtorEq, Nat.reduceLeDiff, Cells.get, Cells.getN, Nat.reduceMul, ↓bnd_assoc]
      exact ⟨_, _, _, rfl, h.bump 9, kb, .inr ⟨rfl, fun hh => e (List.cons.inj hh).1, by simp only [↓sxp, sxq, ↓reduceIte, Nat.reduceBEq, Nat.reduceLT, evP, evX, evR, blkOf, evA, storeA, Nat.reduceEqDiff, resL, resV, oneOrTup, Int.reduceEq, Int.reduceLT, Int.reduceLE, Int.reduceNeg, Int.reduceAdd, Int.reduceSub, Int.reduceMul, Int.reduceToNat, Nat.reduceAdd, noUnk, AV.cells, reduceCtorEq, Nat.reduceLeDiff, Cells.get, Cells.getN, Nat.reduceMul, ↓bnd_assoc]⟩⟩
theorem w_same (hE : EnvT E) (h : Holds H Γ) {a b : List UInt8} {u v : AV} {ia ib : List Nat} (hu : By W H a u ia) (hv : By W H b v ib) (hb : a.length < 4611686018427387904) :
    ∃ H', go W E 16 [u, v] H = some (.bool (decide (a = b)), H') ∧ Holds H' Γ := by
  apply Ends.out
  have hl : lenV u = some (.int .i64 a.length) := hu.len (A := .e) (x := .c u) rfl
  have hl2 : lenV v = some (.int .i64 b.length) := hv.len (A := .e) (x := .c v) rfl
  rw [go_code hE.f16 (by simp [sf16])]
  by_cases e : a.length = b.length
  · have e' : (a.length : Int) = b.length := by omega
    simp only [sf16, hl, hl2, e', ↓sxp, sxq, ↓reduceIte, Nat.reduceBEq, Nat.reduceLT, evP, evX, evR, blkOf, evA, storeA, Nat.reduceEqDiff, resL, resV, oneOrTup, Int.reduceEq, Int.reduceLT, Int.reduceLE, Int.reduceNeg, Int.reduceAdd, Int.reduceSub, Int.reduceMul, Int.reduceToNat, Nat.reduceAdd, noUnk, AV.cells, reduceCtorEq, Nat.reduceLeDiff, Cells.get, Cells.getN, Nat.reduceMul, ↓bnd_assoc]
    refine Ends.loop (same_loop e hb a.length 0 _ _ ia ib (by omega) (by simp only [↓sxp, sxq, ↓reduceIte, Nat.reduceBEq, Nat.reduceLT, evP, evX, evR, blkOf, evA, storeA, Nat.reduceEqDiff, resL, resV, oneOrTup, Int.reduceEq, Int.reduceLT, Int.reduceLE, Int.reduceNeg, Int.reduceAdd, Int.reduceSub, Int.reduceMul, Int.reduceToNat, Nat.reduceAdd, noUnk, AV.cells, reduceCtorEq, Nat.reduceLeDiff, Cells.get, Cells.getN, Nat.reduceMul, ↓bnd_assoc]) (by simp only [↓sxp, sxq, ↓reduceIte, Nat.reduceBEq, Nat.reduceLT, evP, evX, evR, blkOf, evA, storeA, Nat.reduceEqDiff, resL, resV, oneOrTup, Int.reduceEq, Int.reduceLT, Int.reduceLE, Int.reduceNeg, Int.reduceAdd, Int.reduceSub, Int.reduceMul, Int.reduceToNat, Nat.reduceAdd, noUnk, AV.cells, reduceCtorEq, Nat.reduceLeDiff, Cells.get, Cells.getN, Nat.reduceMul, ↓bnd_assoc]) (by simp only [↓sxp, sxq, ↓reduceIte, Nat.reduceBEq, Nat.reduceLT, evP, evX, evR, blkOf, evA, storeA, Nat.reduceEqDiff, resL, resV, oneOrTup, Int.reduceEq, Int.reduceLT, Int.reduceLE, Int.reduceNeg, Int.reduceAdd, Int.reduceSub, Int.reduceMul, Int.reduceToNat, Nat.reduceAdd, noUnk, AV.cells, reduceCtorEq, Nat.reduceLeDiff, Cells.get, Cells.getN, Nat.reduceMul, ↓bnd_assoc]; rfl) hu hv h) fun lv A' H' ⟨hh, _, hr⟩ => ?_
    rw [List.drop_zero, List.drop_zero] at hr
    rcases hr with ⟨rfl, hr⟩ | ⟨rfl, hr, h4⟩
    · simp only [↓sxp, sxq, ↓reduceIte, Nat.reduceBEq, Nat.reduceLT, evP, evX, evR, blkOf, evA, storeA, Nat.reduceEqDiff, resL, resV, oneOrTup, Int.reduceEq, Int.reduceLT, Int.reduceLE, Int.reduceNeg, Int.reduceAdd, Int.reduceSub, Int.reduceMul, Int.reduceToNat, Nat.reduceAdd, noUnk, AV.cells, reduceCtorEq, Nat.reduceLeDiff, Cells.get, Cells.getN, Nat.reduceMul, ↓bnd_assoc]
      exact Ends.ret ⟨by simp [hr], hh⟩
    · simp only [h4, ↓sxp, sxq, ↓reduceIte, Nat.reduceBEq, Nat.reduceLT, evP, evX, evR, blkOf, evA, storeA, Nat.reduceEqDiff, resL, resV, oneOrTup, Int.reduceEq, Int.reduceLT, Int.reduceLE, Int.reduceNeg, Int.reduceAdd, Int.reduceSub, Int.reduceMul, Int.reduceToNat, Nat.reduceAdd, noUnk, AV.cells, reduceCtorEq, Nat.reduceLeDiff, Cells.get, Cells.getN, Nat.reduceMul, ↓bnd_assoc]
      exact Ends.ret ⟨by simp [hr], hh⟩
  · have e' : ¬ (a.length : Int) = b.length := by omega
    simp only [sf16, hl, hl2, e', ↓sxp, sxq, ↓reduceIte, Nat.reduceBEq, Nat.reduceLT, evP, evX, evR, blkOf, evA, storeA, Nat.reduceEqDiff, resL, resV, oneOrTup, Int.reduceEq, Int.reduceLT, Int.reduceLE, Int.reduceNeg, Int.reduceAdd, Int.reduceSub, Int.reduceMul, Int.reduceToNat, Nat.reduceAdd, noUnk, AV.cells, reduceCtorEq, Nat.reduceLeDiff, Cells.get, Cells.getN, Nat.reduceMul, ↓bnd_assoc]
    exact Ends.ret ⟨by simp; exact fun hab => e (by rw [hab]), h⟩
/-- A number of a sort that was not there. -/
def drawR (L : List T3) (k : Int) : Int × Int × List T3 :=
  if sortM k then (match drB k L 0 with
    | some b => (L.length, 0, L ++ [(1, k, b)])
    | none => (0, 3, L))
  else (0, 2, L)
theorem r_draw (hE : EnvT E) {q : Nat} {L : List T3} {B : List (List UInt8)} (h : Holds H (refP W q L B :: Γ)) (k : Int) (hb : L.length < 65536) :
    ∃ H', go W E 36 [.ptr (some ⟨.own q, 0⟩), .int .i64 k] H = some (.tup [.int .i64 (drawR L k).1, .int .i64 (drawR L k).2.1], H') ∧ Holds H' (refP W q (drawR L k).2.2 B :: Γ) := by
  apply Ends.out
  rw [go_code hE.f36 (by simp [sf36])]
  unfold drawR
  cases hs : sortM k with
  | false =>
    have : k < 1 ∨ 4 < k := by simp [sortM] at hs; omega
    by_cases d1 : k < 1
    · simp only [sf36, d1, ↓sxp, sxq, ↓reduceIte, Nat.reduceBEq, Nat.reduceLT, evP, evX, evR, blkOf, evA, storeA, Nat.reduceEqDiff, resL, resV, oneOrTup, Int.reduceEq, Int.reduceLT, Int.reduceLE, Int.reduceNeg, Int.reduceAdd, Int.reduceSub, Int.reduceMul, Int.reduceToNat, Nat.reduceAdd, noUnk, AV.cells, reduceCtorEq, Nat.reduceLeDiff, Cells.get, Cells.getN, Nat.reduceMul, ↓bnd_assoc]
      exact Ends.ret ⟨rfl, h⟩
    · have d2 : 4 < k := by omega
      simp only [sf36, d1, d2, ↓sxp, sxq, ↓reduceIte, Nat.reduceBEq, Nat.reduceLT, evP, evX, evR, blkOf, evA, storeA, Nat.reduceEqDiff, resL, resV, oneOrTup, Int.reduceEq, Int.reduceLT, Int.reduceLE, Int.reduceNeg, Int.reduceAdd, Int.reduceSub, Int.reduceMul, Int.reduceToNat, Nat.reduceAdd, noUnk, AV.cells, reduceCtorEq, Nat.reduceLeDiff, Cells.get, Cells.getN, Nat.reduceMul, ↓bnd_assoc]
      exact Ends.ret ⟨rfl, h⟩
  | true =>
    have : 1 ≤ k ∧ k ≤ 4 := by simpa [sortM] using hs
    have d1 : ¬ k < 1 := by omega
    have d2 : ¬ 4 < k := by omega
    simp only [sf36, d1, d2, ↓sxp, sxq, ↓reduceIte, Nat.reduceBEq, Nat.reduceLT, evP, evX, evR, blkOf, evA, storeA, Nat.reduceEqDiff, resL, resV, oneOrTup, Int.reduceEq, Int.reduceLT, Int.reduceLE, Int.reduceNeg, Int.reduceAdd, Int.reduceSub, Int.reduceMul, Int.reduceToNat, Nat.reduceAdd, noUnk, AV.cells, reduceCtorEq, Nat.reduceLeDiff, Cells.get, Cells.getN, Nat.reduceMul, ↓bnd_assoc]
    refine Ends.loop (draw_loop (k := k) hb h L.length 0 0 _ (by omega) (by omega) (by simp only [↓sxp, sxq, ↓reduceIte, Nat.reduceBEq, Nat.reduceLT, evP, evX, evR, blkOf, evA, storeA, Nat.reduceEqDiff, resL, resV, oneOrTup, Int.reduceEq, Int.reduceLT, Int.reduceLE, Int.reduceNeg, Int.reduceAdd, Int.reduceSub, Int.reduceMul, Int.reduceToNat, Nat.reduceAdd, noUnk, AV.cells, reduceCtorEq, Nat.reduceLeDiff, Cells.get, Cells.getN, Nat.reduceMul, ↓bnd_assoc]) (by simp only [↓sxp, sxq, ↓reduceIte, Nat.reduceBEq, Nat.reduceLT, evP, evX, evR, blkOf, evA, storeA, Nat.reduceEqDiff, resL, resV, oneOrTup, Int.reduceEq, Int.reduceLT, Int.reduceLE, Int.reduceNeg, Int.reduceAdd, Int.reduceSub, Int.reduceMul, Int.reduceToNat, Nat.reduceAdd, noUnk, AV.cells, reduceCtorEq, Nat.reduceLeDiff, Cells.get, Cells.getN, Nat.reduceMul, ↓bnd_assoc]) (by simp only [↓sxp, sxq, ↓reduceIte, Nat.reduceBEq, Nat.reduceLT, evP, evX, evR, blkOf, evA, storeA, Nat.reduceEqDiff, resL, resV, oneOrTup, Int.reduceEq, Int.reduceLT, Int.reduceLE, Int.reduceNeg, Int.reduceAdd, Int.reduceSub, Int.reduceMul, Int.reduceToNat, Nat.reduceAdd, noUnk, AV.cells, reduceCtorEq, Nat.reduceLeDiff, Cells.get, Cells.getN, Nat.reduceMul, ↓bnd_assoc]) (by simp only [↓sxp, sxq, ↓reduceIte, Nat.reduceBEq, Nat.reduceLT, evP, evX, evR, blkOf, evA, storeA, Nat.reduceEqDiff, resL, resV, oneOrTup, Int.reduceEq, Int.reduceLT, Int.reduceLE, Int.reduceNeg, Int.reduceAdd, Int.reduceSub, Int.reduceMul, Int.reduceToNat, Nat.reduceAdd, noUnk, AV.cells, reduceCtorEq, Nat.reduceLeDiff, Cells.get, Cells.getN, Nat.reduceMul, ↓bnd_assoc]; rfl)) fun lv A' H' ⟨hh, hr⟩ => ?_
    subst hh
    rw [List.drop_zero] at hr
    rcases hr with ⟨rfl, b, hr, hb0, a0, a1, a6⟩ | ⟨rfl, hr, a4, a5⟩
    · rw [hr]
      obtain ⟨vl, vb, fb, ho, h4⟩ := refP_open h
      obtain ⟨al, cl, rfl⟩ := (h4.ord [1]).row_len (by omega) (n := L.length) (flat3_len _)
      have gq := h4.get
      have h5 := h4.push (c := c3 (1, k, b)) (t := 33)
      have gq5 := (h5.ord [1]).get
      have g5 := h5.get
      simp only [c3] at gq5 g5
      simp only [a0, a1, a6, ↓gq, ↓gq5, ↓g5, ↓sxp, sxq, ↓reduceIte, Nat.reduceBEq, Nat.reduceLT, evP, evX, evR, blkOf, evA, storeA, Nat.reduceEqDiff, resL, resV, oneOrTup, Int.reduceEq, Int.reduceLT, Int.reduceLE, Int.reduceNeg, Int.reduceAdd, Int.reduceSub, Int.reduceMul, Int.reduceToNat, Nat.reduceAdd, noUnk, AV.cells, reduceCtorEq, Nat.reduceLeDiff, Cells.get, Cells.getN, Nat.reduceMul, ↓bnd_assoc]
      refine Ends.app (h5.ord [2]) (by omega) (by simp only [srcA, blkOf, c3, g5, Nat.one_mul]; rfl) (by omega) (new := c3 (1, k, b)) (n := L.length) rfl rfl (flat3_len _) (by omega) fun v' H6 h6 => ?_
      obtain ⟨ay, cy, hv⟩ := h6.row_len (by omega) (n := L.length + 1) (by rw [flat3_app, flat3_len]; simp)
      subst hv
      have gq6 := (h6.ord [2]).get
      simp only [↓gq6, ↓sxp, sxq, ↓reduceIte, Nat.reduceBEq, Nat.reduceLT, evP, evX, evR, blkOf, evA, storeA, Nat.reduceEqDiff, resL, resV, oneOrTup, Int.reduceEq, Int.reduceLT, Int.reduceLE, Int.reduceNeg, Int.reduceAdd, Int.reduceSub, Int.reduceMul, Int.reduceToNat, Nat.reduceAdd, noUnk, AV.cells, reduceCtorEq, Nat.reduceLeDiff, Cells.get, Cells.getN, Nat.reduceMul, ↓bnd_assoc]
      refine Ends.write [.sl ay (L.length + 1) cy, vb] (h6.ord [2]) rfl (by simp) rfl fun H7 h7 => ?_
      have gq7 := h7.get
      have hw : IntKind.i64.wrap (((L.length + 1 : Nat) : Int) - 1) = L.length := by rw [w64 (by omega)]; omega
      simp only [a0, ↓gq7, hw, ↓sxp, sxq, ↓reduceIte, Nat.reduceBEq, Nat.reduceLT, evP, evX, evR, blkOf, evA, storeA, Nat.reduceEqDiff, resL, resV, oneOrTup, Int.reduceEq, Int.reduceLT, Int.reduceLE, Int.reduceNeg, Int.reduceAdd, Int.reduceSub, Int.reduceMul, Int.reduceToNat, Nat.reduceAdd, noUnk, AV.cells, reduceCtorEq, Nat.reduceLeDiff, Cells.get, Cells.getN, Nat.reduceMul, ↓bnd_assoc]
      rw [flat3_app] at h7
      exact Ends.ret ⟨rfl, refP_shut ho (h7.rm 2)⟩
    · rw [hr]
      simp only [a4, a5, ↓sxp, sxq, ↓reduceIte, Nat.reduceBEq, Nat.reduceLT, evP, evX, evR, blkOf, evA, storeA, Nat.reduceEqDiff, resL, resV, oneOrTup, Int.reduceEq, Int.reduceLT, Int.reduceLE, Int.reduceNeg, Int.reduceAdd, Int.reduceSub, Int.reduceMul, Int.reduceToNat, Nat.reduceAdd, noUnk, AV.cells, reduceCtorEq, Nat.reduceLeDiff, Cells.get, Cells.getN, Nat.reduceMul, ↓bnd_assoc]
      exact Ends.ret ⟨rfl, h⟩
end
end Go.Proofs.Ytnfehkjkmlbceaa.Sx

/- The document's store: Text, Size. -/
namespace Go.Proofs.Ytnfehkjkmlbceaa.Sx
open HP
section
variable {W : World} {E : Env} {H : Heap} {Γ : List HP}
def idxB (b : List UInt8) : List (List UInt8) → Option Nat
  | [] => none
  | c :: B => if c = b then some 0 else (idxB b B).map (· + 1)
theorem text_loop (hE : EnvT E) {q : Nat} {L : List T3} {B : List (List UInt8)} {b : List UInt8} {v : AV} (hv : OldBy W b v) (hL : L.length < 65536) (hB : B.length < 65536) (hBl : ∀ c ∈ B, c.length ≤ 1048576) : ∀ (m i : Nat) (A : Tm) (H : Heap), i + m = B.length → getX A 0 = .ptr (some ⟨.own q, 0⟩) → getX A 1 = v → getX A 5 = .int .i64 i →
    Holds H (refP W q L B :: Γ) → ∃ lv A' H', run W E (.loop lp37_0) ⟨A, [], none⟩ H = some (lv, ⟨A', [], none⟩, H') ∧ (Holds H' (refP W q L B :: Γ) ∧
      ((lv = .exit 0 ∧ idxB b (B.drop i) = none ∧ getX A' 0 = .ptr (some ⟨.own q, 0⟩) ∧ getX A' 1 = v) ∨ (lv = .ret ∧ ∃ n : Nat, idxB b (B.drop i) = some n ∧ getX A' 4 = .int .i64 (findR L (9, ((i + n : Nat) : Int), 0))))) := by
  have hlp : ∀ f H, run W E lp37_0 f H = run W E lp37_0 f H := fun _ _ => rfl
  conv at hlp => enter [f, H, 2]; unfold lp37_0
  intro m
  induction m with
  | zero =>
    intro i A H him h0 h1 h5 h
    have : i = B.length := by omega
    subst this
    obtain ⟨vl, vb, fb, al, cl, ab, cb', rfl, rfl, ho, hq, hl, hb'⟩ := refP_facts h
    have hlt : ¬ (B.length : Int) < B.length := by omega
    rw [run_loop]
    simp only [hlp, h0, h5, hlt, ↓hq, ↓sxp, sxq, ↓reduceIte, Nat.reduceBEq, Nat.reduceLT, evP, evX, evR, blkOf, evA, storeA, Nat.reduceEqDiff, resL, resV, oneOrTup, Int.reduceEq, Int.reduceLT, Int.reduceLE, Int.reduceNeg, Int.reduceAdd, Int.reduceSub, Int.reduceMul, Int.reduceToNat, Nat.reduceAdd, noUnk, AV.cells, reduceCtorEq, Nat.reduceLeDiff, Cells.get, Cells.getN, Nat.reduceMul, ↓bnd_assoc]
    exact ⟨_, _, _, rfl, h, .inl ⟨rfl, by simp [idxB], by simp only [h0, ↓sxp, sxq, ↓reduceIte, Nat.reduceBEq, Nat.reduceLT, evP, evX, evR, blkOf, evA, storeA, Nat.reduceEqDiff, resL, resV, oneOrTup, Int.reduceEq, Int.reduceLT, Int.reduceLE, Int.reduceNeg, Int.reduceAdd, Int.reduceSub, Int.reduceMul, Int.reduceToNat, Nat.reduceAdd, noUnk, AV.cells, reduceCtorEq, Nat.reduceLeDiff, Cells.get, Cells.getN, Nat.reduceMul, ↓bnd_assoc], by simp only [h1, ↓sxp, sxq, ↓reduceIte, Nat.reduceBEq, Nat.reduceLT, evP, evX, evR, blkOf, evA, storeA, Nat.reduceEqDiff, resL, resV, oneOrTup, Int.reduceEq, Int.reduceLT, Int.reduceLE, Int.reduceNeg, Int.reduceAdd, Int.reduceSub, Int.reduceMul, Int.reduceToNat, Nat.reduceAdd, noUnk, AV.cells, reduceCtorEq, Nat.reduceLeDiff, Cells.get, Cells.getN, Nat.reduceMul, ↓bnd_assoc]⟩⟩
  | succ m ih =>
    intro i A H him h0 h1 h5 h
    obtain ⟨vl, vb, fb, al, cl, ab, cb', rfl, rfl, ho, hq, hl, hb'⟩ := refP_facts h
    obtain ⟨j, l, rfl, hg⟩ := hb' (by omega)
    have hlt : (i : Int) < B.length := by omega
    have hlt0 : (0 : Int) ≤ i ∧ (i : Int) < B.length := by omega
    obtain ⟨vi, hvi, hoi⟩ := ho.get (i := i) (by omega)
    have hil : B[i].length ≤ 1048576 := hBl _ (List.getElem_mem _)
    obtain ⟨H2, e2, h2⟩ := w_same hE h (hoi H) (hv H) (by omega)
    have hw : IntKind.i64.wrap ((i : Int) + 1) = ((i + 1 : Nat) : Int) := by rw [w64 (by omega)]; simp
    rw [run_loop, List.drop_eq_getElem_cons (show i < B.length by omega)]
    by_cases e : B[i] = b
    · rw [decide_eq_true e] at e2
      obtain ⟨H3, e3, h3⟩ := r_find hE h2 (9, (i : Int), 0) hL
      simp only [c3] at e3
      simp only [hlp, h0, h1, h5, hlt, hlt0, and_self, ↓hq, ↓hg, hvi, e2, e3, hw, Int.toNat_natCast, ↓sxp, sxq, ↓reduceIte, Nat.reduceBEq, Nat.reduceLT, evP, evX, evR, blkOf, evA, storeA, Nat.reduceEqDiff, resL, resV, oneOrTup, Int.reduceEq, Int.reduceLT, Int.reduceLE, Int.reduceNeg, Int.reduceAdd, Int.reduceSub, Int.reduceMul, Int.reduceToNat, Nat.reduceAdd, noUnk, AV.cells, reduceCtorEq, Nat.reduceLeDiff, Cells.get, Cells.getN, Nat.reduceMul, ↓bnd_assoc]
      exact ⟨_, _, _, rfl, h3, .inr ⟨rfl, 0, by simp only [idxB, e, if_true], by simp only [↓sxp, sxq, ↓reduceIte, Nat.reduceBEq, Nat.reduceLT, evP, evX, evR, blkOf, evA, storeA, Nat.reduceEqDiff, resL, resV, oneOrTup, Int.reduceEq, Int.reduceLT, Int.reduceLE, Int.reduceNeg, Int.reduceAdd, Int.reduceSub, Int.reduceMul, Int.reduceToNat, Nat.reduceAdd, noUnk, AV.cells, reduceCtorEq, Nat.reduceLeDiff, Cells.get, Cells.getN, Nat.reduceMul, ↓bnd_assoc]⟩⟩
    · rw [decide_eq_false e] at e2
      simp only [hlp, h0, h1, h5, hlt, hlt0, and_self, ↓hq, ↓hg, hvi, e2, hw, Int.toNat_natCast, ↓sxp, sxq, ↓reduceIte, Nat.reduceBEq, Nat.reduceLT, evP, evX, evR, blkOf, evA, storeA, Nat.reduceEqDiff, resL, resV, oneOrTup, Int.reduceEq, Int.reduceLT, Int.reduceLE, Int.reduceNeg, Int.reduceAdd, Int.reduceSub, Int.reduceMul, Int.reduceToNat, Nat.reduceAdd, noUnk, AV.cells, reduceCtorEq, Nat.reduceLeDiff, Cells.get, Cells.getN, Nat.reduceMul, ↓bnd_assoc]
      refine loop_mono (ih (i + 1) _ _ (by omega) (by simp only [h0, ↓sxp, sxq, ↓reduceIte, Nat.reduceBEq, Nat.reduceLT, evP, evX, evR, blkOf, evA, storeA, Nat.reduceEqDiff, resL, resV, oneOrTup, Int.reduceEq, Int.reduceLT, Int.reduceLE, Int.reduceNeg, Int.reduceAdd, Int.reduceSub, Int.reduceMul, Int.reduceToNat, Nat.reduceAdd, noUnk, AV.cells, reduceCtorEq, Nat.reduceLeDiff, Cells.get, Cells.getN, Nat.reduceMul, ↓bnd_assoc]) (by simp only [h1, ↓sxp, sxq, ↓reduceIte, Nat.reduceBEq, Nat.reduceLT, evP, evX, evR, blkOf, evA, storeA, Nat.reduceEqDiff, resL, resV, oneOrTup, Int.reduceEq, Int.reduceLT, Int.reduceLE, Int.reduceNeg, Int.reduceAdd, Int.reduceSub, Int.reduceMul, Int.reduceToNat, Nat.reduceAdd, noUnk, AV.cells, reduceCtorEq, Nat.reduceLeDiff, Cells.get, Cells.getN, Nat.reduceMul, ↓bnd_assoc]) (by simp only [↓sxp, sxq, ↓reduceIte, Nat.reduceBEq, Nat.reduceLT, evP, evX, evR, blkOf, evA, storeA, Nat.reduceEqDiff, resL, resV, oneOrTup, Int.reduceEq, Int.reduceLT, Int.reduceLE, Int.reduceNeg, Int.reduceAdd, Int.reduceSub, Int.reduceMul, Int.reduceToNat, Nat.reduceAdd, noUnk, AV.cells, reduceCtorEq, Nat.reduceLeDiff, Cells.get, Cells.getN, Nat.reduceMul, ↓bnd_assoc]) h2) fun lv A' H' ⟨hh, hr⟩ => ⟨hh, ?_⟩
      rcases hr with ⟨r1, r2, r3⟩ | ⟨r1, n, r2, r3⟩
      · exact .inl ⟨r1, by simp only [idxB, e, if_false, r2, Option.map_none], r3⟩
      · exact .inr ⟨r1, n + 1, by simp only [idxB, e, if_false, r2, Option.map_some], by rw [r3, show i + 1 + n = i + (n + 1) from by omega]⟩
def textR (L : List T3) (B : List (List UInt8)) (b : List UInt8) : Int × List T3 × List (List UInt8) := match idxB b B with
  | some n => (findR L (9, (n : Int), 0), L, B)
  | none => (L.length, L ++ [(9, (B.length : Int), 0)], B ++ [b])
theorem r_text (hE : EnvT E) {q : Nat} {L : List T3} {B : List (List UInt8)} (h : Holds H (refP W q L B :: Γ)) {b : List UInt8} {v : AV} (hv : OldBy W b v) (hL : L.length < 65536) (hB : B.length < 65536) (hBl : ∀ c ∈ B, c.length ≤ 1048576) :
    ∃ H', go W E 37 [.ptr (some ⟨.own q, 0⟩), v] H = some (.int .i64 (textR L B b).1, H') ∧ Holds H' (refP W q (textR L B b).2.1 (textR L B b).2.2 :: Γ) := by
  apply Ends.out
  rw [go_code hE.f37 (by simp [sf37])]
  simp only [sf37, ↓sxp, sxq, ↓reduceIte, Nat.reduceBEq, Nat.reduceLT, evP, evX, evR, blkOf, evA, storeA, Nat.reduceEqDiff, resL, resV, oneOrTup, Int.reduceEq, Int.reduceLT, Int.reduceLE, Int.reduceNeg, Int.reduceAdd, Int.reduceSub, Int.reduceMul, Int.reduceToNat, Nat.reduceAdd, noUnk, AV.cells, reduceCtorEq, Nat.reduceLeDiff, Cells.get, Cells.getN, Nat.reduceMul, ↓bnd_assoc]
  refine Ends.loop (text_loop hE hv hL hB hBl B.length 0 _ _ (by omega) (by simp only [↓sxp, sxq, ↓reduceIte, Nat.reduceBEq, Nat.reduceLT, evP, evX, evR, blkOf, evA, storeA, Nat.reduceEqDiff, resL, resV, oneOrTup, Int.reduceEq, Int.reduceLT, Int.reduceLE, Int.reduceNeg, Int.reduceAdd, Int.reduceSub, Int.reduceMul, Int.reduceToNat, Nat.reduceAdd, noUnk, AV.cells, reduceCtorEq, Nat.reduceLeDiff, Cells.get, Cells.getN, Nat.reduceMul, ↓bnd_assoc]) (by simp only [↓sxp, sxq, ↓reduceIte, Nat.reduceBEq, Nat.reduceLT, evP, evX, evR, blkOf, evA, storeA, Nat.reduceEqDiff, resL, resV, oneOrTup, Int.reduceEq, Int.reduceLT, Int.reduceLE, Int.reduceNeg, Int.reduceAdd, Int.reduceSub, Int.reduceMul, Int.reduceToNat, Nat.reduceAdd, noUnk, AV.cells, reduceCtorEq, Nat.reduceLeDiff, Cells.get, Cells.getN, Nat.reduceMul, ↓bnd_assoc]) (by simp only [↓sxp, sxq, ↓reduceIte, Nat.reduceBEq, Nat.reduceLT, evP, evX, evR, blkOf, evA, storeA, Nat.reduceEqDiff, resL, resV, oneOrTup, Int.reduceEq, Int.reduceLT, Int.reduceLE, Int.reduceNeg, Int.reduceAdd, Int.reduceSub, Int.reduceMul, Int.reduceToNat, Nat.reduceAdd, noUnk, AV.cells, reduceCtorEq, Nat.reduceLeDiff, Cells.get, Cells.getN, Nat.reduceMul, ↓bnd_assoc]; rfl) h) fun lv A' H' ⟨hh, hr⟩ => ?_
  rw [List.drop_zero] at hr
  unfold textR
  rcases hr with ⟨rfl, hr, a0, a1⟩ | ⟨rfl, n, hr, a4⟩
  · rw [hr]
    have hvo : oneC v = true := noUnk_by (hv H)
    obtain ⟨vl, vb, fb, ho, h4⟩ := refP_open hh
    obtain ⟨al, cl, rfl⟩ := (h4.ord [1]).row_len (by omega) (n := L.length) (flat3_len _)
    have gq := h4.get
    have h5 := h4.push (c := [v]) (t := 34)
    have g5 := h5.get
    have gq5 := (h5.ord [1]).get
    simp only [a0, a1, ↓gq, ↓gq5, hvo, ↓sxp, sxq, ↓reduceIte, Nat.reduceBEq, Nat.reduceLT, evP, evX, evR, blkOf, evA, storeA, Nat.reduceEqDiff, resL, resV, oneOrTup, Int.reduceEq, Int.reduceLT, Int.reduceLE, Int.reduceNeg, Int.reduceAdd, Int.reduceSub, Int.reduceMul, Int.reduceToNat, Nat.reduceAdd, noUnk, AV.cells, reduceCtorEq, Nat.reduceLeDiff, Cells.get, Cells.getN, Nat.reduceMul, ↓bnd_assoc]
    refine Ends.app (h5.ord [3]) (by omega) (by simp only [srcA, blkOf, g5, Nat.one_mul]; rfl) (by omega) (new := [v]) (n := B.length) rfl (by simp [hvo]) (by rw [ho.len]; omega) (by omega) fun vb' H6 h6 => ?_
    obtain ⟨ay, cy, hv'⟩ := h6.row_len (by omega) (n := B.length + 1) (by simp [ho.len])
    subst hv'
    have gq6 := (h6.ord [2]).get
    simp only [↓gq6, ↓sxp, sxq, ↓reduceIte, Nat.reduceBEq, Nat.reduceLT, evP, evX, evR, blkOf, evA, storeA, Nat.reduceEqDiff, resL, resV, oneOrTup, Int.reduceEq, Int.reduceLT, Int.reduceLE, Int.reduceNeg, Int.reduceAdd, Int.reduceSub, Int.reduceMul, Int.reduceToNat, Nat.reduceAdd, noUnk, AV.cells, reduceCtorEq, Nat.reduceLeDiff, Cells.get, Cells.getN, Nat.reduceMul, ↓bnd_assoc]
    refine Ends.write [.sl al L.length cl, .sl ay (B.length + 1) cy] (h6.ord [2]) rfl (by simp) rfl fun H7 h7 => ?_
    have gq7 := h7.get
    have h8 := (h7.bump1 17 12).lay (c := c3 (9, (B.length : Int), 0)) (t := 33)
    have gq8 := (h8.ord [1]).get
    have g8 := h8.get
    simp only [c3] at gq8 g8
    have hw : IntKind.i64.wrap (((B.length + 1 : Nat) : Int) - 1) = B.length := by rw [w64 (by omega)]; omega
    simp only [a0, ↓gq7, ↓gq8, hw, ↓sxp, sxq, ↓reduceIte, Nat.reduceBEq, Nat.reduceLT, evP, evX, evR, blkOf, evA, storeA, Nat.reduceEqDiff, resL, resV, oneOrTup, Int.reduceEq, Int.reduceLT, Int.reduceLE, Int.reduceNeg, Int.reduceAdd, Int.reduceSub, Int.reduceMul, Int.reduceToNat, Nat.reduceAdd, noUnk, AV.cells, reduceCtorEq, Nat.reduceLeDiff, Cells.get, Cells.getN, Nat.reduceMul, ↓bnd_assoc]
    refine Ends.app (h8.ord [4]) (by omega) (by simp only [srcA, blkOf, c3, g8, Nat.one_mul]; rfl) (by omega) (new := c3 (9, (B.length : Int), 0)) (n := L.length) rfl rfl (flat3_len _) (by omega) fun v' H9 h9 => ?_
    obtain ⟨az, cz, hv''⟩ := h9.row_len (by omega) (n := L.length + 1) (by rw [flat3_app, flat3_len]; simp)
    subst hv''
    have gq9 := (h9.ord [2]).get
    simp only [↓gq9, ↓sxp, sxq, ↓reduceIte, Nat.reduceBEq, Nat.reduceLT, evP, evX, evR, blkOf, evA, storeA, Nat.reduceEqDiff, resL, resV, oneOrTup, Int.reduceEq, Int.reduceLT, Int.reduceLE, Int.reduceNeg, Int.reduceAdd, Int.reduceSub, Int.reduceMul, Int.reduceToNat, Nat.reduceAdd, noUnk, AV.cells, reduceCtorEq, Nat.reduceLeDiff, Cells.get, Cells.getN, Nat.reduceMul, ↓bnd_assoc]
    refine Ends.write [.sl az (L.length + 1) cz, .sl ay (B.length + 1) cy] (h9.ord [2]) rfl (by simp) rfl fun H10 h10 => ?_
    have gq10 := h10.get
    have hw2 : IntKind.i64.wrap (((L.length + 1 : Nat) : Int) - 1) = L.length := by rw [w64 (by omega)]; omega
    simp only [a0, ↓gq10, hw2, ↓sxp, sxq, ↓reduceIte, Nat.reduceBEq, Nat.reduceLT, evP, evX, evR, blkOf, evA, storeA, Nat.reduceEqDiff, resL, resV, oneOrTup, Int.reduceEq, Int.reduceLT, Int.reduceLE, Int.reduceNeg, Int.reduceAdd, Int.reduceSub, Int.reduceMul, Int.reduceToNat, Nat.reduceAdd, noUnk, AV.cells, reduceCtorEq, Nat.reduceLeDiff, Cells.get, Cells.getN, Nat.reduceMul, ↓bnd_assoc]
    rw [flat3_app] at h10
    exact Ends.ret ⟨rfl, refP_shut (ho.snoc hv) ((h10.rm 4).rm 2)⟩
  · rw [hr]
    simp only [a4, Nat.zero_add, ↓sxp, sxq, ↓reduceIte, Nat.reduceBEq, Nat.reduceLT, evP, evX, evR, blkOf, evA, storeA, Nat.reduceEqDiff, resL, resV, oneOrTup, Int.reduceEq, Int.reduceLT, Int.reduceLE, Int.reduceNeg, Int.reduceAdd, Int.reduceSub, Int.reduceMul, Int.reduceToNat, Nat.reduceAdd, noUnk, AV.cells, reduceCtorEq, Nat.reduceLeDiff, Cells.get, Cells.getN, Nat.reduceMul, ↓bnd_assoc]
    exact Ends.ret ⟨rfl, hh⟩
theorem szs_small {L : List T3} (hw : WFL L) : ∀ (i : Nat) (x : T3), L[i]? = some x → i < 19 → (szs L)[i]? = some (szRaw (szs L) x) ∧ 0 ≤ szRaw (szs L) x ∧ szRaw (szs L) x ≤ 2 ^ (i + 1) - 1 := by
  intro i
  induction i using Nat.strongRecOn with
  | ind i ih =>
    intro x hx hi
    obtain ⟨w1, w2⟩ := hw i x hx
    have hlt := (List.getElem?_eq_some_iff.1 hx).1
    have hg : ∀ a : Int, 0 ≤ a → a < i → ((szs L).take i).getD a.toNat 0 = (szs L).getD a.toNat 0 ∧ 0 ≤ (szs L).getD a.toNat 0 ∧ (szs L).getD a.toNat 0 ≤ 2 ^ i - 1 := fun a h0 h1 => by
      have hy : L[a.toNat]? = some L[a.toNat] := List.getElem?_eq_getElem (by omega)
      obtain ⟨q1, q2, q3⟩ := ih a.toNat (by omega) _ hy (by omega)
      refine ⟨by rw [List.getD_eq_getElem?_getD, List.getD_eq_getElem?_getD, List.getElem?_take_of_lt (by omega)], ?_, ?_⟩
      · rw [List.getD_eq_getElem?_getD, q1]; exact q2
      · rw [List.getD_eq_getElem?_getD, q1]
        have : (2 : Int) ^ (a.toNat + 1) ≤ 2 ^ i := by
          have : (2 : Nat) ^ (a.toNat + 1) ≤ 2 ^ i := Nat.pow_le_pow_right (by omega) (by omega)
          exact_mod_cast this
        show szRaw _ _ ≤ _
        omega
    have hp : (2 : Int) ^ (i + 1) = 2 * 2 ^ i := by rw [Int.pow_succ]; omega
    have hp0 : (1 : Int) ≤ 2 ^ i := by
      have : (1 : Nat) ≤ 2 ^ i := Nat.one_le_two_pow
      exact_mod_cast this
    have hp1 : (2 : Int) ^ (i + 1) ≤ 524288 := by
      have : (2 : Nat) ^ (i + 1) ≤ 2 ^ 19 := Nat.pow_le_pow_right (by omega) (by omega)
      have h2 : ((2 ^ (i + 1) : Nat) : Int) ≤ ((2 ^ 19 : Nat) : Int) := by exact_mod_cast this
      simpa using h2
    have key : szRaw ((szs L).take i) x = szRaw (szs L) x ∧ 0 ≤ szRaw (szs L) x ∧ szRaw (szs L) x ≤ 2 ^ (i + 1) - 1 := by
      unfold szRaw
      by_cases c1 : x.1 = 1 ∨ x.1 = 9
      · rw [if_pos c1, if_pos c1]; exact ⟨rfl, by omega, by omega⟩
      · rw [if_neg c1, if_neg c1]
        have q1 := w1 (fun e => c1 (.inl e)) (fun e => c1 (.inr e))
        obtain ⟨g1, g2, g3⟩ := hg _ q1.1 q1.2
        rw [g1]
        by_cases c2 : x.1 = 4 ∨ x.1 = 5 ∨ x.1 = 8
        · have q2 := w2 c2
          obtain ⟨g4, g5, g6⟩ := hg _ q2.1 q2.2
          rw [if_pos c2, if_pos c2, g4]
          exact ⟨rfl, by omega, by omega⟩
        · rw [if_neg c2, if_neg c2]; exact ⟨rfl, by omega, by omega⟩
    refine ⟨?_, key.2⟩
    rw [szs_get hx, szStep, key.1, if_neg (by omega)]
theorem r_size (hE : EnvT E) {q : Nat} {L : List T3} {B : List (List UInt8)} {R : HP} (hR : RefLike W q L B R) (hw : WFL L) : ∀ (n : Nat) (Γ : List HP) (H : Heap), n < L.length → n < 19 → Holds H (R :: Γ) →
    ∃ H', go W E 18 [.ptr (some ⟨.own q, 0⟩), .int .i64 n] H = some (.int .i64 ((szs L).getD n 0), H') ∧ Holds H' (R :: Γ) := by
  intro n
  induction n using Nat.strongRecOn with
  | ind n ih =>
    intro Γ H hn hn2 h
    apply Ends.out
    obtain ⟨vl, vb, fb, al, cl, ab, cb', rfl, rfl, ho, hq, hl, hb'⟩ := hR h
    obtain ⟨j, l, rfl, hg⟩ := hl (by omega)
    have hx : L[n]? = some L[n] := List.getElem?_eq_getElem hn
    have hg3 := getN3 hx
    obtain ⟨s1, s2, s3⟩ := szs_small hw n _ hx hn2
    obtain ⟨w1, w2⟩ := hw n _ hx
    generalize L[n] = x at *
    obtain ⟨k, u, w⟩ := x
    have hi0 : (0 : Int) ≤ n ∧ (n : Int) < L.length := by omega
    have hsz : (szs L).getD n 0 = szRaw (szs L) (k, u, w) := by rw [List.getD_eq_getElem?_getD, s1]; rfl
    have h1 := h.push (c := [.int .i64 0, .int .i64 0, .int .i64 0]) (t := 33)
    have g1 := h1.get
    rw [go_code hE.f18 (by simp [sf18])]
    simp only [c3] at hg3
    simp only [sf18, ↓hq, ↓hg, ↓hg3, hi0, and_self, Int.toNat_natCast, ↓sxp, sxq, ↓reduceIte, Nat.reduceBEq, Nat.reduceLT, evP, evX, evR, blkOf, evA, storeA, Nat.reduceEqDiff, resL, resV, oneOrTup, Int.reduceEq, Int.reduceLT, Int.reduceLE, Int.reduceNeg, Int.reduceAdd, Int.reduceSub, Int.reduceMul, Int.reduceToNat, Nat.reduceAdd, noUnk, AV.cells, reduceCtorEq, Nat.reduceLeDiff, Cells.get, Cells.getN, Nat.reduceMul, ↓bnd_assoc]
    refine Ends.write [.int .i64 k, .int .i64 u, .int .i64 w] h1 rfl (by simp) rfl fun H2 h2 => ?_
    have g2 := h2.get
    rw [hsz]
    have hp1 : (2 : Int) ^ (n + 1) ≤ 524288 := by
      have : (2 : Nat) ^ (n + 1) ≤ 2 ^ 19 := Nat.pow_le_pow_right (by omega) (by omega)
      have h2 : ((2 ^ (n + 1) : Nat) : Int) ≤ ((2 ^ 19 : Nat) : Int) := by exact_mod_cast this
      simpa using h2
    simp only at w1 w2 s2 s3
    by_cases c1 : k = 1
    · subst c1
      simp only [↓g2, ↓sxp, sxq, ↓reduceIte, Nat.reduceBEq, Nat.reduceLT, evP, evX, evR, blkOf, evA, storeA, Nat.reduceEqDiff, resL, resV, oneOrTup, Int.reduceEq, Int.reduceLT, Int.reduceLE, Int.reduceNeg, Int.reduceAdd, Int.reduceSub, Int.reduceMul, Int.reduceToNat, Nat.reduceAdd, noUnk, AV.cells, reduceCtorEq, Nat.reduceLeDiff, Cells.get, Cells.getN, Nat.reduceMul, ↓bnd_assoc]
      exact Ends.ret ⟨by simp [szRaw], h2.tail⟩
    by_cases c9 : k = 9
    · subst c9
      simp only [↓g2, ↓sxp, sxq, ↓reduceIte, Nat.reduceBEq, Nat.reduceLT, evP, evX, evR, blkOf, evA, storeA, Nat.reduceEqDiff, resL, resV, oneOrTup, Int.reduceEq, Int.reduceLT, Int.reduceLE, Int.reduceNeg, Int.reduceAdd, Int.reduceSub, Int.reduceMul, Int.reduceToNat, Nat.reduceAdd, noUnk, AV.cells, reduceCtorEq, Nat.reduceLeDiff, Cells.get, Cells.getN, Nat.reduceMul, ↓bnd_assoc]
      exact Ends.ret ⟨by simp [szRaw], h2.tail⟩
    obtain ⟨u0, u1⟩ := w1 c1 c9
    obtain ⟨un, rfl⟩ := Int.eq_ofNat_of_zero_le u0
    have hun : (un : Int).toNat = un := rfl
    by_cases c2 : k = 4 ∨ k = 5 ∨ k = 8
    · obtain ⟨v0, v1⟩ := w2 c2
      obtain ⟨wn, rfl⟩ := Int.eq_ofNat_of_zero_le v0
      have hwn : (wn : Int).toNat = wn := rfl
      have hsr : szRaw (szs L) (k, (un : Int), (wn : Int)) = 1 + ((szs L).getD un 0 + (szs L).getD wn 0) := by
        simp only [szRaw, c1, c9, c2, or_self, if_false, if_true, hun, hwn]
      rw [hsr] at s2 s3 ⊢
      have hbd : ∀ m : Nat, m < n → 0 ≤ (szs L).getD m 0 ∧ (szs L).getD m 0 ≤ 524288 := fun m hm => by
        have hy : L[m]? = some L[m] := List.getElem?_eq_getElem (by omega)
        obtain ⟨t1, t2, t3⟩ := szs_small hw m _ hy (by omega)
        have hp2 : (2 : Int) ^ (m + 1) ≤ 524288 := by
          have : (2 : Nat) ^ (m + 1) ≤ 2 ^ 19 := Nat.pow_le_pow_right (by omega) (by omega)
          have h2 : ((2 ^ (m + 1) : Nat) : Int) ≤ ((2 ^ 19 : Nat) : Int) := by exact_mod_cast this
          simpa using h2
        rw [List.getD_eq_getElem?_getD, t1]
        simp only [Option.getD_some]
        omega
      have b1 := hbd un (by omega)
      have b2 := hbd wn (by omega)
      have k1 : IntKind.i64.wrap (1 + (szs L).getD un 0) = 1 + (szs L).getD un 0 := w64 (by omega)
      have k2 : IntKind.i64.wrap (1 + (szs L).getD un 0 + (szs L).getD wn 0) = 1 + ((szs L).getD un 0 + (szs L).getD wn 0) := by rw [w64 (by omega)]; omega
      rcases c2 with rfl | rfl | rfl
      all_goals
        simp only [↓g2, ↓sxp, sxq, ↓reduceIte, Nat.reduceBEq, Nat.reduceLT, evP, evX, evR, blkOf, evA, storeA, Nat.reduceEqDiff, resL, resV, oneOrTup, Int.reduceEq, Int.reduceLT, Int.reduceLE, Int.reduceNeg, Int.reduceAdd, Int.reduceSub, Int.reduceMul, Int.reduceToNat, Nat.reduceAdd, noUnk, AV.cells, reduceCtorEq, Nat.reduceLeDiff, Cells.get, Cells.getN, Nat.reduceMul, ↓bnd_assoc]
        refine Ends.call (ih un (by omega) _ _ (by omega) (by omega) ((h2.bump 11).swap)) fun H3 h3 => ?_
        have g3 := (h3.ord [1]).get
        simp only [↓g2, ↓g3, ↓sxp, sxq, ↓reduceIte, Nat.reduceBEq, Nat.reduceLT, evP, evX, evR, blkOf, evA, storeA, Nat.reduceEqDiff, resL, resV, oneOrTup, Int.reduceEq, Int.reduceLT, Int.reduceLE, Int.reduceNeg, Int.reduceAdd, Int.reduceSub, Int.reduceMul, Int.reduceToNat, Nat.reduceAdd, noUnk, AV.cells, reduceCtorEq, Nat.reduceLeDiff, Cells.get, Cells.getN, Nat.reduceMul, ↓bnd_assoc]
        refine Ends.call (ih wn (by omega) _ _ (by omega) (by omega) h3) fun H4 h4 => ?_
        simp only [k1, k2, ↓sxp, sxq, ↓reduceIte, Nat.reduceBEq, Nat.reduceLT, evP, evX, evR, blkOf, evA, storeA, Nat.reduceEqDiff, resL, resV, oneOrTup, Int.reduceEq, Int.reduceLT, Int.reduceLE, Int.reduceNeg, Int.reduceAdd, Int.reduceSub, Int.reduceMul, Int.reduceToNat, Nat.reduceAdd, noUnk, AV.cells, reduceCtorEq, Nat.reduceLeDiff, Cells.get, Cells.getN, Nat.reduceMul, ↓bnd_assoc]
        exact Ends.ret ⟨rfl, h4.rm 1⟩
    · have n4 : ¬ k = 4 := fun e => c2 (.inl e)
      have n5 : ¬ k = 5 := fun e => c2 (.inr (.inl e))
      have n8 : ¬ k = 8 := fun e => c2 (.inr (.inr e))
      have hsr : szRaw (szs L) (k, (un : Int), w) = 1 + (szs L).getD un 0 := by
        simp only [szRaw, c1, c9, n4, n5, n8, or_self, if_false, hun]
      rw [hsr] at s2 s3 ⊢
      have k1 : IntKind.i64.wrap (1 + (szs L).getD un 0) = 1 + (szs L).getD un 0 := w64 (by omega)
      simp only [↓g2, c1, c9, n4, n5, n8, ↓sxp, sxq, ↓reduceIte, Nat.reduceBEq, Nat.reduceLT, evP, evX, evR, blkOf, evA, storeA, Nat.reduceEqDiff, resL, resV, oneOrTup, Int.reduceEq, Int.reduceLT, Int.reduceLE, Int.reduceNeg, Int.reduceAdd, Int.reduceSub, Int.reduceMul, Int.reduceToNat, Nat.reduceAdd, noUnk, AV.cells, reduceCtorEq, Nat.reduceLeDiff, Cells.get, Cells.getN, Nat.reduceMul, ↓bnd_assoc]
      refine Ends.call (ih un (by omega) _ _ (by omega) (by omega) h2.swap) fun H3 h3 => ?_
      simp only [k1, ↓sxp, sxq, ↓reduceIte, Nat.reduceBEq, Nat.reduceLT, evP, evX, evR, blkOf, evA, storeA, Nat.reduceEqDiff, resL, resV, oneOrTup, Int.reduceEq, Int.reduceLT, Int.reduceLE, Int.reduceNeg, Int.reduceAdd, Int.reduceSub, Int.reduceMul, Int.reduceToNat, Nat.reduceAdd, noUnk, AV.cells, reduceCtorEq, Nat.reduceLeDiff, Cells.get, Cells.getN, Nat.reduceMul, ↓bnd_assoc]
      exact Ends.ret ⟨rfl, h3.rm 1⟩
end
end Go.Proofs.Ytnfehkjkmlbceaa.Sx

