/-
  Package disk, walked: drop, Delete.
-/
import Derived.Test.YtohpgmeflmppaaaDiskC
namespace Go.Proofs.Ytohpgmeflmppaaa
set_option linter.unusedVariables false
set_option linter.unusedSimpArgs false
set_option linter.unnecessarySimpa false
set_option linter.unusedSectionVars false
open Go Go.RowKit

def dropRec (l : List FRec) (n : ByteArray) : List FRec := l.filter (fun x => decide (x.name ≠ n))
def dropA (l : List FileA) (n : ByteArray) : List FileA := l.filter (fun x => decide (x.name ≠ n))

theorem dropRec_abs (l : List FRec) (n : ByteArray) : (dropRec l n).map FRec.abs = dropA (l.map FRec.abs) n := by
  unfold dropRec dropA
  rw [List.filter_map]; rfl

theorem del_entries : ∀ (l : List FRec) (n : ByteArray), (l.map (·.name)).Nodup → del (l.map FRec.entry) n = (dropRec l n).map FRec.entry
  | [], _, _ => rfl
  | r :: l, n, h => by
    simp only [List.map_cons, List.nodup_cons, List.mem_map, not_exists, not_and] at h
    by_cases e : r.name = n
    · have hall : dropRec l n = l := by
        unfold dropRec
        rw [List.filter_eq_self]
        intro x hx
        simp only [decide_eq_true_eq]
        intro h'; exact h.1 x hx (h'.trans e.symm)
      simp only [List.map_cons, del, FRec.entry, if_pos e]
      have : dropRec (r :: l) n = dropRec l n := by simp [dropRec, e]
      rw [this, hall]
    · have : dropRec (r :: l) n = r :: dropRec l n := by simp [dropRec, e]
      rw [this]
      simp only [List.map_cons, del, FRec.entry, if_neg e]
      exact congrArg _ (del_entries l n h.2)

theorem dropRec_none {s : DS} {n : ByteArray} (h : s.fileAt n = none) : dropRec s.recs n = s.recs := by
  unfold dropRec
  rw [List.filter_eq_self]
  intro x hx
  simp only [decide_eq_true_eq]
  exact fileAt_none h x hx

theorem dropRec_split {l : List FRec} {r : FRec} (hnd : (l.map (·.name)).Nodup) (hr : r ∈ l) : ∃ pre post, l = pre ++ r :: post ∧ dropRec l r.name = pre ++ post := by
  obtain ⟨pre, post, rfl⟩ := List.append_of_mem hr
  refine ⟨pre, post, rfl, ?_⟩
  simp only [List.map_append, List.map_cons, List.nodup_append, List.nodup_cons, List.mem_map, List.mem_cons] at hnd
  obtain ⟨h1, ⟨h2, h3⟩, h4⟩ := hnd
  unfold dropRec
  rw [List.filter_append, List.filter_cons, if_neg (by simp)]
  congr 1
  · rw [List.filter_eq_self]
    intro x hx
    simp only [decide_eq_true_eq]
    intro e
    exact h4 x.name ⟨x, hx, rfl⟩ r.name (.inl rfl) e
  · rw [List.filter_eq_self]
    intro x hx
    simp only [decide_eq_true_eq]
    intro e
    exact h2 ⟨x, hx, e⟩

/-- A file is gone. -/
theorem DS.In.removed {w w' : World} {s : DS} (h : s.In w) {r : FRec} (hr : r ∈ s.recs) (hu : Upd (fun k => k = s.p ∨ k = s.m) w w') (hm : MapIs w' s.m (del s.entries r.name))
    (htop : w'.heap[s.p]? = some (.cells ({ s with recs := dropRec s.recs r.name } : DS).cells 91 (0, 0))) : Step w w' s { s with recs := dropRec s.recs r.name } := by
  obtain ⟨pre, post, h1, h2⟩ := dropRec_split h.names hr
  have hsubl : (dropRec s.recs r.name).Sublist s.recs := List.filter_sublist
  have hbsub : (recBlocks (dropRec s.recs r.name)).Sublist (recBlocks s.recs) := by
    rw [h2, h1]
    simp only [recBlocks, List.flatMap_append, List.flatMap_cons]
    exact List.Sublist.append_left (List.sublist_append_right _ _) _
  have hbl : ({ s with recs := dropRec s.recs r.name } : DS).blocks.Sublist s.blocks := (hbsub.cons_cons _).cons_cons _
  refine ⟨⟨htop, ?_, ?_, ?_, ?_, ?_, ?_, h.cap, h.armed, trivial⟩, rfl, hu.mono ?_, ?_⟩
  · have e : ({ s with recs := dropRec s.recs r.name } : DS).entries = del s.entries r.name := by
      show (dropRec s.recs r.name).map FRec.entry = del (s.recs.map FRec.entry) r.name
      rw [del_entries _ _ h.names]
    rw [e]; exact hm
  · intro x hx
    have hxs : x ∈ s.recs := hsubl.subset hx
    exact (h.files x hxs).of_blocks (fun k hk => hu.block k (h.lt k (by simp only [DS.blocks, List.mem_cons]; exact .inr (.inr (mem_recBlocks.2 ⟨x, hxs, hk⟩))))
      (fun e => e.elim (h.p_ne_blk hxs hk) (h.m_ne_blk hxs hk)))
  · exact (hsubl.map _).nodup h.names
  · exact hbl.nodup h.blocks
  · exact Nat.le_trans hsubl.length_le h.count
  · have h3 := h.room
    unfold DS.used at h3
    show usedOf (dropRec s.recs r.name) ≤ s.cap
    rw [h2]; rw [h1] at h3
    simp only [usedOf, List.map_append, List.map_cons, List.sum_append, List.sum_cons] at h3 ⊢
    omega
  · intro k _ e
    simp only [DS.blocks, List.mem_cons]
    rcases e with rfl | rfl
    · exact .inl rfl
    · exact .inr (.inl rfl)
  · intro k hk
    exact .inl (hbl.subset hk)

theorem usedOf_drop {l : List FRec} {r : FRec} (hnd : (l.map (·.name)).Nodup) (hr : r ∈ l) : usedOf (dropRec l r.name) + r.data.length = usedOf l := by
  obtain ⟨pre, post, h1, h2⟩ := dropRec_split hnd hr
  rw [h2, h1]
  simp [usedOf]; omega

set_option maxRecDepth 100000 in
set_option maxHeartbeats 1000000 in
theorem drop_any {w : World} {s : DS} (hs : s.In w) (n : ByteArray) :
    Calls Try.prog 55 #[.pointer (some ⟨s.p, 0, none⟩), .string n] w fun e w' => e = .returned (.tuple #[]) ∧ Step w w' s { s with recs := dropRec s.recs n } := by
  have cm := hs.c_map
  have c1 := hs.c_used
  have f1 := hs.free 1
  have hlk := run_lookup_file hs n
  unfold DS.ptrAt at hlk
  have HS := hid hs
  cases hf : s.fileAt n with
  | none =>
    rw [hf] at hlk
    simp only [] at hlk
    have hd : ({ s with recs := dropRec s.recs n } : DS) = s := by rw [dropRec_none hf]
    rw [hd]
    clear hd hf hs
    go_enter Try.func55, Try.ntmps55
    go_wp2
    go_end0
    exact ⟨rfl, Step.refl HS.out⟩
  | some r =>
    rw [hf] at hlk
    simp only [] at hlk
    obtain ⟨hr, hnm⟩ := fileAt_mem hf
    subst hnm
    have hfi := hs.files r hr
    have c0 := hfi.c_dv
    obtain ⟨ao, cap, hdv, -, -, -, -⟩ := hfi.data.shape
    rw [hdv] at c0
    have hne := hs.blk_ne_p hr
    have hused := usedOf_drop hs.names hr
    have hu1 : Upd (fun k => k = s.p) w (w.setCell ⟨s.p, 1, none⟩ (.int .i64 ((s.used : Int) - (r.data.length : Int)))).drew := (Upd.cell_only _ _ _ _).drew
    have hmap1 := hs.map.upd hu1 (fun e => hs.pm e.symm)
    obtain ⟨w3, hrun, hm, hu⟩ := run_delete_str (P := Try.prog) Try.underlying89 Try.underlying9 hmap1 r.name 0 9
    have hst : Step w w3 s { s with recs := dropRec s.recs r.name } := by
      refine hs.removed hr ((hu1.mono (fun k _ h => .inl h)).trans hu (fun k _ h => .inr h)) hm ?_
      rw [hu.block s.p (by simpa using hs.plt) hs.pm]
      show (w.setCell ⟨s.p, 1, none⟩ _).heap[s.p]? = _
      rw [heap_setCell_at _ _ _ _ _ _ hs.top]
      have e : (s.used : Int) - (r.data.length : Int) = ((usedOf (dropRec s.recs r.name) : Nat) : Int) := by unfold DS.used; omega
      rw [e]; rfl
    have HST := hid hst
    have hle := le_usedOf hr
    have hle2 : (r.data.length : Int) ≤ (s.used : Int) := by unfold DS.used; omega
    have hle3 : (s.used : Int) ≤ 67108864 := by have := hs.room; have := hs.cap; omega
    clear hst hu hm hmap1 hu1 hused hdv hfi hf hs hle
    go_enter Try.func55, Try.ntmps55
    go_wp2
    go_region
    go_wp2
    go_end0
    exact ⟨rfl, HST.out⟩

theorem delete1_any {w : World} {s : DS} (hs : s.In w) {n : ByteArray} {b1 b2 : Nat} (h1 : w.cell? ⟨b1, 0, none⟩ = some (.pointer (some ⟨s.p, 0, none⟩))) (h2 : w.cell? ⟨b2, 0, none⟩ = some (.string n)) :
    Calls Try.prog 56 #[.pointer (some ⟨b1, 0, none⟩), .pointer (some ⟨b2, 0, none⟩)] w fun e w' => e = .returned (.tuple #[]) ∧ Step w w' s { s with recs := dropRec s.recs n } := by
  have HS := hid hs; clear hs
  go_enter Try.func56, Try.ntmps56
  go_wp2_with (go_at_call 55; refine (drop_any HS.out n).mono ?_; rintro e w1 ⟨rfl, hst⟩; have HST := hid hst; clear hst)
  go_end0
  exact ⟨rfl, HST.out⟩

def deleteA (s : DS) (n : ByteArray) : Int × DiskA :=
  if lookRes s.down (nameOk n.data.toList) true (s.fileAt n).isSome ≠ 0 then (lookRes s.down (nameOk n.data.toList) true (s.fileAt n).isSome, s.abs)
  else actA s.abs (some 9) (dropA s.abs.files n)

set_option maxRecDepth 100000 in
set_option maxHeartbeats 1000000 in
theorem delete_any {w : World} {s : DS} (hs : s.In w) (n : ByteArray) :
    Calls Try.prog 34 #[.pointer (some ⟨s.p, 0, none⟩), .string n] w fun e w' => e = .returned (.int .i64 (deleteA s n).1) ∧ ∃ s2, Step w w' s s2 ∧ s2.abs = (deleteA s n).2 := by
  have hu2 : Upd (fun _ => False) w ((w.alloc (.cells #[.pointer (some ⟨s.p, 0, none⟩)] 23)).alloc (.cells #[.string n] 9)) := ((Upd.refl _ _).alloc _).alloc _
  have hin := hs.upd hu2 (fun _ _ h => h)
  have hst := Step.of_upd hs hu2
  have HL := hid (look_any hin n true)
  have hplt := hs.plt
  have HIN := hid hin; have HST := hid hst
  clear hu2 hst
  by_cases h1 : lookRes s.down (nameOk n.data.toList) true (s.fileAt n).isSome = 0
  · rw [h1] at HL
    have hc : deleteA s n = actA s.abs (some 9) (dropA s.abs.files n) := by unfold deleteA; rw [if_neg (by rw [h1]; simp)]
    rw [hc]
    have hen := fun caps W => run_enters (P := Try.prog) (G := 56) Try.func56 (by kernel_rfl) (by kernel_rfl) caps W
    have HE := hid hen
    clear h1 hc hs hen hin
    go_enter Try.func34, Try.ntmps34
    go_wp2_with (go_at_call 47; refine HL.out.mono ?_; rintro e w' ⟨rfl, rfl⟩)
    have q1 : ((w.alloc (.cells #[.pointer (some ⟨s.p, 0, none⟩)] 23)).alloc (.cells #[.string n] 9)).cell? ⟨w.heap.size, 0, none⟩ = some (.pointer (some ⟨s.p, 0, none⟩)) := by simp [go_sem]
    have q2 : ((w.alloc (.cells #[.pointer (some ⟨s.p, 0, none⟩)] 23)).alloc (.cells #[.string n] 9)).cell? ⟨w.heap.size + 1, 0, none⟩ = some (.string n) := by simp [go_sem]
    have q3 : w.heap.size + 1 < ((w.alloc (.cells #[.pointer (some ⟨s.p, 0, none⟩)] 23)).alloc (.cells #[.string n] 9)).heap.size := by simp
    generalize (w.alloc (.cells #[.pointer (some ⟨s.p, 0, none⟩)] 23)).alloc (.cells #[.string n] 9) = W at *
    go_still_tail 6, (by kernel_rfl)
    change wpList _ _ _ _ _ W.drew
    have hdr := (Upd.refl (fun _ => False) W).drew
    have hin2 := HIN.out.upd hdr (fun _ _ h => h)
    have HD := hid hdr; clear hdr
    go_wp2_with fail
    refine (act_any (co := some 9) hin2 (HE.out _) (F := dropA s.abs.files n) ?_ (by simp)).mono ?_
    · intro W1 s1 hi1 hu1 e1 e2 e3 e4 e5
      have r1 : W1.cell? ⟨w.heap.size, 0, none⟩ = some (.pointer (some ⟨s1.p, 0, none⟩)) := by
        rw [World.cell?_of_block (hu1.block w.heap.size (by show w.heap.size < W.heap.size; omega) (by show w.heap.size ≠ s.p; omega)), e1]; exact q1
      have r2 : W1.cell? ⟨w.heap.size + 1, 0, none⟩ = some (.string n) := by
        rw [World.cell?_of_block (hu1.block (w.heap.size + 1) (by show w.heap.size + 1 < W.heap.size; omega) (by show w.heap.size + 1 ≠ s.p; omega))]; exact q2
      refine (delete1_any hi1 r1 r2).mono ?_
      rintro e W' ⟨rfl, hst⟩
      exact ⟨rfl, _, hst, rfl, rfl, rfl, rfl, by rw [dropRec_abs, e3]; rfl⟩
    · rintro e w1 ⟨rfl, s2, hst, habs⟩
      have H1 := hid hst; have H2 := hid habs
      clear hst habs
      go_wp2
      go_ret
      exact ⟨rfl, s2, (HST.out.trans (Step.of_upd HIN.out HD.out)).trans H1.out, H2.out⟩
  · have hc : deleteA s n = (lookRes s.down (nameOk n.data.toList) true (s.fileAt n).isSome, s.abs) := by unfold deleteA; rw [if_pos h1]
    rw [hc]
    generalize lookRes s.down (nameOk n.data.toList) true (s.fileAt n).isSome = e0 at *
    have hb : (e0 != 0) = true := by simpa using h1
    clear h1 hc hs hin
    go_enter Try.func34, Try.ntmps34
    go_wp2_with (go_at_call 47; refine HL.out.mono ?_; rintro e w' ⟨rfl, rfl⟩)
    go_ret
    exact ⟨rfl, s, HST.out, rfl⟩

end Go.Proofs.Ytohpgmeflmppaaa
