/-
  Package disk, walked: Rename.
-/
import Derived.Test.YtohpgmeflmppaaaDiskD
namespace Go.Proofs.Ytohpgmeflmppaaa
set_option linter.unusedVariables false
set_option linter.unusedSimpArgs false
set_option linter.unnecessarySimpa false
set_option linter.unusedSectionVars false
open Go Go.RowKit

theorem beq_toList (a b : ByteArray) : (a.toList == b.toList) = decide (a = b) := by
  rw [ByteArray.toList_eq, ByteArray.toList_eq]
  by_cases h : a = b
  · subst h; simp
  · have : ¬ a.data.toList = b.data.toList := fun e => h (WideShapes.bytes_inj e)
    rw [decide_eq_false h]; exact beq_eq_false_iff_ne.2 this

theorem nodup_move {A B C : List Nat} (h : (A ++ (B ++ C)).Nodup) : (A ++ (C ++ B)).Nodup := by
  have hp : (A ++ (B ++ C)).Perm (A ++ (C ++ B)) := List.Perm.append_left _ List.perm_append_comm
  exact hp.nodup_iff.1 h

/-- A file has another name. -/
theorem DS.In.renamed {w w' : World} {s : DS} (h : s.In w) {r : FRec} (hr : r ∈ s.recs) {t : ByteArray} (hne : r.name ≠ t) (ht : s.fileAt t = none) (hok : nameOk t.data.toList = true) (hu : Upd (fun k => k = s.m) w w')
    (hm : MapIs w' s.m (put (del s.entries r.name) t (.pointer (some ⟨r.blk, 0, none⟩)))) : Step w w' s { s with recs := dropRec s.recs r.name ++ [{ r with name := t }] } := by
  obtain ⟨pre, post, h1, h2⟩ := dropRec_split h.names hr
  have hnt := fileAt_none ht
  have hbl : ({ s with recs := dropRec s.recs r.name ++ [{ r with name := t }] } : DS).blocks = (s.p :: s.m :: recBlocks pre) ++ (recBlocks post ++ r.blocks) := by
    simp [DS.blocks, h2, recBlocks, FRec.blocks]
  have hb0 : s.blocks = (s.p :: s.m :: recBlocks pre) ++ (r.blocks ++ recBlocks post) := by
    simp [DS.blocks, h1, recBlocks]
  have hnd := h.blocks
  rw [hb0] at hnd
  have hdel : del s.entries r.name = (dropRec s.recs r.name).map FRec.entry := del_entries _ _ h.names
  have hused : usedOf (dropRec s.recs r.name ++ [{ r with name := t }]) = usedOf s.recs := by
    have := usedOf_drop h.names hr
    rw [usedOf_append]; simp only [usedOf, List.map_cons, List.map_nil, List.sum_cons, List.sum_nil] at this ⊢; omega
  refine ⟨⟨?_, ?_, ?_, ?_, ?_, ?_, ?_, h.cap, h.armed, trivial⟩, rfl, hu.mono ?_, ?_⟩
  · have e : ({ s with recs := dropRec s.recs r.name ++ [{ r with name := t }] } : DS).cells = s.cells := by simp [DS.cells, DS.used, hused]
    rw [e]; exact hu.get h.top h.pm
  · rw [hdel, put_new] at hm
    · have e : ({ s with recs := dropRec s.recs r.name ++ [{ r with name := t }] } : DS).entries = (dropRec s.recs r.name).map FRec.entry ++ [(t, .pointer (some ⟨r.blk, 0, none⟩))] := by simp [DS.entries, FRec.entry]
      rw [e]; exact hm
    · rw [look_entries]
      have : (dropRec s.recs r.name).find? (fun x => x.name == t) = none := by
        rw [List.find?_eq_none]
        intro x hx
        have := hnt x (List.mem_filter.1 hx).1
        rw [beq_bytes]; simpa using this
      rw [this]; rfl
  · intro x hx
    have old : ∀ y ∈ s.recs, y.In w' := fun y hy => (h.files y hy).of_blocks (fun k hk => hu.block k (h.lt k (by simp only [DS.blocks, List.mem_cons]; exact .inr (.inr (mem_recBlocks.2 ⟨y, hy, hk⟩)))) (h.m_ne_blk hy hk))
    simp only [List.mem_append, List.mem_singleton] at hx
    rcases hx with hx | rfl
    · exact old x (List.mem_filter.1 hx).1
    · have hro := old r hr
      exact ⟨hro.cells, hro.data, hro.synced, hok⟩
  · simp only [List.map_append, List.map_cons, List.map_nil, List.nodup_append]
    refine ⟨((List.filter_sublist).map _).nodup h.names, by simp, ?_⟩
    intro x hx y hy
    simp only [List.mem_singleton] at hy
    subst hy
    obtain ⟨z, hz, rfl⟩ := List.mem_map.1 hx
    exact hnt z (List.mem_filter.1 hz).1
  · rw [hbl]; exact nodup_move hnd
  · have := h.count
    rw [h1] at this
    rw [h2]
    simp at this ⊢; omega
  · have := h.room
    unfold DS.used at this
    show usedOf _ ≤ s.cap
    rw [hused]; exact this
  · intro k _ e
    subst e; simp [DS.blocks]
  · intro k hk
    rw [hbl] at hk
    rw [hb0]
    simp only [List.mem_append] at hk ⊢
    rcases hk with hk | hk | hk
    · exact .inl (.inl hk)
    · exact .inl (.inr (.inr hk))
    · exact .inl (.inr (.inl hk))

def renameF (l : List FileA) (n t : ByteArray) (f : FileA) : List FileA := if n = t then l else dropA (dropA l t) n ++ [{ f with name := t }]

theorem fileAt_dropped (s : DS) (t : ByteArray) : ({ s with recs := dropRec s.recs t } : DS).fileAt t = none := by
  unfold DS.fileAt
  rw [List.find?_eq_none]
  intro x hx
  have := (List.mem_filter.1 hx).2
  rw [beq_bytes]
  simpa using this

set_option maxRecDepth 100000 in
set_option maxHeartbeats 1000000 in
theorem rename1_any {w : World} {s : DS} (hs : s.In w) {n t : ByteArray} {r : FRec} (hr : r ∈ s.recs) (hn : r.name = n) (hok : nameOk t.data.toList = true) {b1 b2 b3 b4 : Nat}
    (h1 : w.cell? ⟨b1, 0, none⟩ = some (.string n)) (h2 : w.cell? ⟨b2, 0, none⟩ = some (.string t)) (h3 : w.cell? ⟨b3, 0, none⟩ = some (.pointer (some ⟨s.p, 0, none⟩))) (h4 : w.cell? ⟨b4, 0, none⟩ = some (.pointer (some ⟨r.blk, 0, none⟩)))
    (hb1 : b1 ∉ s.blocks) (hb2 : b2 ∉ s.blocks) (hb3 : b3 ∉ s.blocks) (hb4 : b4 ∉ s.blocks) :
    Calls Try.prog 54 #[.pointer (some ⟨b1, 0, none⟩), .pointer (some ⟨b2, 0, none⟩), .pointer (some ⟨b3, 0, none⟩), .pointer (some ⟨b4, 0, none⟩)] w fun e w' => e = .returned (.tuple #[]) ∧
      ∃ s2, Step w w' s s2 ∧ s2.cap = s.cap ∧ s2.down = s.down ∧ s2.armed = s.armed ∧ s2.cnt = s.cnt ∧ s2.recs.map FRec.abs = renameF (s.recs.map FRec.abs) n t r.abs := by
  subst hn
  have HS := hid hs
  by_cases hnt : r.name = t
  · have hq : (r.name.toList == t.toList) = true := by rw [beq_toList]; simp [hnt]
    have hF : renameF (s.recs.map FRec.abs) r.name t r.abs = s.recs.map FRec.abs := by unfold renameF; rw [if_pos hnt]
    rw [hF]
    clear hs hF
    subst hnt
    go_enter Try.func54, Try.ntmps54
    go_wp2
    go_end0
    exact ⟨rfl, s, Step.refl HS.out, rfl, rfl, rfl, rfl, rfl⟩
  · have hq : (r.name.toList == t.toList) = false := by rw [beq_toList]; simp [hnt]
    have HN := hid hnt
    have HB1 := hid hb1; have HB2 := hid hb2; have HB3 := hid hb3; have HB4 := hid hb4
    have l1 := World.block_lt_of_cell? w _ h1
    have l2 := World.block_lt_of_cell? w _ h2
    have l3 := World.block_lt_of_cell? w _ h3
    have l4 := World.block_lt_of_cell? w _ h4
    have HR := hid hr
    clear hs hnt hb1 hb2 hb3 hb4 hr
    go_enter Try.func54, Try.ntmps54
    go_wp2_with fail
    refine (drop_any HS.out t).mono ?_
    rintro e w1 ⟨rfl, hst⟩
    have g1 := (hst.other (i := 0) HB1.out l1).trans h1
    have g2 := (hst.other (i := 0) HB2.out l2).trans h2
    have g3 := (hst.other (i := 0) HB3.out l3).trans h3
    have g4 := (hst.other (i := 0) HB4.out l4).trans h4
    have cm := hst.ins.c_map
    have hr1 : r ∈ dropRec s.recs t := List.mem_filter.2 ⟨HR.out, by simpa using HN.out⟩
    have k1 : ∀ b, b ∉ s.blocks → b < w.heap.size → b ≠ s.m := fun b hb _ e => hb (by simp [DS.blocks, e])
    obtain ⟨w2, hrun2, hm2, hu2⟩ := run_delete_str (P := Try.prog) (w := w1.drew) Try.underlying89 Try.underlying9 hst.ins.map r.name 0 9
    obtain ⟨w3, hrun3, hm3, hu3⟩ := run_mapUpdate_str (P := Try.prog) (w := w2.drew) Try.underlying89 Try.underlying9 hm2 t (.pointer (some ⟨r.blk, 0, none⟩))
    have hu23 : Upd (fun k => k = s.m) w1 w3 := ((Upd.refl (fun k => k = s.m) w1).drew.trans hu2 (fun k _ h => h)).trans (((Upd.refl (fun k => k = s.m) w2).drew).trans hu3 (fun k _ h => h)) (fun k _ h => h)
    have hst3 := hst.ins.renamed hr1 HN.out (fileAt_dropped s t) hok hu23 hm3
    have habs : (dropRec (dropRec s.recs t) r.name ++ [{ r with name := t }]).map FRec.abs = renameF (s.recs.map FRec.abs) r.name t r.abs := by
      unfold renameF
      rw [if_neg HN.out, List.map_append, dropRec_abs, dropRec_abs]; rfl
    have n1 := k1 b1 HB1.out l1
    have n2 := k1 b2 HB2.out l2
    have n3 := k1 b3 HB3.out l3
    have n4 := k1 b4 HB4.out l4
    have lw1 := hst.upd.size
    have d2 : w2.cell? ⟨b2, 0, none⟩ = some (.string t) := (World.cell?_of_block (hu2.block b2 (by show b2 < w1.heap.size; omega) n2)).trans g2
    have d3 : w2.cell? ⟨b3, 0, none⟩ = some (.pointer (some ⟨s.p, 0, none⟩)) := (World.cell?_of_block (hu2.block b3 (by show b3 < w1.heap.size; omega) n3)).trans g3
    have d4 : w2.cell? ⟨b4, 0, none⟩ = some (.pointer (some ⟨r.blk, 0, none⟩)) := (World.cell?_of_block (hu2.block b4 (by show b4 < w1.heap.size; omega) n4)).trans g4
    have dm : w2.cell? ⟨s.p, 2, none⟩ = some (.map (some s.m)) := (World.cell?_of_block (hu2.block s.p hst.ins.plt hst.ins.pm)).trans cm
    have H1 := hid (hst.trans hst3); have H2 := hid habs
    clear hst3 habs hm3 hm2 hu23 hu3 hu2 hst k1 n1 n2 n3 n4
    go_wp2
    go_region
    go_wp2
    go_region
    go_end0
    exact ⟨rfl, _, H1.out, rfl, rfl, rfl, rfl, H2.out⟩

def renameA (s : DS) (n t : ByteArray) : Int × DiskA :=
  if lookRes s.down (nameOk n.data.toList) false (s.fileAt n).isSome ≠ 0 then (lookRes s.down (nameOk n.data.toList) false (s.fileAt n).isSome, s.abs)
  else if nameOk t.data.toList = false then (40, s.abs)
  else match s.fileAt n with
    | none => (42, s.abs)
    | some r => actA s.abs (some 8) (renameF s.abs.files n t r.abs)

set_option maxRecDepth 100000 in
set_option maxHeartbeats 2000000 in
theorem rename_any {w : World} {s : DS} (hs : s.In w) (n t : ByteArray) :
    Calls Try.prog 33 #[.pointer (some ⟨s.p, 0, none⟩), .string n, .string t] w fun e w' => e = .returned (.int .i64 (renameA s n t).1) ∧ ∃ s2, Step w w' s s2 ∧ s2.abs = (renameA s n t).2 := by
  have hu2 : Upd (fun _ => False) w (((w.alloc (.cells #[.pointer (some ⟨s.p, 0, none⟩)] 23)).alloc (.cells #[.string n] 9)).alloc (.cells #[.string t] 9)) := (((Upd.refl _ _).alloc _).alloc _).alloc _
  have hin := hs.upd hu2 (fun _ _ h => h)
  have hst := Step.of_upd hs hu2
  have HL := hid (look_any hin n false)
  have hplt := hs.plt
  have cm := hin.c_map
  have HIN := hid hin; have HST := hid hst; have HS0 := hid hs
  clear hu2 hst
  by_cases h1 : lookRes s.down (nameOk n.data.toList) false (s.fileAt n).isSome = 0
  · rw [h1] at HL
    cases hok : nameOk t.data.toList with
    | false =>
      have hc : renameA s n t = (40, s.abs) := by unfold renameA; rw [if_neg (by rw [h1]; simp), if_pos hok]
      rw [hc]
      clear h1 hc hs hin cm
      go_enter Try.func33, Try.ntmps33
      go_wp2_with (first | (go_at_call 47; refine HL.out.mono ?_; rintro e w' ⟨rfl, rfl⟩) | (go_at_call 48; refine (named_any _ _).mono ?_; rintro e w' ⟨rfl, rfl⟩))
      go_ret
      exact ⟨rfl, s, HST.out, rfl⟩
    | true =>
      have HOK := hid hok
      have q1 : ((((w.alloc (.cells #[.pointer (some ⟨s.p, 0, none⟩)] 23)).alloc (.cells #[.string n] 9)).alloc (.cells #[.string t] 9))).cell? ⟨w.heap.size, 0, none⟩ = some (.pointer (some ⟨s.p, 0, none⟩)) := by simp [go_sem]
      have q2 : ((((w.alloc (.cells #[.pointer (some ⟨s.p, 0, none⟩)] 23)).alloc (.cells #[.string n] 9)).alloc (.cells #[.string t] 9))).cell? ⟨w.heap.size + 1, 0, none⟩ = some (.string n) := by simp [go_sem]
      have q3 : ((((w.alloc (.cells #[.pointer (some ⟨s.p, 0, none⟩)] 23)).alloc (.cells #[.string n] 9)).alloc (.cells #[.string t] 9))).cell? ⟨w.heap.size + 1 + 1, 0, none⟩ = some (.string t) := by simp [go_sem]
      have q4 : ((((w.alloc (.cells #[.pointer (some ⟨s.p, 0, none⟩)] 23)).alloc (.cells #[.string n] 9)).alloc (.cells #[.string t] 9))).heap.size = w.heap.size + 1 + 1 + 1 := by simp
      have hlk := run_lookup_file (w := ((((w.alloc (.cells #[.pointer (some ⟨s.p, 0, none⟩)] 23)).alloc (.cells #[.string n] 9)).alloc (.cells #[.string t] 9))).drew) (hin.upd ((Upd.refl (fun _ => False) _).drew) (fun _ _ h => h)) n
      have hlk' := run_lookup_file (w := (((((w.alloc (.cells #[.pointer (some ⟨s.p, 0, none⟩)] 23)).alloc (.cells #[.string n] 9)).alloc (.cells #[.string t] 9))).alloc (.cells #[.pointer none] 93)).drew) (hin.upd (((Upd.refl (fun _ => False) _).alloc _).drew) (fun _ _ h => h)) n
      unfold DS.ptrAt at hlk hlk'
      have hp1 : s.p < w.heap.size + 1 := by omega
      have hp2 : s.p < w.heap.size + 1 + 1 := by omega
      have hp3 : s.p < w.heap.size + 1 + 1 + 1 := by omega
      cases hf : s.fileAt n with
      | none =>
        have hc : renameA s n t = (42, s.abs) := by unfold renameA; rw [if_neg (by rw [h1]; simp), if_neg (by simp [hok])]; simp only [hf]
        rw [hc]
        rw [hf] at hlk hlk'
        simp only [] at hlk hlk'
        clear h1 hc hs hin hf
        go_enter Try.func33, Try.ntmps33
        go_wp2_with (first | (go_at_call 47; refine HL.out.mono ?_; rintro e w' ⟨rfl, rfl⟩) | (go_at_call 48; refine (named_any _ _).mono ?_; rintro e w' ⟨rfl, rfl⟩))
        have HQ4 := hid q4; clear q4
        go_region
        all_goals go_wp2
        all_goals go_ret
        all_goals exact ⟨rfl, s, HST.out.trans (Step.of_upd HIN.out (((Upd.refl _ _).alloc _).drew)), rfl⟩
      | some r =>
        have hc : renameA s n t = actA s.abs (some 8) (renameF s.abs.files n t r.abs) := by unfold renameA; rw [if_neg (by rw [h1]; simp), if_neg (by simp [hok])]; simp only [hf]
        rw [hc]
        rw [hf] at hlk hlk'
        simp only [] at hlk hlk'
        obtain ⟨hr, hnm⟩ := fileAt_mem hf
        have hen := fun caps W => run_enters (P := Try.prog) (G := 54) Try.func54 (by kernel_rfl) (by kernel_rfl) caps W
        have HE := hid hen; have HR := hid hr; have HN := hid hnm
        have hnb : ∀ k, w.heap.size ≤ k → k ∉ s.blocks := fun k hk hm => by have := hs.lt k hm; omega
        have HNB := hid hnb
        clear h1 hc hs hin hf hen hr hnm hnb
        go_enter Try.func33, Try.ntmps33
        go_wp2_with (first | (go_at_call 47; refine HL.out.mono ?_; rintro e w' ⟨rfl, rfl⟩) | (go_at_call 48; refine (named_any _ _).mono ?_; rintro e w' ⟨rfl, rfl⟩))
        have HQ4 := hid q4; clear q4
        go_region
        all_goals
          go_wp2_with fail
          have hup : Upd (fun _ => False) w (((((w.alloc (.cells #[.pointer (some ⟨s.p, 0, none⟩)] 23)).alloc (.cells #[.string n] 9)).alloc (.cells #[.string t] 9)).alloc (.cells #[.pointer (some ⟨r.blk, 0, none⟩)] 93)).drew) := ((((Upd.refl _ _).alloc _).alloc _).alloc _).alloc _ |>.drew
          have p1 : (((((w.alloc (.cells #[.pointer (some ⟨s.p, 0, none⟩)] 23)).alloc (.cells #[.string n] 9)).alloc (.cells #[.string t] 9)).alloc (.cells #[.pointer (some ⟨r.blk, 0, none⟩)] 93)).drew).cell? ⟨w.heap.size, 0, none⟩ = some (.pointer (some ⟨s.p, 0, none⟩)) := by simp [go_sem]
          have p2 : (((((w.alloc (.cells #[.pointer (some ⟨s.p, 0, none⟩)] 23)).alloc (.cells #[.string n] 9)).alloc (.cells #[.string t] 9)).alloc (.cells #[.pointer (some ⟨r.blk, 0, none⟩)] 93)).drew).cell? ⟨w.heap.size + 1, 0, none⟩ = some (.string n) := by simp [go_sem]
          have p3 : (((((w.alloc (.cells #[.pointer (some ⟨s.p, 0, none⟩)] 23)).alloc (.cells #[.string n] 9)).alloc (.cells #[.string t] 9)).alloc (.cells #[.pointer (some ⟨r.blk, 0, none⟩)] 93)).drew).cell? ⟨w.heap.size + 1 + 1, 0, none⟩ = some (.string t) := by simp [go_sem]
          have p4 : (((((w.alloc (.cells #[.pointer (some ⟨s.p, 0, none⟩)] 23)).alloc (.cells #[.string n] 9)).alloc (.cells #[.string t] 9)).alloc (.cells #[.pointer (some ⟨r.blk, 0, none⟩)] 93)).drew).cell? ⟨w.heap.size + 1 + 1 + 1, 0, none⟩ = some (.pointer (some ⟨r.blk, 0, none⟩)) := by simp [go_sem]
          have p5 : (((((w.alloc (.cells #[.pointer (some ⟨s.p, 0, none⟩)] 23)).alloc (.cells #[.string n] 9)).alloc (.cells #[.string t] 9)).alloc (.cells #[.pointer (some ⟨r.blk, 0, none⟩)] 93)).drew).heap.size = w.heap.size + 1 + 1 + 1 + 1 := by simp
          have HUP := hid hup
          clear hup q1 q2 q3 hlk hlk' cm
          generalize (((((w.alloc (.cells #[.pointer (some ⟨s.p, 0, none⟩)] 23)).alloc (.cells #[.string n] 9)).alloc (.cells #[.string t] 9)).alloc (.cells #[.pointer (some ⟨r.blk, 0, none⟩)] 93)).drew) = W at *
          have hin2 := HS0.out.upd HUP.out (fun _ _ h => h)
          have HIN2 := hid hin2; clear hin2
          go_still_tail 6, (by kernel_rfl)
          change wpList _ _ _ _ _ W.drew
          go_wp2_with fail
          refine (act_any (co := some 8) (HIN2.out.upd ((Upd.refl (fun _ => False) W).drew) (fun _ _ h => h)) (HE.out _) (F := renameF s.abs.files n t r.abs) ?_ (by simp)).mono ?_
          · intro W1 s1 hi1 hu1 e1 e2 e3 e4 e5
            have keep : ∀ k i, w.heap.size ≤ k → k < W.heap.size → W1.cell? ⟨k, i, none⟩ = W.cell? ⟨k, i, none⟩ := fun k i h1 h2 => World.cell?_of_block (hu1.block k h2 (by show k ≠ s.p; omega))
            have hb1 : s1.blocks = s.blocks := by simp [DS.blocks, e1, e2, e3]
            refine (rename1_any hi1 (r := r) (by rw [e3]; exact HR.out) HN.out HOK.out ((keep _ 0 (by omega) (by omega)).trans p2) ((keep _ 0 (by omega) (by omega)).trans p3) (((keep _ 0 (by omega) (by omega)).trans p1).trans (by rw [e1])) ((keep _ 0 (by omega) (by omega)).trans p4)
              (by rw [hb1]; exact HNB.out _ (by omega)) (by rw [hb1]; exact HNB.out _ (by omega)) (by rw [hb1]; exact HNB.out _ (by omega)) (by rw [hb1]; exact HNB.out _ (by omega))).mono ?_
            rintro e W' ⟨rfl, s2, hst, c1, c2, c3, c4, c5⟩
            exact ⟨rfl, s2, hst, c1, c2, c3, c4, by rw [c5, e3]; rfl⟩
          · rintro e w1 ⟨rfl, s2, hst, habs⟩
            have H1 := hid hst; have H2 := hid habs
            clear hst habs
            go_wp2
            go_ret
            exact ⟨rfl, s2, ((Step.of_upd HS0.out HUP.out).trans (Step.of_upd HIN2.out ((Upd.refl _ _).drew))).trans H1.out, H2.out⟩
  · have hc : renameA s n t = (lookRes s.down (nameOk n.data.toList) false (s.fileAt n).isSome, s.abs) := by unfold renameA; rw [if_pos h1]
    rw [hc]
    generalize lookRes s.down (nameOk n.data.toList) false (s.fileAt n).isSome = e0 at *
    have hb : (e0 != 0) = true := by simpa using h1
    clear h1 hc hs hin cm
    go_enter Try.func33, Try.ntmps33
    go_wp2_with (go_at_call 47; refine HL.out.mono ?_; rintro e w' ⟨rfl, rfl⟩)
    go_ret
    exact ⟨rfl, s, HST.out, rfl⟩

end Go.Proofs.Ytohpgmeflmppaaa
