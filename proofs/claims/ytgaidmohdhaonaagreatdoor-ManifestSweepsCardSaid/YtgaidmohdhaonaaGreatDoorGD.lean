/-
  Package disk, walked: Rename.
  Package disk, walked: Append.
  Package disk, walked: Append, the call itself.
-/
import Derived.Test.YtgaidmohdhaonaaGreatDoorGC
import Derived.Deep.RegionLaw
namespace Go.Proofs.YtgaidmohdhaonaaGreatDoor
set_option linter.unusedVariables false
set_option linter.unusedSimpArgs false
set_option linter.unnecessarySimpa false
set_option linter.unusedSectionVars false
open Go Go.RowKit

theorem beq_toList (a b : ByteArray) : (a.toList == b.toList) = decide (a = b) := by
  rw [ByteArray.toList_eq, ByteArray.toList_eq]
  by_cases h : a = b
  · subst h; simp
  · have : ¬ a.data.toList = b.data.toList := fun e => h (WideShapes.bytes_inj e)
    rw [decide_eq_false h]; exact beq_eq_false_iff_ne.2 this

theorem nodup_move {A B C : List Nat} (h : (A ++ (B ++ C)).Nodup) : (A ++ (C ++ B)).Nodup := by
  have hp : (A ++ (B ++ C)).Perm (A ++ (C ++ B)) := List.Perm.append_left _ List.perm_append_comm
  exact hp.nodup_iff.1 h

/-- A file has another name. -/
theorem DS.In.renamed {w w' : World} {s : DS} (h : s.In w) {r : FRec} (hr : r ∈ s.recs) {t : ByteArray} (hne : r.name ≠ t) (ht : s.fileAt t = none) (hok : nameOk t.data.toList = true) (hu : Upd (fun k => k = s.m) w w')
    (hm : MapIs w' s.m (put (del s.entries r.name) t (.pointer (some ⟨r.blk, 0, none⟩)))) : Step w w' s { s with recs := dropRec s.recs r.name ++ [{ r with name := t }] } := by
  obtain ⟨pre, post, h1, h2⟩ := dropRec_split h.names hr
  have hnt := fileAt_none ht
  have hbl : ({ s with recs := dropRec s.recs r.name ++ [{ r with name := t }] } : DS).blocks = (s.p :: s.m :: recBlocks pre) ++ (recBlocks post ++ r.blocks) := by
    simp [DS.blocks, h2, recBlocks, FRec.blocks]
  have hb0 : s.blocks = (s.p :: s.m :: recBlocks pre) ++ (r.blocks ++ recBlocks post) := by
    simp [DS.blocks, h1, recBlocks]
  have hnd := h.blocks
  rw [hb0] at hnd
  have hdel : del s.entries r.name = (dropRec s.recs r.name).map FRec.entry := del_entries _ _ h.names
  have hused : usedOf (dropRec s.recs r.name ++ [{ r with name := t }]) = usedOf s.recs := by
    have := usedOf_drop h.names hr
    rw [usedOf_append]; simp only [usedOf, List.map_cons, List.map_nil, List.sum_cons, List.sum_nil] at this ⊢; omega
  refine ⟨⟨?_, ?_, ?_, ?_, ?_, ?_, ?_, h.cap, h.armed, trivial⟩, rfl, hu.mono ?_, ?_⟩
  · have e : ({ s with recs := dropRec s.recs r.name ++ [{ r with name := t }] } : DS).cells = s.cells := by simp [DS.cells, DS.used, hused]
    rw [e]; exact hu.get h.top h.pm
  · rw [hdel, put_new] at hm
    · have e : ({ s with recs := dropRec s.recs r.name ++ [{ r with name := t }] } : DS).entries = (dropRec s.recs r.name).map FRec.entry ++ [(t, .pointer (some ⟨r.blk, 0, none⟩))] := by simp [DS.entries, FRec.entry]
      rw [e]; exact hm
    · rw [look_entries]
      have : (dropRec s.recs r.name).find? (fun x => x.name == t) = none := by
        rw [List.find?_eq_none]
        intro x hx
        have := hnt x (List.mem_filter.1 hx).1
        rw [beq_bytes]; simpa using this
      rw [this]; rfl
  · intro x hx
    have old : ∀ y ∈ s.recs, y.In w' := fun y hy => (h.files y hy).of_blocks (fun k hk => hu.block k (h.lt k (by simp only [DS.blocks, List.mem_cons]; exact .inr (.inr (mem_recBlocks.2 ⟨y, hy, hk⟩)))) (h.m_ne_blk hy hk))
    simp only [List.mem_append, List.mem_singleton] at hx
    rcases hx with hx | rfl
    · exact old x (List.mem_filter.1 hx).1
    · have hro := old r hr
      exact ⟨hro.cells, hro.data, hro.synced, hok⟩
  · simp only [List.map_append, List.map_cons, List.map_nil, List.nodup_append]
    refine ⟨((List.filter_sublist).map _).nodup h.names, by simp, ?_⟩
    intro x hx y hy
    simp only [List.mem_singleton] at hy
    subst hy
    obtain ⟨z, hz, rfl⟩ := List.mem_map.1 hx
    exact hnt z (List.mem_filter.1 hz).1
  · rw [hbl]; exact nodup_move hnd
  · have := h.count
    rw [h1] at this
    rw [h2]
    simp at this ⊢; omega
  · have := h.room
    unfold DS.used at this
    show usedOf _ ≤ s.cap
    rw [hused]; exact this
  · intro k _ e
    subst e; simp [DS.blocks]
  · intro k hk
    rw [hbl] at hk
    rw [hb0]
    simp only [List.mem_append] at hk ⊢
    rcases hk with hk | hk | hk
    · exact .inl (.inl hk)
    · exact .inl (.inr (.inr hk))
    · exact .inl (.inr (.inl hk))

def renameF (l : List FileA) (n t : ByteArray) (f : FileA) : List FileA := if n = t then l else dropA (dropA l t) n ++ [{ f with name := t }]

theorem fileAt_dropped (s : DS) (t : ByteArray) : ({ s with recs := dropRec s.recs t } : DS).fileAt t = none := by
  unfold DS.fileAt
  rw [List.find?_eq_none]
  intro x hx
  have := (List.mem_filter.1 hx).2
  rw [beq_bytes]
  simpa using this

set_option maxRecDepth 100000 in
set_option maxHeartbeats 1000000 in
theorem rename1_any {w : World} {s : DS} (hs : s.In w) {n t : ByteArray} {r : FRec} (hr : r ∈ s.recs) (hn : r.name = n) (hok : nameOk t.data.toList = true) {b1 b2 b3 b4 : Nat}
    (h1 : w.cell? ⟨b1, 0, none⟩ = some (.string n)) (h2 : w.cell? ⟨b2, 0, none⟩ = some (.string t)) (h3 : w.cell? ⟨b3, 0, none⟩ = some (.pointer (some ⟨s.p, 0, none⟩))) (h4 : w.cell? ⟨b4, 0, none⟩ = some (.pointer (some ⟨r.blk, 0, none⟩)))
    (hb1 : b1 ∉ s.blocks) (hb2 : b2 ∉ s.blocks) (hb3 : b3 ∉ s.blocks) (hb4 : b4 ∉ s.blocks) :
    Calls Tryz.prog 128 #[.pointer (some ⟨b1, 0, none⟩), .pointer (some ⟨b2, 0, none⟩), .pointer (some ⟨b3, 0, none⟩), .pointer (some ⟨b4, 0, none⟩)] w fun e w' => e = .returned (.tuple #[]) ∧
      ∃ s2, Step w w' s s2 ∧ s2.cap = s.cap ∧ s2.down = s.down ∧ s2.armed = s.armed ∧ s2.cnt = s.cnt ∧ s2.recs.map FRec.abs = renameF (s.recs.map FRec.abs) n t r.abs := by
  subst hn
  have HS := hid hs
  by_cases hnt : r.name = t
  · have hq : (r.name.toList == t.toList) = true := by rw [beq_toList]; simp [hnt]
    have hF : renameF (s.recs.map FRec.abs) r.name t r.abs = s.recs.map FRec.abs := by unfold renameF; rw [if_pos hnt]
    rw [hF]
    clear hs hF
    subst hnt
    go_enter Tryz.func128, Tryz.ntmps128
    go_wp2
    go_end0
    exact ⟨rfl, s, Step.refl HS.out, rfl, rfl, rfl, rfl, rfl⟩
  · have hq : (r.name.toList == t.toList) = false := by rw [beq_toList]; simp [hnt]
    have HN := hid hnt
    have HB1 := hid hb1; have HB2 := hid hb2; have HB3 := hid hb3; have HB4 := hid hb4
    have l1 := World.block_lt_of_cell? w _ h1
    have l2 := World.block_lt_of_cell? w _ h2
    have l3 := World.block_lt_of_cell? w _ h3
    have l4 := World.block_lt_of_cell? w _ h4
    have HR := hid hr
    clear hs hnt hb1 hb2 hb3 hb4 hr
    go_enter Tryz.func128, Tryz.ntmps128
    go_wp2_with fail
    refine (drop_any HS.out t).mono ?_
    rintro e w1 ⟨rfl, hst⟩
    have g1 := (hst.other (i := 0) HB1.out l1).trans h1
    have g2 := (hst.other (i := 0) HB2.out l2).trans h2
    have g3 := (hst.other (i := 0) HB3.out l3).trans h3
    have g4 := (hst.other (i := 0) HB4.out l4).trans h4
    have cm := hst.ins.c_map
    have hr1 : r ∈ dropRec s.recs t := List.mem_filter.2 ⟨HR.out, by simpa using HN.out⟩
    have k1 : ∀ b, b ∉ s.blocks → b < w.heap.size → b ≠ s.m := fun b hb _ e => hb (by simp [DS.blocks, e])
    obtain ⟨w2, hrun2, hm2, hu2⟩ := run_delete_str (P := Tryz.prog) (w := w1.drew) Tryz.underlying118 Tryz.underlying9 hst.ins.map r.name 0 9
    obtain ⟨w3, hrun3, hm3, hu3⟩ := run_mapUpdate_str (P := Tryz.prog) (w := w2.drew) Tryz.underlying118 Tryz.underlying9 hm2 t (.pointer (some ⟨r.blk, 0, none⟩))
    have hu23 : Upd (fun k => k = s.m) w1 w3 := ((Upd.refl (fun k => k = s.m) w1).drew.trans hu2 (fun k _ h => h)).trans (((Upd.refl (fun k => k = s.m) w2).drew).trans hu3 (fun k _ h => h)) (fun k _ h => h)
    have hst3 := hst.ins.renamed hr1 HN.out (fileAt_dropped s t) hok hu23 hm3
    have habs : (dropRec (dropRec s.recs t) r.name ++ [{ r with name := t }]).map FRec.abs = renameF (s.recs.map FRec.abs) r.name t r.abs := by
      unfold renameF
      rw [if_neg HN.out, List.map_append, dropRec_abs, dropRec_abs]; rfl
    have n1 := k1 b1 HB1.out l1
    have n2 := k1 b2 HB2.out l2
    have n3 := k1 b3 HB3.out l3
    have n4 := k1 b4 HB4.out l4
    have lw1 := hst.upd.size
    have d2 : w2.cell? ⟨b2, 0, none⟩ = some (.string t) := (World.cell?_of_block (hu2.block b2 (by show b2 < w1.heap.size; omega) n2)).trans g2
    have d3 : w2.cell? ⟨b3, 0, none⟩ = some (.pointer (some ⟨s.p, 0, none⟩)) := (World.cell?_of_block (hu2.block b3 (by show b3 < w1.heap.size; omega) n3)).trans g3
    have d4 : w2.cell? ⟨b4, 0, none⟩ = some (.pointer (some ⟨r.blk, 0, none⟩)) := (World.cell?_of_block (hu2.block b4 (by show b4 < w1.heap.size; omega) n4)).trans g4
    have dm : w2.cell? ⟨s.p, 2, none⟩ = some (.map (some s.m)) := (World.cell?_of_block (hu2.block s.p hst.ins.plt hst.ins.pm)).trans cm
    have H1 := hid (hst.trans hst3); have H2 := hid habs
    clear hst3 habs hm3 hm2 hu23 hu3 hu2 hst k1 n1 n2 n3 n4
    go_wp2
    go_region
    go_wp2
    go_region
    go_end0
    exact ⟨rfl, _, H1.out, rfl, rfl, rfl, rfl, H2.out⟩

def renameA (s : DS) (n t : ByteArray) : Int × DiskA :=
  if lookRes s.down (nameOk n.data.toList) false (s.fileAt n).isSome ≠ 0 then (lookRes s.down (nameOk n.data.toList) false (s.fileAt n).isSome, s.abs)
  else if nameOk t.data.toList = false then (40, s.abs)
  else match s.fileAt n with
    | none => (42, s.abs)
    | some r => actA s.abs (some 8) (renameF s.abs.files n t r.abs)

set_option maxRecDepth 100000 in
set_option maxHeartbeats 2000000 in
theorem rename_any {w : World} {s : DS} (hs : s.In w) (n t : ByteArray) :
    Calls Tryz.prog 64 #[.pointer (some ⟨s.p, 0, none⟩), .string n, .string t] w fun e w' => e = .returned (.int .i64 (renameA s n t).1) ∧ ∃ s2, Step w w' s s2 ∧ s2.abs = (renameA s n t).2 := by
  have hu2 : Upd (fun _ => False) w (((w.alloc (.cells #[.pointer (some ⟨s.p, 0, none⟩)] 28)).alloc (.cells #[.string n] 9)).alloc (.cells #[.string t] 9)) := (((Upd.refl _ _).alloc _).alloc _).alloc _
  have hin := hs.upd hu2 (fun _ _ h => h)
  have hst := Step.of_upd hs hu2
  have HL := hid (look_any hin n false)
  have hplt := hs.plt
  have cm := hin.c_map
  have HIN := hid hin; have HST := hid hst; have HS0 := hid hs
  clear hu2 hst
  by_cases h1 : lookRes s.down (nameOk n.data.toList) false (s.fileAt n).isSome = 0
  · rw [h1] at HL
    cases hok : nameOk t.data.toList with
    | false =>
      have hc : renameA s n t = (40, s.abs) := by unfold renameA; rw [if_neg (by rw [h1]; simp), if_pos hok]
      rw [hc]
      clear h1 hc hs hin cm
      go_enter Tryz.func64, Tryz.ntmps64
      go_wp2_with (first | (go_at_call 89; refine HL.out.mono ?_; rintro e w' ⟨rfl, rfl⟩) | (go_at_call 127; refine (named_any _ _).mono ?_; rintro e w' ⟨rfl, rfl⟩))
      go_ret
      exact ⟨rfl, s, HST.out, rfl⟩
    | true =>
      have HOK := hid hok
      have q1 : ((((w.alloc (.cells #[.pointer (some ⟨s.p, 0, none⟩)] 28)).alloc (.cells #[.string n] 9)).alloc (.cells #[.string t] 9))).cell? ⟨w.heap.size, 0, none⟩ = some (.pointer (some ⟨s.p, 0, none⟩)) := by simp [go_sem]
      have q2 : ((((w.alloc (.cells #[.pointer (some ⟨s.p, 0, none⟩)] 28)).alloc (.cells #[.string n] 9)).alloc (.cells #[.string t] 9))).cell? ⟨w.heap.size + 1, 0, none⟩ = some (.string n) := by simp [go_sem]
      have q3 : ((((w.alloc (.cells #[.pointer (some ⟨s.p, 0, none⟩)] 28)).alloc (.cells #[.string n] 9)).alloc (.cells #[.string t] 9))).cell? ⟨w.heap.size + 1 + 1, 0, none⟩ = some (.string t) := by simp [go_sem]
      have q4 : ((((w.alloc (.cells #[.pointer (some ⟨s.p, 0, none⟩)] 28)).alloc (.cells #[.string n] 9)).alloc (.cells #[.string t] 9))).heap.size = w.heap.size + 1 + 1 + 1 := by simp
      have hlk := run_lookup_file (w := ((((w.alloc (.cells #[.pointer (some ⟨s.p, 0, none⟩)] 28)).alloc (.cells #[.string n] 9)).alloc (.cells #[.string t] 9))).drew) (hin.upd ((Upd.refl (fun _ => False) _).drew) (fun _ _ h => h)) n
      have hlk' := run_lookup_file (w := (((((w.alloc (.cells #[.pointer (some ⟨s.p, 0, none⟩)] 28)).alloc (.cells #[.string n] 9)).alloc (.cells #[.string t] 9))).alloc (.cells #[.pointer none] 152)).drew) (hin.upd (((Upd.refl (fun _ => False) _).alloc _).drew) (fun _ _ h => h)) n
      unfold DS.ptrAt at hlk hlk'
      have hp1 : s.p < w.heap.size + 1 := by omega
      have hp2 : s.p < w.heap.size + 1 + 1 := by omega
      have hp3 : s.p < w.heap.size + 1 + 1 + 1 := by omega
      cases hf : s.fileAt n with
      | none =>
        have hc : renameA s n t = (42, s.abs) := by unfold renameA; rw [if_neg (by rw [h1]; simp), if_neg (by simp [hok])]; simp only [hf]
        rw [hc]
        rw [hf] at hlk hlk'
        simp only [] at hlk hlk'
        clear h1 hc hs hin hf
        go_enter Tryz.func64, Tryz.ntmps64
        go_wp2_with (first | (go_at_call 89; refine HL.out.mono ?_; rintro e w' ⟨rfl, rfl⟩) | (go_at_call 127; refine (named_any _ _).mono ?_; rintro e w' ⟨rfl, rfl⟩))
        have HQ4 := hid q4; clear q4
        go_region
        all_goals go_wp2
        all_goals go_ret
        all_goals exact ⟨rfl, s, HST.out.trans (Step.of_upd HIN.out (((Upd.refl _ _).alloc _).drew)), rfl⟩
      | some r =>
        have hc : renameA s n t = actA s.abs (some 8) (renameF s.abs.files n t r.abs) := by unfold renameA; rw [if_neg (by rw [h1]; simp), if_neg (by simp [hok])]; simp only [hf]
        rw [hc]
        rw [hf] at hlk hlk'
        simp only [] at hlk hlk'
        obtain ⟨hr, hnm⟩ := fileAt_mem hf
        have hen := fun caps W => run_enters (P := Tryz.prog) (G := 128) Tryz.func128 (by kernel_rfl) (by kernel_rfl) caps W
        have HE := hid hen; have HR := hid hr; have HN := hid hnm
        have hnb : ∀ k, w.heap.size ≤ k → k ∉ s.blocks := fun k hk hm => by have := hs.lt k hm; omega
        have HNB := hid hnb
        clear h1 hc hs hin hf hen hr hnm hnb
        go_enter Tryz.func64, Tryz.ntmps64
        go_wp2_with (first | (go_at_call 89; refine HL.out.mono ?_; rintro e w' ⟨rfl, rfl⟩) | (go_at_call 127; refine (named_any _ _).mono ?_; rintro e w' ⟨rfl, rfl⟩))
        have HQ4 := hid q4; clear q4
        go_region
        all_goals
          go_wp2_with fail
          have hup : Upd (fun _ => False) w (((((w.alloc (.cells #[.pointer (some ⟨s.p, 0, none⟩)] 28)).alloc (.cells #[.string n] 9)).alloc (.cells #[.string t] 9)).alloc (.cells #[.pointer (some ⟨r.blk, 0, none⟩)] 152)).drew) := ((((Upd.refl _ _).alloc _).alloc _).alloc _).alloc _ |>.drew
          have p1 : (((((w.alloc (.cells #[.pointer (some ⟨s.p, 0, none⟩)] 28)).alloc (.cells #[.string n] 9)).alloc (.cells #[.string t] 9)).alloc (.cells #[.pointer (some ⟨r.blk, 0, none⟩)] 152)).drew).cell? ⟨w.heap.size, 0, none⟩ = some (.pointer (some ⟨s.p, 0, none⟩)) := by simp [go_sem]
          have p2 : (((((w.alloc (.cells #[.pointer (some ⟨s.p, 0, none⟩)] 28)).alloc (.cells #[.string n] 9)).alloc (.cells #[.string t] 9)).alloc (.cells #[.pointer (some ⟨r.blk, 0, none⟩)] 152)).drew).cell? ⟨w.heap.size + 1, 0, none⟩ = some (.string n) := by simp [go_sem]
          have p3 : (((((w.alloc (.cells #[.pointer (some ⟨s.p, 0, none⟩)] 28)).alloc (.cells #[.string n] 9)).alloc (.cells #[.string t] 9)).alloc (.cells #[.pointer (some ⟨r.blk, 0, none⟩)] 152)).drew).cell? ⟨w.heap.size + 1 + 1, 0, none⟩ = some (.string t) := by simp [go_sem]
          have p4 : (((((w.alloc (.cells #[.pointer (some ⟨s.p, 0, none⟩)] 28)).alloc (.cells #[.string n] 9)).alloc (.cells #[.string t] 9)).alloc (.cells #[.pointer (some ⟨r.blk, 0, none⟩)] 152)).drew).cell? ⟨w.heap.size + 1 + 1 + 1, 0, none⟩ = some (.pointer (some ⟨r.blk, 0, none⟩)) := by simp [go_sem]
          have p5 : (((((w.alloc (.cells #[.pointer (some ⟨s.p, 0, none⟩)] 28)).alloc (.cells #[.string n] 9)).alloc (.cells #[.string t] 9)).alloc (.cells #[.pointer (some ⟨r.blk, 0, none⟩)] 152)).drew).heap.size = w.heap.size + 1 + 1 + 1 + 1 := by simp
          have HUP := hid hup
          clear hup q1 q2 q3 hlk hlk' cm
          generalize (((((w.alloc (.cells #[.pointer (some ⟨s.p, 0, none⟩)] 28)).alloc (.cells #[.string n] 9)).alloc (.cells #[.string t] 9)).alloc (.cells #[.pointer (some ⟨r.blk, 0, none⟩)] 152)).drew) = W at *
          have hin2 := HS0.out.upd HUP.out (fun _ _ h => h)
          have HIN2 := hid hin2; clear hin2
          go_still_tail 6, (by kernel_rfl)
          change wpList _ _ _ _ _ W.drew
          go_wp2_with fail
          refine (act_any (co := some 8) (HIN2.out.upd ((Upd.refl (fun _ => False) W).drew) (fun _ _ h => h)) (HE.out _) (F := renameF s.abs.files n t r.abs) ?_ (by simp)).mono ?_
          · intro W1 s1 hi1 hu1 e1 e2 e3 e4 e5
            have keep : ∀ k i, w.heap.size ≤ k → k < W.heap.size → W1.cell? ⟨k, i, none⟩ = W.cell? ⟨k, i, none⟩ := fun k i h1 h2 => World.cell?_of_block (hu1.block k h2 (by show k ≠ s.p; omega))
            have hb1 : s1.blocks = s.blocks := by simp [DS.blocks, e1, e2, e3]
            refine (rename1_any hi1 (r := r) (by rw [e3]; exact HR.out) HN.out HOK.out ((keep _ 0 (by omega) (by omega)).trans p2) ((keep _ 0 (by omega) (by omega)).trans p3) (((keep _ 0 (by omega) (by omega)).trans p1).trans (by rw [e1])) ((keep _ 0 (by omega) (by omega)).trans p4)
              (by rw [hb1]; exact HNB.out _ (by omega)) (by rw [hb1]; exact HNB.out _ (by omega)) (by rw [hb1]; exact HNB.out _ (by omega)) (by rw [hb1]; exact HNB.out _ (by omega))).mono ?_
            rintro e W' ⟨rfl, s2, hst, c1, c2, c3, c4, c5⟩
            exact ⟨rfl, s2, hst, c1, c2, c3, c4, by rw [c5, e3]; rfl⟩
          · rintro e w1 ⟨rfl, s2, hst, habs⟩
            have H1 := hid hst; have H2 := hid habs
            clear hst habs
            go_wp2
            go_ret
            exact ⟨rfl, s2, ((Step.of_upd HS0.out HUP.out).trans (Step.of_upd HIN2.out ((Upd.refl _ _).drew))).trans H1.out, H2.out⟩
  · have hc : renameA s n t = (lookRes s.down (nameOk n.data.toList) false (s.fileAt n).isSome, s.abs) := by unfold renameA; rw [if_pos h1]
    rw [hc]
    generalize lookRes s.down (nameOk n.data.toList) false (s.fileAt n).isSome = e0 at *
    have hb : (e0 != 0) = true := by simpa using h1
    clear h1 hc hs hin cm
    go_enter Tryz.func64, Tryz.ntmps64
    go_wp2_with (go_at_call 89; refine HL.out.mono ?_; rintro e w' ⟨rfl, rfl⟩)
    go_ret
    exact ⟨rfl, s, HST.out, rfl⟩

end Go.Proofs.YtgaidmohdhaonaaGreatDoor

namespace Go.Proofs.YtgaidmohdhaonaaGreatDoor
set_option linter.unusedVariables false
set_option linter.unusedSimpArgs false
set_option linter.unnecessarySimpa false
set_option linter.unusedSectionVars false
open Go Go.RowKit

/-- v is a slice that reads as the bytes bs. -/
def BytesAt (w : World) (v : Value) (bs : List UInt8) : Prop :=
  ∃ ao cap, v = .slice ao bs.length cap ∧ (ao = none → bs = [] ∧ cap = 0) ∧ ∀ a, ao = some a → ∀ j u, (bs.map byteV)[j]? = some u → w.cell? (a.add j) = some u

theorem DataIs.bytes {w : World} {v : Value} {bs : List UInt8} (h : DataIs w v bs) : BytesAt w v bs := by
  obtain ⟨ao, cap, hv, -, -, hn, hs⟩ := h.shape
  refine ⟨ao, cap, hv, hn, fun a ha j u hu => ?_⟩
  obtain ⟨h1, h2, -, h4⟩ := hs a ha
  rw [List.getElem?_map] at hu
  by_cases hj : j < bs.length
  · rw [List.getElem?_eq_getElem hj] at hu
    simp only [Option.map_some, Option.some.injEq] at hu
    rw [← hu, ← h4 j hj]
    have ha' : a = ⟨a.block, 0, none⟩ := by cases a; simp only at h1 h2; subst h1 h2; rfl
    rw [ha', show (Addr.add ⟨a.block, 0, none⟩ j : Addr) = ⟨a.block, j, none⟩ from by simp [Addr.add_lit]]
  · rw [List.getElem?_eq_none (by omega)] at hu; cases hu

theorem Tryz.infoByte : (Tryz.prog.info? 5).map (fun i => (i.zero, i.size, i.bytes)) = some (some (.int .u8 0), 1, 1) := by kernel_rfl

theorem nextcap_small {n c : Nat} (h : n ≤ 140737488355328) (hc : c < n) : Builtin.nextslicecap n c ≤ 281474976710656 := by
  have := nextslicecap_le hc
  omega

/-- 'f.data = append(f.data, b...)'. -/
theorem run_append_data {w : World} {v src : Value} {bs news : List UInt8} (hd : DataIs w v bs) (hs : BytesAt w src news) (hlen : bs.length + news.length ≤ 140737488355328) (ty : TypeId) :
    ∃ v' w', (Builtin.append_ #[22, 22] ty #[v, src]).run Tryz.prog w = .ok v' w' ∧ DataIs w' v' (bs ++ news) ∧ Upd (fun k => v.ownBlock = some k) w w' ∧ ∀ k, v'.ownBlock = some k → v.ownBlock = some k ∨ w.heap.size ≤ k := by
  obtain ⟨i0, hi, hz0, hz1, hz2⟩ := info_parts Tryz.infoByte
  obtain ⟨ao, scap, rfl, hn0, hc⟩ := hs
  have h1 : ∀ u ∈ news.map byteV, u.oneCell' = true := by intro u hu; obtain ⟨b, _, rfl⟩ := List.mem_map.1 hu; rfl
  rcases hd with ⟨rfl, rfl⟩ | ⟨g, cap, cur, rfl, hg, hnc, hcs, hcm, htake⟩
  · -- nil
    cases ao with
    | none =>
      obtain ⟨rfl, rfl⟩ := hn0 rfl
      have hr := run_append_owned_none (P := Tryz.prog) (w := w) 0 22 ty 5 i0 1 Tryz.underlying22 hi (.slice none 0 0) 0 [] (World.ownsRow_nil _ _ _ _)
      exact ⟨_, w, hr, .inl ⟨rfl, rfl⟩, Upd.refl _ _, by simp [Value.ownBlock]⟩
    | some a =>
      obtain ⟨v', w', hr, hown, hgr, -⟩ := run_append_own (P := Tryz.prog) w w.heap.size 22 ty 5 i0 (.int .u8 0) 1 1 Tryz.underlying22 hi hz0 hz1 hz2 rfl (by decide) (.slice none 0 0) 0 [] (World.ownsRow_nil _ _ _ _) a news.length scap (news.map byteV) (by simp) (hc a rfl) h1 (by unfold maxLen; omega) (by omega) (Nat.le_refl _)
      refine ⟨v', w', hr, ?_, (Upd.refl _ _).grown hgr (fun k hk _ => by simp [Value.ownBlock] at hk), fun k hk => .inr (hown.lt k hk).1⟩
      rw [List.nil_append] at hown ⊢
      rw [Nat.zero_add] at hown
      exact DataIs.of_owns hown
  · have hlt := lt_of_heap hg
    by_cases hroom : bs.length + news.length ≤ cap
    · cases ao with
      | none =>
        obtain ⟨rfl, rfl⟩ := hn0 rfl
        have hr : (Builtin.append_ #[22, 22] ty #[.slice (some ⟨g, 0, none⟩) bs.length cap, .slice none ([] : List UInt8).length 0]).run Tryz.prog w = .ok (.slice (some ⟨g, 0, none⟩) bs.length cap) w := by
          have hnc' : bs.length ≤ cap := hnc
          simp [Builtin.append_, run_underlying Tryz.underlying22, sizeOf, typeInfo, hi, Builtin.lenOf, hnc', run_firstCells_none, storeCells]
        exact ⟨_, w, hr, by rw [List.append_nil]; exact .inr ⟨g, cap, cur, rfl, hg, hnc, hcs, hcm, htake⟩, Upd.refl _ _, fun k hk => .inl hk⟩
      | some a =>
        have hr := run_append_room (P := Tryz.prog) w 22 ty 5 i0 Tryz.underlying22 hi g bs.length cap cur hg a news.length scap (news.map byteV) (by simp [hz1]) (hc a rfl) h1 hroom (by simp [hz1]; omega)
        refine ⟨_, _, hr, ?_, ?_, fun k hk => .inl hk⟩
        · refine .inr ⟨g, cap, (cur.toList.take (bs.length * i0.size) ++ news.map byteV ++ cur.toList.drop (bs.length * i0.size + (news.map byteV).length)).toArray, by rw [List.length_append], ?_, by rw [List.length_append]; exact hroom, ?_, hcm, ?_⟩
          · simp only [World.setRow, Array.getElem?_modify, if_pos, hg, Option.map_some]
          · simp [hz1]; omega
          · simp only [hz1, Nat.mul_one]
            rw [htake, List.length_append, List.map_append]
            rw [List.take_append_of_le_length (by simp)]
            rw [List.take_of_length_le (by simp)]
        · refine ⟨rfl, rfl, rfl, by simp, fun k hk hn => ?_⟩
          simp only [World.setRow, Array.getElem?_modify]
          rw [if_neg (fun e => hn (by simp [Value.ownBlock, e]))]
    · cases ao with
      | none =>
        obtain ⟨rfl, rfl⟩ := hn0 rfl
        exact absurd hnc (by simpa using hroom)
      | some a =>
        have holds : ∀ j u, (bs.map byteV)[j]? = some u → w.cell? ((⟨g, 0, none⟩ : Addr).add j) = some u := by
          intro j u hu
          rw [show (Addr.add ⟨g, 0, none⟩ j : Addr) = ⟨g, j, none⟩ from by simp [Addr.add_lit], cell_of_row w g j cur _ _ hg, ← Array.getElem?_toList]
          rw [← htake, List.getElem?_take] at hu
          split at hu
          · exact hu
          · cases hu
        have hr := run_append_grow (P := Tryz.prog) w 22 ty 5 i0 (.int .u8 0) Tryz.underlying22 hi hz0 ⟨g, 0, none⟩ bs.length cap (bs.map byteV) (by simp [hz1]) holds a news.length scap (news.map byteV) (by simp [hz1]) (hc a rfl) (by omega) (by omega)
          (by rw [hz2, Nat.mul_one]; exact nextcap_small hlen (by omega))
        have hge := grownCap_ge w (bs.length + news.length) cap 5
        have hle := grownCap_le_maxLen w (bs.length + news.length) cap 5 (by unfold maxLen; omega)
        refine ⟨_, _, hr, ?_, ((Upd.refl _ _).drew).alloc _, fun k hk => .inr (by simp only [Value.ownBlock, Option.some.injEq] at hk; omega)⟩
        refine .inr ⟨w.heap.size, _, _, by rw [List.length_append], heap_alloc_new w.drew _, by rw [List.length_append]; exact hge, ?_, hle, ?_⟩
        · simp [size_zeroCells, Value.cells]; omega
        · simp only [Array.toList_append, List.append_assoc, List.length_append, List.map_append]
          rw [← List.append_assoc, List.take_append_of_le_length (by simp), List.take_of_length_le (by simp)]

theorem step_append_eq {P : Program} {ops : Array Oper} {o : Oper} {a : Act} {w : World} {K : Act → World → Prop} {Q : Exit → Act → World → Prop} {E : Prop}
    (hg : o.guard = none) (s x : Operand) (t : TypeId) (hop : o.op = Op.call { callee := Callee.builtin Builtin.append, args := #[s, x], argTypes := #[t, t] }) {va vx v : Value} {w' : World} (hs : a.eval s = va) (hx : a.eval x = vx)
    (hrun : (Builtin.append_ #[t, t] o.type #[va, vx]).run P w = .ok v w') (hK : K (a.put o.dst v) w') :
    if Region.wanted o (yielded ops a.tmps) = true then Oper.wp P o a w K Q else E := by
  have hw : Region.wanted o (yielded ops a.tmps) = true := by simp [Region.wanted, hg]
  rw [if_pos hw]
  unfold Oper.wp
  simp [execOp, hop, resolve, invoke, builtin, hs, hx, hrun, Result.andThen]
  exact hK

set_option maxRecDepth 100000 in
set_option maxHeartbeats 2000000 in
theorem append1_any {w : World} {s : DS} (hs : s.In w) {r : FRec} (hr : r ∈ s.recs) {v : Value} {bs : List UInt8} (hv : BytesAt w v bs) (hroom : s.used + bs.length ≤ s.cap) {b1 b2 b3 : Nat}
    (h1 : w.cell? ⟨b1, 0, none⟩ = some (.pointer (some ⟨r.blk, 0, none⟩))) (h2 : w.cell? ⟨b2, 0, none⟩ = some v) (h3 : w.cell? ⟨b3, 0, none⟩ = some (.pointer (some ⟨s.p, 0, none⟩)))
    (hb1 : b1 ∉ s.blocks) (hb2 : b2 ∉ s.blocks) (hb3 : b3 ∉ s.blocks) :
    Calls Tryz.prog 92 #[.pointer (some ⟨b1, 0, none⟩), .pointer (some ⟨b2, 0, none⟩), .pointer (some ⟨b3, 0, none⟩)] w fun e w' => e = .returned (.tuple #[]) ∧
      ∃ s2, Step w w' s s2 ∧ s2.cap = s.cap ∧ s2.down = s.down ∧ s2.armed = s.armed ∧ s2.cnt = s.cnt ∧ s2.recs.map FRec.abs = updA (s.recs.map FRec.abs) r.name (fun f => { f with data := f.data ++ bs }) := by
  have hf := hs.files r hr
  have c0 := hf.c_dv
  have f0 := frozen_of_row w r.blk 0 _ _ hf.cells
  have c1 := hs.c_used
  have hdl := hs.data_le hr
  have hcap := hs.cap
  have hdr : DataIs w.drew r.dv r.data := hf.data
  obtain ⟨v', w', hrun, hdat, hu, hown⟩ := run_append_data (w := w.drew) (src := v) (news := bs) hdr hv (by omega) 22
  have l1 := World.block_lt_of_cell? w _ h1
  have l2 := World.block_lt_of_cell? w _ h2
  have l3 := World.block_lt_of_cell? w _ h3
  have out : ∀ k, k ∉ s.blocks → ¬ r.dv.ownBlock = some k := fun k hk e => hk (by simp only [DS.blocks, List.mem_cons]; exact .inr (.inr (mem_recBlocks.2 ⟨r, hr, by simp [FRec.blocks, e]⟩)))
  have keep : ∀ k i, k < w.heap.size → ¬ r.dv.ownBlock = some k → w'.cell? ⟨k, i, none⟩ = w.cell? ⟨k, i, none⟩ := fun k i hk hn => World.cell?_of_block (hu.block k hk hn)
  have hblk : ¬ r.dv.ownBlock = some r.blk := by
    have hb := hs.blocks
    obtain ⟨pre, post, e1, -⟩ := setRec_split hs.names hr (r' := r) rfl
    rw [DS.blocks, e1] at hb
    intro e
    simp [recBlocks, FRec.blocks, e, List.nodup_append] at hb
  have hblt : r.blk < w.heap.size := lt_of_heap hf.cells
  have hp : ¬ r.dv.ownBlock = some s.p := fun e => hs.p_ne_blk hr (k := s.p) (by simp [FRec.blocks, e]) rfl
  have d1 := (keep b1 0 l1 (out b1 hb1)).trans h1
  have d2 := (keep b2 0 l2 (out b2 hb2)).trans h2
  have d3 := (keep b3 0 l3 (out b3 hb3)).trans h3
  have d0 := (keep r.blk 0 hblt hblk).trans c0
  have df0 : w'.frozen? ⟨r.blk, 0, none⟩ = false := (World.frozen?_of_block (hu.block r.blk hblt hblk)).trans f0
  have du := (keep s.p 1 hs.plt hp).trans c1
  have dfu : w'.frozen? ⟨s.p, 1, none⟩ = false := (World.frozen?_of_block (hu.block s.p hs.plt hp)).trans (hs.free 1)
  obtain ⟨ao, scap, hvs, -, -⟩ := hv
  obtain ⟨ao', cap', hdv, -, -, -, -⟩ := hf.data.shape
  obtain ⟨ao2, cap2, hdv2, -, -, -, -⟩ := hdat.shape
  have n1 : b1 ≠ r.blk := fun e => hb1 (by simp only [DS.blocks, List.mem_cons]; exact .inr (.inr (mem_recBlocks.2 ⟨r, hr, by simp [FRec.blocks, e]⟩)))
  have n2 : b2 ≠ r.blk := fun e => hb2 (by simp only [DS.blocks, List.mem_cons]; exact .inr (.inr (mem_recBlocks.2 ⟨r, hr, by simp [FRec.blocks, e]⟩)))
  have n3 : b3 ≠ r.blk := fun e => hb3 (by simp only [DS.blocks, List.mem_cons]; exact .inr (.inr (mem_recBlocks.2 ⟨r, hr, by simp [FRec.blocks, e]⟩)))
  have n4 : s.p ≠ r.blk := fun e => hs.p_ne_blk hr (k := r.blk) (by simp [FRec.blocks]) e.symm
  have hst : Step w ((w'.setCell ⟨r.blk, 0, none⟩ v').setCell ⟨s.p, 1, none⟩ (.int .i64 ((s.used : Int) + (bs.length : Int)))).drew s { s with recs := setRec s.recs { r with dv := v', data := r.data ++ bs } } := by
    have hused : ((usedOf (setRec s.recs { r with dv := v', data := r.data ++ bs }) : Nat) : Int) = (s.used : Int) + (bs.length : Int) := by
      have := usedOf_setRec hs.names hr (r' := { r with dv := v', data := r.data ++ bs }) rfl
      unfold DS.used; simp at this; omega
    have hU : Upd (fun k => k = s.p ∨ k ∈ r.blocks) w ((w'.setCell ⟨r.blk, 0, none⟩ v').setCell ⟨s.p, 1, none⟩ (.int .i64 ((s.used : Int) + (bs.length : Int)))).drew := by
      refine ((((Upd.refl _ w).drew.trans hu ?_).setCell ?_ _).setCell ?_ _).drew
      · intro k _ hk; exact .inr (by simp [FRec.blocks, hk])
      · intro _; exact .inr (by simp [FRec.blocks])
      · intro _; exact .inl rfl
    have hcells : (w'.setCell ⟨r.blk, 0, none⟩ v').heap[r.blk]? = some (.cells #[v', .int .i64 r.synced] 155 (0, 0)) :=
      heap_setCell_at w' r.blk 0 _ _ _ (hu.get hf.cells hblk)
    refine hs.turned (r := r) (r' := { r with dv := v', data := r.data ++ bs }) hr rfl rfl rfl rfl rfl rfl hs.armed hU ⟨?_, ?_, ?_, hf.name⟩ ?_ ?_ hown
    · show ((w'.setCell ⟨r.blk, 0, none⟩ v').setCell ⟨s.p, 1, none⟩ _).heap[r.blk]? = _
      rw [heap_setCell_ne _ _ _ _ n4.symm]; exact hcells
    · refine hdat.of_block (fun k hk => ?_)
      have e1 : k ≠ s.p := fun e => by
        rcases hown k hk with h | h
        · exact hp (e ▸ h)
        · have := hs.plt; have : w.drew.heap.size = w.heap.size := rfl; omega
      have e2 : k ≠ r.blk := fun e => by
        rcases hown k hk with h | h
        · exact hblk (e ▸ h)
        · have : w.drew.heap.size = w.heap.size := rfl; omega
      show ((w'.setCell ⟨r.blk, 0, none⟩ v').setCell ⟨s.p, 1, none⟩ _).heap[k]? = _
      rw [heap_setCell_ne _ _ _ _ e1, heap_setCell_ne _ _ _ _ e2]
    · show r.synced ≤ (r.data ++ bs).length
      have := hf.synced; simp; omega
    · show ((w'.setCell ⟨r.blk, 0, none⟩ v').setCell ⟨s.p, 1, none⟩ _).heap[s.p]? = _
      have ht : (w'.setCell ⟨r.blk, 0, none⟩ v').heap[s.p]? = some (.cells s.cells 122 (0, 0)) := by
        rw [heap_setCell_ne _ _ _ _ n4]; exact hu.get hs.top hp
      rw [heap_setCell_at _ _ _ _ _ _ ht, ← hused]; rfl
    · show usedOf _ ≤ s.cap
      have e : usedOf (setRec s.recs { r with dv := v', data := r.data ++ bs }) = s.used + bs.length := by omega
      rw [e]; exact hroom
  have HST := hid hst
  have habs : (setRec s.recs { r with dv := v', data := r.data ++ bs }).map FRec.abs = updA (s.recs.map FRec.abs) r.name (fun f => { f with data := f.data ++ bs }) :=
    setRec_abs (r := r) (r' := { r with dv := v', data := r.data ++ bs }) hs.names hr rfl rfl
  have HA := hid habs
  have hu1 : (s.used : Int) + (bs.length : Int) ≤ 67108864 := by omega
  rw [hdv] at hrun c0 d0
  rw [hvs] at hrun h2 d2
  rw [List.length_append] at hdv2
  rw [hdv2] at hrun HST HA
  have huw := hu.size
  clear hst habs hs hf hdat hu hown keep out hdr hdv hvs hdv2 hb1 hb2 hb3 hp hblk hroom hdl hcap
  go_enter Tryz.func92, Tryz.ntmps92
  go_wp2
  have HRUN := hid hrun; clear hrun
  go_region_law (refine step_append_eq rfl (.tmp 7) (.tmp 8) 22 rfl rfl rfl HRUN.out ?_)
  all_goals
    go_wp2
    go_region
    go_end0
    exact ⟨rfl, _, HST.out, rfl, rfl, rfl, rfl, HA.out⟩

end Go.Proofs.YtgaidmohdhaonaaGreatDoor

namespace Go.Proofs.YtgaidmohdhaonaaGreatDoor
set_option linter.unusedVariables false
set_option linter.unusedSimpArgs false
set_option linter.unnecessarySimpa false
set_option linter.unusedSectionVars false
open Go Go.RowKit

/-- What Append makes of a disk. -/
def appendA (s : DS) (n : ByteArray) (bs : List UInt8) : Int × DiskA :=
  if lookRes s.down (nameOk n.data.toList) false (s.fileAt n).isSome ≠ 0 then (lookRes s.down (nameOk n.data.toList) false (s.fileAt n).isSome, s.abs)
  else if 67108864 < bs.length then (2, s.abs)
  else match s.fileAt n with
    | none => (42, s.abs)
    | some _ => if s.cap - s.used < bs.length then (4, s.abs) else actA s.abs (some 6) (updA s.abs.files n (fun f => { f with data := f.data ++ bs }))

set_option maxRecDepth 100000 in
set_option maxHeartbeats 2000000 in
theorem append_any {w : World} {s : DS} (hs : s.In w) (n : ByteArray) {v : Value} {bs : List UInt8} (hv : BytesAt w v bs) (hvb : ∀ a l c, v = .slice (some a) l c → 0 < l → a.block ≠ s.p ∧ a.block < w.heap.size) :
    Calls Tryz.prog 35 #[.pointer (some ⟨s.p, 0, none⟩), .string n, v] w fun e w' => e = .returned (.int .i64 (appendA s n bs).1) ∧ ∃ s2, Step w w' s s2 ∧ s2.abs = (appendA s n bs).2 := by
  have hu2 : Upd (fun _ => False) w ((w.alloc (.cells #[.pointer (some ⟨s.p, 0, none⟩)] 28)).alloc (.cells #[v] 22)) := ((Upd.refl _ _).alloc _).alloc _
  have hin := hs.upd hu2 (fun _ _ h => h)
  have hst := Step.of_upd hs hu2
  have HL := hid (look_any hin n false)
  have hplt := hs.plt
  have hp1 : s.p < w.heap.size + 1 := by omega
  have hp2 : s.p < w.heap.size + 1 + 1 := by omega
  have cm := hin.c_map
  have hlk := run_lookup_file hin n
  unfold DS.ptrAt at hlk
  have HIN := hid hin; have HST := hid hst; have HS0 := hid hs
  obtain ⟨ao, cap, hvv, hv2, hv3⟩ := hv
  subst hvv
  have HV := hid hv2; have HV3 := hid hv3; have HVB := hid hvb
  clear hu2 hst hv2 hv3 hvb
  by_cases h1 : lookRes s.down (nameOk n.data.toList) false (s.fileAt n).isSome = 0
  · rw [h1] at HL
    by_cases h2 : 67108864 < bs.length
    · have hc : appendA s n bs = (2, s.abs) := by unfold appendA; rw [if_neg (by rw [h1]; simp), if_pos h2]
      rw [hc]
      have h2' : (67108864 : Int) < (bs.length : Int) := by omega
      clear h1 hc hs hin cm hlk h2
      go_enter Tryz.func35, Tryz.ntmps35
      go_wp2_with (go_at_call 89; refine HL.out.mono ?_; rintro e w' ⟨rfl, rfl⟩)
      go_ret
      exact ⟨rfl, s, HST.out, rfl⟩
    · have h2' : (bs.length : Int) ≤ 67108864 := by omega
      cases hf : s.fileAt n with
      | none =>
        have hc : appendA s n bs = (42, s.abs) := by unfold appendA; rw [if_neg (by rw [h1]; simp), if_neg h2]; simp only [hf]
        rw [hc]
        rw [hf] at hlk
        simp only [] at hlk
        clear h1 hc hs hin hf h2
        go_enter Tryz.func35, Tryz.ntmps35
        go_wp2_with (go_at_call 89; refine HL.out.mono ?_; rintro e w' ⟨rfl, rfl⟩)
        go_ret
        exact ⟨rfl, s, HST.out.trans (Step.of_upd HIN.out ((Upd.refl _ _).alloc _)), rfl⟩
      | some r =>
        rw [hf] at hlk
        simp only [] at hlk
        obtain ⟨hr, hnm⟩ := fileAt_mem hf
        have hin3 := hin.upd ((Upd.refl (fun _ => False) _).alloc (.cells #[.pointer (some ⟨r.blk, 0, none⟩)] 152)) (fun _ _ h => h)
        have hroomle := hs.room
        have hcaple := hs.cap
        by_cases h3 : s.cap - s.used < bs.length
        · have hc : appendA s n bs = (4, s.abs) := by unfold appendA; rw [if_neg (by rw [h1]; simp), if_neg h2]; simp only [hf]; rw [if_pos h3]
          rw [hc]
          have h3' : (((s.cap - s.used : Nat) : Int)) < (bs.length : Int) := by omega
          have HF := hid (fun k => free_any (hin3.upd ((Upd.refl (fun _ => False) _).drewN k) (fun _ _ h => h)))
          have HIN3 := hid hin3
          clear h1 hc hs hin hf h2 hr hnm hin3 h3 hroomle hcaple
          go_enter Tryz.func35, Tryz.ntmps35
          go_wp2_with (go_at_call 89; refine HL.out.mono ?_; rintro e w' ⟨rfl, rfl⟩)
          go_quiet ((go_at_call 34; exact Calls.quiet_of (HF.out _)))
          go_wp2
          go_ret
          exact ⟨rfl, s, (HST.out.trans (Step.of_upd HIN.out ((Upd.refl _ _).alloc _))).trans (Step.of_upd HIN3.out ((Upd.refl _ _).drewN _)), rfl⟩
        · have hc : appendA s n bs = actA s.abs (some 6) (updA s.abs.files n (fun f => { f with data := f.data ++ bs })) := by unfold appendA; rw [if_neg (by rw [h1]; simp), if_neg h2]; simp only [hf]; rw [if_neg h3]
          rw [hc]
          have h3' : (bs.length : Int) ≤ (((s.cap - s.used : Nat) : Int)) := by omega
          have hroom : s.used + bs.length ≤ s.cap := by omega
          have HF := hid (fun k => free_any (hin3.upd ((Upd.refl (fun _ => False) _).drewN k) (fun _ _ h => h)))
          have hen := fun caps W => run_enters (P := Tryz.prog) (G := 92) Tryz.func92 (by kernel_rfl) (by kernel_rfl) caps W
          have hnb : ∀ k, w.heap.size ≤ k → k ∉ s.blocks := fun k hk hm => by have := hs.lt k hm; omega
          have HE := hid hen; have HR := hid hr; have HN := hid hnm; have HNB := hid hnb; have HRM := hid hroom
          clear h1 hc hs hin hf h2 hr hnm hin3 h3 hroomle hcaple hen hnb hroom
          go_enter Tryz.func35, Tryz.ntmps35
          go_wp2_with (go_at_call 89; refine HL.out.mono ?_; rintro e w' ⟨rfl, rfl⟩)
          go_quiet ((go_at_call 34; exact Calls.quiet_of (HF.out _)))
          go_wp2_with fail
          have hup : Upd (fun _ => False) w ((((w.alloc (.cells #[.pointer (some ⟨s.p, 0, none⟩)] 28)).alloc (.cells #[.slice ao bs.length cap] 22)).alloc (.cells #[.pointer (some ⟨r.blk, 0, none⟩)] 152)).drewN nq) := (((((Upd.refl _ _).alloc _).alloc _).alloc _).drewN _)
          have p1 : ((((w.alloc (.cells #[.pointer (some ⟨s.p, 0, none⟩)] 28)).alloc (.cells #[.slice ao bs.length cap] 22)).alloc (.cells #[.pointer (some ⟨r.blk, 0, none⟩)] 152)).drewN nq).cell? ⟨w.heap.size, 0, none⟩ = some (.pointer (some ⟨s.p, 0, none⟩)) := by simp [go_sem]
          have p2 : ((((w.alloc (.cells #[.pointer (some ⟨s.p, 0, none⟩)] 28)).alloc (.cells #[.slice ao bs.length cap] 22)).alloc (.cells #[.pointer (some ⟨r.blk, 0, none⟩)] 152)).drewN nq).cell? ⟨w.heap.size + 1, 0, none⟩ = some (.slice ao bs.length cap) := by simp [go_sem]
          have p3 : ((((w.alloc (.cells #[.pointer (some ⟨s.p, 0, none⟩)] 28)).alloc (.cells #[.slice ao bs.length cap] 22)).alloc (.cells #[.pointer (some ⟨r.blk, 0, none⟩)] 152)).drewN nq).cell? ⟨w.heap.size + 1 + 1, 0, none⟩ = some (.pointer (some ⟨r.blk, 0, none⟩)) := by simp [go_sem]
          have p4 : ((((w.alloc (.cells #[.pointer (some ⟨s.p, 0, none⟩)] 28)).alloc (.cells #[.slice ao bs.length cap] 22)).alloc (.cells #[.pointer (some ⟨r.blk, 0, none⟩)] 152)).drewN nq).heap.size = w.heap.size + 1 + 1 + 1 := by simp [World.drewN]
          have HUP := hid hup
          clear hup hlk cm h3'
          generalize ((((w.alloc (.cells #[.pointer (some ⟨s.p, 0, none⟩)] 28)).alloc (.cells #[.slice ao bs.length cap] 22)).alloc (.cells #[.pointer (some ⟨r.blk, 0, none⟩)] 152)).drewN nq) = W at *
          have HIN2 := hid (HS0.out.upd HUP.out (fun _ _ h => h))
          go_still_tail 6, (by kernel_rfl)
          change wpList _ _ _ _ _ W.drew
          go_wp2_with fail
          refine (act_any (co := some 6) (HIN2.out.upd ((Upd.refl (fun _ => False) W).drew) (fun _ _ h => h)) (HE.out _) (F := updA s.abs.files n (fun f => { f with data := f.data ++ bs })) ?_ (by simp)).mono ?_
          · intro W1 s1 hi1 hu1 e1 e2 e3 e4 e5
            have keep : ∀ k i, w.heap.size ≤ k → k < W.heap.size → W1.cell? ⟨k, i, none⟩ = W.cell? ⟨k, i, none⟩ := fun k i h1 h2 => World.cell?_of_block (hu1.block k h2 (by show k ≠ s.p; omega))
            have hb1 : s1.blocks = s.blocks := by simp [DS.blocks, e1, e2, e3]
            have hused : s1.used = s.used := by simp [DS.used, e3]
            have hby : BytesAt W1 (.slice ao bs.length cap) bs := by
              refine ⟨ao, cap, rfl, HV.out, fun a ha j u hu => ?_⟩
              rw [← HV3.out a ha j u hu]
              have h0l : 0 < bs.length := by
                rcases Nat.eq_zero_or_pos bs.length with h | h
                · rw [List.getElem?_eq_none (by simp; omega)] at hu; cases hu
                · exact h
              obtain ⟨v1, v2⟩ := HVB.out a _ _ (by rw [ha]) h0l
              have hab : (a.add j).block = a.block := by unfold Addr.add; split <;> rfl
              rw [World.cell?_of_block (w := W) (hu1.block _ (by rw [hab]; show a.block < W.heap.size; omega) (by rw [hab]; exact v1)), World.cell?_of_block (w := w) (HUP.out.block _ (by rw [hab]; exact v2) (fun h => h))]
            refine (append1_any hi1 (r := r) (by rw [e3]; exact HR.out) hby (by rw [hused, e4]; exact HRM.out) ((keep _ 0 (by omega) (by omega)).trans p3) ((keep _ 0 (by omega) (by omega)).trans p2) (((keep _ 0 (by omega) (by omega)).trans p1).trans (by rw [e1]))
              (by rw [hb1]; exact HNB.out _ (by omega)) (by rw [hb1]; exact HNB.out _ (by omega)) (by rw [hb1]; exact HNB.out _ (by omega))).mono ?_
            rintro e W' ⟨rfl, s2, hst, c1, c2, c3, c4, c5⟩
            exact ⟨rfl, s2, hst, c1, c2, c3, c4, by rw [c5, e3, HN.out]; rfl⟩
          · rintro e w1 ⟨rfl, s2, hst, habs⟩
            have H1 := hid hst; have H2 := hid habs
            clear hst habs
            go_wp2
            go_ret
            exact ⟨rfl, s2, ((Step.of_upd HS0.out HUP.out).trans (Step.of_upd HIN2.out ((Upd.refl _ _).drew))).trans H1.out, H2.out⟩
  · have hc : appendA s n bs = (lookRes s.down (nameOk n.data.toList) false (s.fileAt n).isSome, s.abs) := by unfold appendA; rw [if_pos h1]
    rw [hc]
    generalize lookRes s.down (nameOk n.data.toList) false (s.fileAt n).isSome = e0 at *
    have hb : (e0 != 0) = true := by simpa using h1
    clear h1 hc hs hin cm hlk
    go_enter Tryz.func35, Tryz.ntmps35
    go_wp2_with (go_at_call 89; refine HL.out.mono ?_; rintro e w' ⟨rfl, rfl⟩)
    go_ret
    exact ⟨rfl, s, HST.out, rfl⟩

end Go.Proofs.YtgaidmohdhaonaaGreatDoor
