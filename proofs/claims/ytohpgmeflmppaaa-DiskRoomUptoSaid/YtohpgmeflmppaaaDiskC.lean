/-
  One file of a disk has turned; Sync.
-/
import Derived.Test.YtohpgmeflmppaaaDiskB
namespace Go.Proofs.Ytohpgmeflmppaaa
set_option linter.unusedVariables false
set_option linter.unusedSimpArgs false
set_option linter.unnecessarySimpa false
set_option linter.unusedSectionVars false
open Go Go.RowKit

theorem nodup_replace {A B B' C : List Nat} {N : Nat} (h : (A ++ (B ++ C)).Nodup) (hB : B'.Nodup) (hs : ∀ k ∈ B', k ∈ B ∨ N ≤ k) (hlt : ∀ k ∈ A ++ (B ++ C), k < N) : (A ++ (B' ++ C)).Nodup := by
  simp only [List.nodup_append, List.mem_append] at h hlt ⊢
  obtain ⟨h1, ⟨h2, h3, h4⟩, h5⟩ := h
  refine ⟨h1, ⟨hB, h3, ?_⟩, ?_⟩
  · intro a ha b hb e
    subst e
    rcases hs a ha with h | h
    · exact h4 a h a hb rfl
    · have := hlt a (.inr (.inr hb)); omega
  · intro a ha b hb e
    subst e
    rcases hb with hb | hb
    · rcases hs a hb with h | h
      · exact h5 a ha a (.inl h) rfl
      · have := hlt a (.inl ha); omega
    · exact h5 a ha a (.inr hb) rfl

theorem name_inj {l : List FRec} (hnd : (l.map (·.name)).Nodup) {x y : FRec} (hx : x ∈ l) (hy : y ∈ l) (h : x.name = y.name) : x = y := by
  induction l with
  | nil => cases hx
  | cons z l ih =>
    simp only [List.map_cons, List.nodup_cons, List.mem_map, not_exists, not_and] at hnd
    cases hx with
    | head => cases hy with
      | head => rfl
      | tail _ hy => exact absurd h.symm (hnd.1 y hy)
    | tail _ hx => cases hy with
      | head => exact absurd h (hnd.1 x hx)
      | tail _ hy => exact ih hnd.2 hx hy

def setRec (l : List FRec) (r' : FRec) : List FRec := l.map (fun x => if x.name = r'.name then r' else x)

theorem setRec_split {l : List FRec} {r r' : FRec} (hnd : (l.map (·.name)).Nodup) (hr : r ∈ l) (hn : r'.name = r.name) : ∃ pre post, l = pre ++ r :: post ∧ setRec l r' = pre ++ r' :: post := by
  obtain ⟨pre, post, rfl⟩ := List.append_of_mem hr
  refine ⟨pre, post, rfl, ?_⟩
  simp only [List.map_append, List.map_cons, List.nodup_append, List.nodup_cons, List.mem_map, List.mem_cons] at hnd
  obtain ⟨h1, ⟨h2, h3⟩, h4⟩ := hnd
  unfold setRec
  rw [List.map_append, List.map_cons, if_pos hn.symm]
  have e1 : pre.map (fun x => if x.name = r'.name then r' else x) = pre := by
    conv => rhs; rw [← List.map_id pre]
    apply List.map_congr_left
    intro x hx
    rw [if_neg]; rfl
    intro e
    exact h4 x.name ⟨x, hx, rfl⟩ r.name (.inl rfl) (e.trans hn)
  have e2 : post.map (fun x => if x.name = r'.name then r' else x) = post := by
    conv => rhs; rw [← List.map_id post]
    apply List.map_congr_left
    intro x hx
    rw [if_neg]; rfl
    intro e
    exact h2 ⟨x, hx, e.trans hn⟩
  rw [e1, e2]

theorem nodup_of_blocks {A B C : List Nat} (h : (A ++ (B ++ C)).Nodup) : B.Nodup := by
  simp only [List.nodup_append] at h
  exact h.2.1.1

/-- One file has turned, in its own blocks and in new ones, and the first block with it. -/
theorem DS.In.turned {w w' : World} {s s2 : DS} (h : s.In w) {r r' : FRec} (hr : r ∈ s.recs) (hn : r'.name = r.name) (hb : r'.blk = r.blk) (hrecs : s2.recs = setRec s.recs r') (hp : s2.p = s.p) (hm : s2.m = s.m)
    (hcap : s2.cap = s.cap) (harm : 0 ≤ s2.armed ∧ s2.armed ≤ 9223372036854775807) (hu : Upd (fun k => k = s.p ∨ k ∈ r.blocks) w w') (hin : r'.In w')
    (htop : w'.heap[s.p]? = some (.cells s2.cells 91 (0, 0))) (hroom : s2.used ≤ s2.cap)
    (hown : ∀ k, r'.dv.ownBlock = some k → r.dv.ownBlock = some k ∨ w.heap.size ≤ k) : Step w w' s s2 := by
  obtain ⟨pre, post, h1, h2⟩ := setRec_split h.names hr hn
  have hlt := h.lt
  have hnd := h.blocks
  have eb : s.blocks = (s.p :: s.m :: recBlocks pre) ++ (r.blocks ++ recBlocks post) := by
    simp [DS.blocks, h1, recBlocks]
  have eb2 : s2.blocks = (s.p :: s.m :: recBlocks pre) ++ (r'.blocks ++ recBlocks post) := by
    simp [DS.blocks, hrecs, h2, recBlocks, hp, hm]
  have hsub : ∀ k ∈ r'.blocks, k ∈ r.blocks ∨ w.heap.size ≤ k := by
    intro k hk
    simp only [FRec.blocks, List.mem_cons, Option.mem_toList] at hk ⊢
    rcases hk with rfl | hk
    · exact .inl (.inl hb)
    · exact (hown k hk).imp .inr id
  have hblt : r.blk < w.heap.size := lt_of_heap (h.files r hr).cells
  have hrnd : r.blocks.Nodup := by rw [eb] at hnd; exact nodup_of_blocks hnd
  have hr'nd : r'.blocks.Nodup := by
    simp only [FRec.blocks, List.nodup_cons, Option.mem_toList] at hrnd ⊢
    refine ⟨fun e => ?_, by cases r'.dv.ownBlock <;> simp⟩
    rcases hown _ e with h' | h'
    · rw [hb] at h'; exact hrnd.1 h'
    · rw [hb] at h'; omega
  rw [eb] at hnd hlt
  have hout : ∀ k ∈ s.m :: recBlocks pre ++ recBlocks post, ¬ (k = s.p ∨ k ∈ r.blocks) := by
    intro k hk
    have hnd' := hnd
    simp only [List.cons_append, List.nodup_cons, List.nodup_append, List.mem_cons, List.mem_append] at hnd' hk
    obtain ⟨n1, n2, n3, ⟨n4, n5, n6⟩, n7⟩ := hnd'
    rintro (rfl | hkr)
    · rcases hk with hk | hk | hk
      · exact n1 (.inl hk)
      · exact n1 (.inr (.inl hk))
      · exact n1 (.inr (.inr (.inr hk)))
    · rcases hk with rfl | hk | hk
      · exact n2 (.inr (.inl hkr))
      · exact n7 k hk k (.inl hkr) rfl
      · exact n6 k hkr k hk rfl
  refine ⟨⟨by rw [hp]; exact htop, ?_, ?_, ?_, ?_, ?_, hroom, by rw [hcap]; exact h.cap, harm, trivial⟩, hp, hu.mono ?_, ?_⟩
  · have e : s2.entries = s.entries := by
      rw [DS.entries, DS.entries, hrecs, h2, h1]
      simp [FRec.entry, hn, hb]
    rw [hm, e]
    exact h.map.upd hu (hout _ (by simp))
  · intro x hx
    rw [hrecs, h2] at hx
    have old : ∀ y, (y ∈ pre ∨ y ∈ post) → y.In w' := by
      intro y hy
      have hys : y ∈ s.recs := by rw [h1]; rcases hy with hy | hy <;> simp [hy]
      refine (h.files y hys).of_blocks (fun k hk => ?_)
      have hkm : k ∈ s.m :: recBlocks pre ++ recBlocks post := by
        simp only [List.cons_append, List.mem_cons, List.mem_append]
        rcases hy with hy | hy
        · exact .inr (.inl (mem_recBlocks.2 ⟨y, hy, hk⟩))
        · exact .inr (.inr (mem_recBlocks.2 ⟨y, hy, hk⟩))
      refine hu.block k (hlt k ?_) (hout k hkm)
      simp only [List.cons_append, List.mem_cons, List.mem_append] at hkm ⊢
      rcases hkm with h | h | h
      · exact .inr (.inl h)
      · exact .inr (.inr (.inl h))
      · exact .inr (.inr (.inr (.inr h)))
    simp only [List.mem_append, List.mem_cons] at hx
    rcases hx with hx | rfl | hx
    · exact old x (.inl hx)
    · exact hin
    · exact old x (.inr hx)
  · have := h.names
    rw [h1] at this
    rw [hrecs, h2]
    simpa [hn] using this
  · rw [eb2]; exact nodup_replace hnd hr'nd hsub hlt
  · rw [hrecs]; simpa [setRec] using h.count
  · intro k _ hk
    rw [eb]
    simp only [List.cons_append, List.mem_cons, List.mem_append]
    rcases hk with hk | hk
    · exact .inl hk
    · exact .inr (.inr (.inr (.inl hk)))
  · intro k hk
    rw [eb2] at hk
    rw [eb]
    simp only [List.cons_append, List.mem_cons, List.mem_append] at hk ⊢
    rcases hk with hk | hk | hk | hk | hk
    · exact .inl (.inl hk)
    · exact .inl (.inr (.inl hk))
    · exact .inl (.inr (.inr (.inl hk)))
    · exact (hsub k hk).imp (fun h => .inr (.inr (.inr (.inl h)))) id
    · exact .inl (.inr (.inr (.inr (.inr hk))))

/-! ### Plain data: the file of a name turns -/
def updA (l : List FileA) (n : ByteArray) (g : FileA → FileA) : List FileA := l.map (fun f => if f.name = n then g f else f)

theorem setRec_abs {l : List FRec} {r r' : FRec} (hnd : (l.map (·.name)).Nodup) (hr : r ∈ l) (hn : r'.name = r.name) {g : FileA → FileA} (hg : g r.abs = r'.abs) : (setRec l r').map FRec.abs = updA (l.map FRec.abs) r.name g := by
  unfold setRec updA
  rw [List.map_map, List.map_map]
  apply List.map_congr_left
  intro x hx
  simp only [Function.comp, hn]
  by_cases e : x.name = r.name
  · have hxr : x = r := name_inj hnd hx hr e
    subst hxr
    rw [if_pos rfl, if_pos (by rfl), hg]
  · rw [if_neg e, if_neg (by exact e)]

theorem DS.In.m_ne_blk {w : World} {s : DS} (h : s.In w) {r : FRec} (hr : r ∈ s.recs) {k : Nat} (hk : k ∈ r.blocks) : k ≠ s.m := by
  intro e
  have := h.blocks
  simp only [DS.blocks, List.nodup_cons] at this
  exact this.2.1 (mem_recBlocks.2 ⟨r, hr, e ▸ hk⟩)

theorem DS.In.p_ne_blk {w : World} {s : DS} (h : s.In w) {r : FRec} (hr : r ∈ s.recs) {k : Nat} (hk : k ∈ r.blocks) : k ≠ s.p := by
  intro e
  have := h.blocks
  simp only [DS.blocks, List.nodup_cons, List.mem_cons, not_or] at this
  exact this.1.2 (mem_recBlocks.2 ⟨r, hr, e ▸ hk⟩)

theorem usedOf_setRec {l : List FRec} {r r' : FRec} (hnd : (l.map (·.name)).Nodup) (hr : r ∈ l) (hn : r'.name = r.name) : usedOf (setRec l r') + r.data.length = usedOf l + r'.data.length := by
  obtain ⟨pre, post, h1, h2⟩ := setRec_split hnd hr hn
  rw [h2, h1]
  simp [usedOf]; omega

set_option maxRecDepth 100000 in
set_option maxHeartbeats 1000000 in
theorem sync1_any {w : World} {s : DS} (hs : s.In w) {r : FRec} (hr : r ∈ s.recs) {b1 : Nat} (h1 : w.cell? ⟨b1, 0, none⟩ = some (.pointer (some ⟨r.blk, 0, none⟩))) :
    Calls Try.prog 53 #[.pointer (some ⟨b1, 0, none⟩)] w fun e w' => e = .returned (.tuple #[]) ∧ ∃ s2, Step w w' s s2 ∧ s2.cap = s.cap ∧ s2.down = s.down ∧ s2.armed = s.armed ∧ s2.cnt = s.cnt ∧
      s2.recs.map FRec.abs = updA (s.recs.map FRec.abs) r.name (fun f => { f with synced := f.data.length }) := by
  have hf := hs.files r hr
  have c0 := hf.c_dv
  have c1 := hf.c_synced
  have f1 := frozen_of_row w r.blk 1 _ _ hf.cells
  obtain ⟨ao, cap, hdv, -, -, -, -⟩ := hf.data.shape
  have hst : Step w (w.setCell ⟨r.blk, 1, none⟩ (.int .i64 r.data.length)).drew s { s with recs := setRec s.recs { r with synced := r.data.length } } := by
    have hu : Upd (fun k => k = r.blk) w (w.setCell ⟨r.blk, 1, none⟩ (.int .i64 r.data.length)).drew := (Upd.cell_only _ _ _ _).drew
    have hused : usedOf (setRec s.recs { r with synced := r.data.length }) = s.used := by
      have := usedOf_setRec hs.names hr (r' := { r with synced := r.data.length }) rfl
      unfold DS.used; simp at this; omega
    refine hs.turned (r := r) (r' := { r with synced := r.data.length }) hr rfl rfl rfl rfl rfl rfl hs.armed (hu.mono (fun k _ h => .inr (by simp [FRec.blocks, h]))) ⟨?_, ?_, Nat.le_refl _, hf.name⟩ ?_ ?_ (fun k h => .inl h)
    · exact heap_setCell_at w r.blk 1 _ _ _ hf.cells
    · exact hf.data.of_block (fun k hk => hu.block k (hf.data.lt k hk) (fun e => by
        have hb := hs.blocks
        obtain ⟨pre, post, h1, -⟩ := setRec_split hs.names hr (r' := r) rfl
        rw [DS.blocks, h1] at hb
        simp [recBlocks, FRec.blocks, hk, e, List.nodup_append] at hb))
    · have e : ({ s with recs := setRec s.recs { r with synced := r.data.length } } : DS).cells = s.cells := by simp [DS.cells, DS.used, hused]
      rw [e]; exact hu.get hs.top (fun e => hs.p_ne_blk hr (k := r.blk) (by simp [FRec.blocks]) e.symm)
    · have := hs.room
      show usedOf _ ≤ s.cap
      rw [hused]; exact this
  rw [hdv] at c0
  have HST := hid hst; have HS := hid hs
  clear hst hs hf hdv
  go_enter Try.func53, Try.ntmps53
  go_wp2
  go_region
  go_end0
  exact ⟨rfl, _, HST.out, rfl, rfl, rfl, rfl, setRec_abs (r := r) (r' := { r with synced := r.data.length }) HS.out.names hr rfl rfl⟩

def syncA (s : DS) (n : ByteArray) : Int × DiskA :=
  if lookRes s.down (nameOk n.data.toList) true (s.fileAt n).isSome ≠ 0 then (lookRes s.down (nameOk n.data.toList) true (s.fileAt n).isSome, s.abs)
  else actA s.abs (some 7) (updA s.abs.files n (fun f => { f with synced := f.data.length }))

set_option maxRecDepth 100000 in
set_option maxHeartbeats 1000000 in
theorem sync_any {w : World} {s : DS} (hs : s.In w) (n : ByteArray) :
    Calls Try.prog 32 #[.pointer (some ⟨s.p, 0, none⟩), .string n] w fun e w' => e = .returned (.int .i64 (syncA s n).1) ∧ ∃ s2, Step w w' s s2 ∧ s2.abs = (syncA s n).2 := by
  have HL := hid (look_any hs n true)
  have cm := hs.c_map
  have hp := hs.plt
  have HS := hid hs
  by_cases h1 : lookRes s.down (nameOk n.data.toList) true (s.fileAt n).isSome = 0
  · obtain ⟨hd, hok, hth⟩ := lookRes_zero.1 h1
    obtain ⟨r, hf⟩ := Option.isSome_iff_exists.1 (hth rfl)
    obtain ⟨hr, hnm⟩ := fileAt_mem hf
    have hlk := run_lookup_file hs n
    unfold DS.ptrAt at hlk
    rw [h1] at HL
    have hc : syncA s n = actA s.abs (some 7) (updA s.abs.files n (fun f => { f with synced := f.data.length })) := by unfold syncA; rw [if_neg (by rw [h1]; simp)]
    rw [hc]
    rw [hf] at hlk
    simp only [] at hlk
    have hen := fun caps W => run_enters (P := Try.prog) (G := 53) Try.func53 (by kernel_rfl) (by kernel_rfl) caps W
    have HR := hid hr; have HE := hid hen; have HN := hid hnm
    clear h1 hc hs hd hok hf hr hen hth hnm
    go_enter Try.func32, Try.ntmps32
    go_wp2_with (go_at_call 47; refine HL.out.mono ?_; rintro e w' ⟨rfl, rfl⟩)
    have hu := (Upd.refl (fun _ => False) w').alloc (.cells #[.pointer (some ⟨r.blk, 0, none⟩)] 93)
    have hin := HS.out.upd hu (fun _ _ h => h)
    refine (act_any (co := some 7) hin (HE.out _) (F := updA s.abs.files n (fun f => { f with synced := f.data.length })) ?_ (by simp)).mono ?_
    · intro W s1 hi1 hu1 e1 e2 e3 e4 e5
      have q1 : W.cell? ⟨w'.heap.size, 0, none⟩ = some (.pointer (some ⟨r.blk, 0, none⟩)) := by
        rw [World.cell?_of_block (hu1.block w'.heap.size (by simp) (by show w'.heap.size ≠ s.p; omega))]
        simp [go_sem]
      refine (sync1_any hi1 (r := r) (by rw [e3]; exact HR.out) q1).mono ?_
      rintro e W' ⟨rfl, s2, hst, c1, c2, c3, c4, c5⟩
      exact ⟨rfl, s2, hst, c1, c2, c3, c4, by rw [c5, e3, HN.out]; rfl⟩
    · rintro e w1 ⟨rfl, s2, hst, habs⟩
      go_wp2
      go_ret
      exact ⟨rfl, s2, (Step.of_upd HS.out hu).trans hst, habs⟩
  · have hc : syncA s n = (lookRes s.down (nameOk n.data.toList) true (s.fileAt n).isSome, s.abs) := by unfold syncA; rw [if_pos h1]
    rw [hc]
    generalize lookRes s.down (nameOk n.data.toList) true (s.fileAt n).isSome = e0 at *
    have hb : (e0 != 0) = true := by simpa using h1
    clear h1 hc hs cm
    go_enter Try.func32, Try.ntmps32
    go_wp2_with (go_at_call 47; refine HL.out.mono ?_; rintro e w' ⟨rfl, rfl⟩)
    go_ret
    exact ⟨rfl, s, Step.refl HS.out, rfl⟩

end Go.Proofs.Ytohpgmeflmppaaa
