/-
  Package disk, walked: Create.
-/
import Derived.Test.YtohpgmeflmppaaaDiskAct
import Derived.StillTailTactics
namespace Go.Proofs.Ytohpgmeflmppaaa
set_option linter.unusedVariables false
set_option linter.unusedSimpArgs false
set_option linter.unnecessarySimpa false
set_option linter.unusedSectionVars false
open Go Go.RowKit

theorem put_new : ∀ (E : List (ByteArray × Value)) (k : ByteArray) (v : Value), look E k = none → put E k v = E ++ [(k, v)]
  | [], _, _, _ => rfl
  | p :: E, k, v, h => by
    rw [look_cons] at h
    by_cases hp : p.1 = k
    · rw [if_pos hp] at h; cases h
    · rw [if_neg hp] at h
      simp [put, hp, put_new E k v h]

theorem look_none_of {s : DS} {n : ByteArray} (h : s.fileAt n = none) : look s.entries n = none := by
  unfold DS.entries
  rw [look_entries]
  unfold DS.fileAt at h
  rw [h]; rfl

theorem fileAt_none {s : DS} {n : ByteArray} (h : s.fileAt n = none) : ∀ r ∈ s.recs, r.name ≠ n := by
  intro r hr e
  unfold DS.fileAt at h
  rw [List.find?_eq_none] at h
  exact h r hr (by rw [beq_bytes]; simp [e])

def newRec (n : ByteArray) (b : Nat) : FRec := ⟨n, b, .slice none 0 0, [], 0⟩

theorem usedOf_append (l l' : List FRec) : usedOf (l ++ l') = usedOf l + usedOf l' := by simp [usedOf]
theorem recBlocks_append (l l' : List FRec) : recBlocks (l ++ l') = recBlocks l ++ recBlocks l' := by simp [recBlocks]

/-- A new file has joined. -/
theorem DS.In.added {w w' : World} {s : DS} (h : s.In w) {n : ByteArray} (hn : s.fileAt n = none) (hok : nameOk n.data.toList = true) (hc : s.recs.length < 256) {b : Nat} (hb : w.heap.size ≤ b)
    (hu : Upd (fun k => k = s.m) w w') (hm : MapIs w' s.m (put s.entries n (.pointer (some ⟨b, 0, none⟩)))) (hf : w'.heap[b]? = some (.cells #[.slice none 0 0, .int .i64 0] 96 (0, 0))) :
    Step w w' s { s with recs := s.recs ++ [newRec n b] } := by
  have hnm : s.p ≠ s.m := h.pm
  have hrm : ∀ k ∈ recBlocks s.recs, k ≠ s.m := by
    intro k hk e
    have := h.blocks
    simp only [DS.blocks, List.nodup_cons] at this
    exact this.2.1 (e ▸ hk)
  have hbl : ({ s with recs := s.recs ++ [newRec n b] } : DS).blocks = s.blocks ++ [b] := by
    simp [DS.blocks, recBlocks_append, recBlocks, newRec, FRec.blocks, Value.ownBlock]
  have hbn : b ∉ s.blocks := fun hm' => by have := h.lt b hm'; omega
  refine ⟨⟨?_, ?_, ?_, ?_, ?_, ?_, ?_, h.cap, h.armed, trivial⟩, rfl, hu.mono ?_, ?_⟩
  · have e : ({ s with recs := s.recs ++ [newRec n b] } : DS).cells = s.cells := by simp [DS.cells, DS.used, usedOf, newRec]
    rw [e]; exact hu.get h.top hnm
  · rw [put_new _ _ _ (look_none_of hn)] at hm
    have e : ({ s with recs := s.recs ++ [newRec n b] } : DS).entries = s.entries ++ [(n, .pointer (some ⟨b, 0, none⟩))] := by simp [DS.entries, FRec.entry, newRec]
    rw [e]; exact hm
  · intro r hr
    simp only [List.mem_append, List.mem_singleton] at hr
    rcases hr with hr | rfl
    · refine (h.files r hr).of_blocks (fun k hk => ?_)
      have hk' : k ∈ recBlocks s.recs := mem_recBlocks.2 ⟨r, hr, hk⟩
      exact hu.block k (h.lt k (by simp [DS.blocks, hk'])) (hrm k hk')
    · exact ⟨hf, .inl ⟨rfl, rfl⟩, Nat.le_refl _, hok⟩
  · simp only [List.map_append, List.map_cons, List.map_nil, newRec]
    rw [List.nodup_append]
    refine ⟨h.names, by simp, ?_⟩
    intro x hx y hy
    simp only [List.mem_singleton] at hy
    subst hy
    obtain ⟨r, hr, rfl⟩ := List.mem_map.1 hx
    exact fileAt_none hn r hr
  · rw [hbl, List.nodup_append]
    refine ⟨h.blocks, by simp, ?_⟩
    intro x hx y hy
    simp only [List.mem_singleton] at hy
    subst hy
    intro e; exact hbn (e ▸ hx)
  · simp; omega
  · have := h.room
    simpa [DS.used, usedOf, newRec] using this
  · intro k _ e
    subst e; simp [DS.blocks]
  · intro k hk
    rw [hbl] at hk
    simp only [List.mem_append, List.mem_singleton] at hk
    rcases hk with hk | rfl
    · exact .inl hk
    · exact .inr hb

set_option maxRecDepth 100000 in
set_option maxHeartbeats 1000000 in
theorem create1_any {w : World} {s : DS} (hs : s.In w) {n : ByteArray} {b1 b2 : Nat} (h1 : w.cell? ⟨b1, 0, none⟩ = some (.pointer (some ⟨s.p, 0, none⟩))) (h2 : w.cell? ⟨b2, 0, none⟩ = some (.string n))
    (hn : s.fileAt n = none) (hok : nameOk n.data.toList = true) (hc : s.recs.length < 256) :
    Calls Try.prog 50 #[.pointer (some ⟨b1, 0, none⟩), .pointer (some ⟨b2, 0, none⟩)] w fun e w' => e = .returned (.tuple #[]) ∧ ∃ s2, Step w w' s s2 ∧ s2.cap = s.cap ∧ s2.down = s.down ∧ s2.armed = s.armed ∧ s2.cnt = s.cnt ∧
      s2.recs.map FRec.abs = s.recs.map FRec.abs ++ [⟨n, [], 0⟩] := by
  have cm := hs.c_map
  obtain ⟨w3, hrun, hm, hu⟩ := run_mapUpdate_str (P := Try.prog) (w := (w.alloc (.cells #[.slice none 0 0, .int .i64 0] 96)).drew) Try.underlying89 Try.underlying9 (hs.map.of_block (heap_alloc_past _ _ _ hs.map.lt)) n (.pointer (some ⟨w.heap.size, 0, none⟩))
  have HS := hid hs; have HM := hid hm; have HU := hid hu
  have hp := hs.plt
  have hb1 : b1 < w.heap.size := World.block_lt_of_cell? w _ h1
  have hb2 : b2 < w.heap.size := World.block_lt_of_cell? w _ h2
  have hml := hs.map.lt
  clear hs hm hu
  go_enter Try.func50, Try.ntmps50
  go_wp2
  go_region
  go_end0
  refine ⟨rfl, _, HS.out.added hn hok hc (Nat.le_refl _) (((Upd.refl (fun k => k = s.m) w).alloc _).drew.trans HU.out (fun k _ h => h)) HM.out ?_, rfl, rfl, rfl, rfl, by simp [FRec.abs, newRec]⟩
  rw [HU.out.block w.heap.size (by simp) (by omega)]
  exact heap_alloc_new w _

theorem run_enters {P : Program} {G : Nat} {f : Func} (hf : P.funcs[G]? = some f) (hn : (f.name == "runtime.NumGoroutine") = false) (hb : f.body.isNone = false) (caps : Array Value) (w : World) : (callFunc G caps).run P w = .ok (.enter G caps) w := by
  have hb' : f.body ≠ none := by intro e; rw [e] at hb; cases hb
  have hn' : ¬ f.name = "runtime.NumGoroutine" := by simpa using hn
  simp [callFunc, program, Sem.run, hf, hn', hb']

theorem run_lookup_fileN {w : World} {s : DS} (h : s.In w) (n : ByteArray) (k : Nat) : (Instr.lookup 89 (.map (some s.m)) (.string n) false).run Try.prog (w.drewN k) = .ok (s.ptrAt n) (w.drewN k) :=
  run_lookup_file (h.upd ((Upd.refl (fun _ => False) w).drewN k) (fun _ _ h => h)) n

theorem run_len_files {w : World} {s : DS} (h : s.In w) (k ty : Nat) : (Builtin.len_ #[89] ty #[.map (some s.m)]).run Try.prog (w.drewN k) = .ok (.int .i64 s.recs.length) (w.drewN k) := by
  have hw : s.In (w.drewN k) := h.upd ((Upd.refl (fun _ => False) w).drewN k) (fun _ _ h => h)
  have := run_len_map (P := Try.prog) Try.underlying89 hw.map ty
  rw [show s.entries.length = s.recs.length from by simp [DS.entries]] at this
  exact this

/-- What Create makes of a disk. -/
def createA (s : DS) (n : ByteArray) : Int × DiskA :=
  if lookRes s.down (nameOk n.data.toList) false (s.fileAt n).isSome ≠ 0 then (lookRes s.down (nameOk n.data.toList) false (s.fileAt n).isSome, s.abs)
  else if (s.fileAt n).isSome then (41, s.abs)
  else if 256 ≤ s.recs.length then (44, s.abs)
  else actA s.abs none (s.abs.files ++ [⟨n, [], 0⟩])

set_option maxRecDepth 100000 in
set_option maxHeartbeats 1000000 in
theorem create_any {w : World} {s : DS} (hs : s.In w) (n : ByteArray) :
    Calls Try.prog 28 #[.pointer (some ⟨s.p, 0, none⟩), .string n] w fun e w' => e = .returned (.int .i64 (createA s n).1) ∧ ∃ s2, Step w w' s s2 ∧ s2.abs = (createA s n).2 := by
  have hu2 : Upd (fun _ => False) w ((w.alloc (.cells #[.pointer (some ⟨s.p, 0, none⟩)] 23)).alloc (.cells #[.string n] 9)) := ((Upd.refl _ _).alloc _).alloc _
  have hin := hs.upd hu2 (fun _ _ h => h)
  have hst := Step.of_upd hs hu2
  have HL := hid (look_any hin n false)
  have cm := hin.c_map
  have HIN := hid hin; have HST := hid hst; have HST0 := hid hs.plt
  clear hu2 hst
  by_cases h1 : lookRes s.down (nameOk n.data.toList) false (s.fileAt n).isSome = 0
  · obtain ⟨hd, hok, _⟩ := lookRes_zero.1 h1
    have hlk := run_lookup_fileN hin n
    unfold DS.ptrAt at hlk
    rw [h1] at HL
    by_cases h2 : (s.fileAt n).isSome = true
    · have hc : createA s n = (41, s.abs) := by unfold createA; rw [if_neg (by rw [h1]; simp), if_pos h2]
      rw [hc]
      obtain ⟨r, hr⟩ := Option.isSome_iff_exists.1 h2
      rw [hr] at hlk
      simp only [] at hlk
      clear h1 h2 hc hin hs hd hok hr
      go_enter Try.func28, Try.ntmps28
      go_wp2_with (go_at_call 47; refine HL.out.mono ?_; rintro e w' ⟨rfl, rfl⟩)
      go_quiet (fail)
      go_wp2
      go_ret
      exact ⟨rfl, s, HST.out.trans (Step.of_upd HIN.out ((Upd.refl _ _).drewN _)), rfl⟩
    · have hfn : s.fileAt n = none := by simpa using h2
      rw [hfn] at hlk
      simp only [] at hlk
      have hlen := run_len_files hin
      by_cases h3 : 256 ≤ s.recs.length
      · have hc : createA s n = (44, s.abs) := by unfold createA; rw [if_neg (by rw [h1]; simp), if_neg h2, if_pos h3]
        rw [hc]
        clear h1 h2 hc hin hs hd hok hfn
        go_enter Try.func28, Try.ntmps28
        go_wp2_with (go_at_call 47; refine HL.out.mono ?_; rintro e w' ⟨rfl, rfl⟩)
        go_quiet (fail)
        go_wp2
        go_ret
        exact ⟨rfl, s, HST.out.trans (Step.of_upd HIN.out ((Upd.refl _ _).drewN _)), rfl⟩
      · have hc : createA s n = actA s.abs none (s.abs.files ++ [⟨n, [], 0⟩]) := by unfold createA; rw [if_neg (by rw [h1]; simp), if_neg h2, if_neg h3]
        rw [hc]
        have hen := fun caps W => run_enters (P := Try.prog) (G := 50) Try.func50 (by kernel_rfl) (by kernel_rfl) caps W
        have HF := hid hfn; have HK := hid hok; have H3 := hid h3; have HE := hid hen
        have h3' : (s.recs.length : Int) < 256 := by omega
        clear h1 h2 hc hin hs hd hok hfn h3 hen
        go_enter Try.func28, Try.ntmps28
        go_wp2_with (go_at_call 47; refine HL.out.mono ?_; rintro e w' ⟨rfl, rfl⟩)
        go_quiet (fail)
        go_wp2_with fail
        have hin2 : s.In ((((w.alloc (.cells #[.pointer (some ⟨s.p, 0, none⟩)] 23)).alloc (.cells #[.string n] 9))).drewN nq) := HIN.out.upd ((Upd.refl (fun _ => False) _).drewN _) (fun _ _ h => h)
        have hpl := hin2.plt
        have hplt : s.p < w.heap.size := HST0.out
        refine (act_any (co := none) hin2 (HE.out _) (F := s.abs.files ++ [⟨n, [], 0⟩]) ?_ (by simp)).mono ?_
        · intro W s1 hi1 hu e1 e2 e3 e4 e5
          have q1 : W.cell? ⟨w.heap.size, 0, none⟩ = some (.pointer (some ⟨s1.p, 0, none⟩)) := by
            rw [World.cell?_of_block (hu.block w.heap.size (by simp [World.drewN]; omega) (by show w.heap.size ≠ s.p; omega)), e1]
            simp [go_sem]
          have q2 : W.cell? ⟨w.heap.size + 1, 0, none⟩ = some (.string n) := by
            rw [World.cell?_of_block (hu.block (w.heap.size + 1) (by simp [World.drewN]) (by show w.heap.size + 1 ≠ s.p; omega))]
            simp [go_sem]
          refine (create1_any hi1 q1 q2 (by unfold DS.fileAt; rw [e3]; exact HF.out) HK.out (by rw [e3]; have := H3.out; omega)).mono ?_
          rintro e W' ⟨rfl, s2, hst, c1, c2, c3, c4, c5⟩
          exact ⟨rfl, s2, hst, c1, c2, c3, c4, by rw [c5, e3]; rfl⟩
        · rintro e w1 ⟨rfl, s2, hst, habs⟩
          go_wp2
          go_ret
          exact ⟨rfl, s2, (HST.out.trans (Step.of_upd HIN.out ((Upd.refl _ _).drewN _))).trans hst, habs⟩
  · have hc : createA s n = (lookRes s.down (nameOk n.data.toList) false (s.fileAt n).isSome, s.abs) := by unfold createA; rw [if_pos h1]
    rw [hc]
    generalize lookRes s.down (nameOk n.data.toList) false (s.fileAt n).isSome = e0 at *
    have hb : (e0 != 0) = true := by simpa using h1
    clear h1 hc hin hs cm
    go_enter Try.func28, Try.ntmps28
    go_wp2_with (go_at_call 47; refine HL.out.mono ?_; rintro e w' ⟨rfl, rfl⟩)
    go_ret
    exact ⟨rfl, s, HST.out, rfl⟩

end Go.Proofs.Ytohpgmeflmppaaa
