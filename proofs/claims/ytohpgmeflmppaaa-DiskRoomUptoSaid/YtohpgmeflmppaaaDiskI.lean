/-
  Package disk, walked: Files.
-/
import Derived.Test.YtohpgmeflmppaaaDiskH
import Derived.Deep.RegionHeld3
import Derived.Deep.AppendLies
namespace Go.Proofs.Ytohpgmeflmppaaa
set_option linter.unusedVariables false
set_option linter.unusedSimpArgs false
set_option linter.unnecessarySimpa false
set_option linter.unusedSectionVars false
open Go Go.RowKit

/-- bytes.Clone of what reads as bs. -/
theorem clone_any {w : World} {v : Value} {bs : List UInt8} (hv : BytesAt w v bs) (hl : bs.length ≤ 140737488355328) :
    Calls Try.prog 46 #[v] w fun e w' => ∃ v', e = .returned v' ∧ DataIs w' v' bs ∧ (∀ k, v'.ownBlock = some k → w.heap.size ≤ k) ∧ Below w.heap.size w w' := by
  obtain ⟨ao, cap, rfl, hn, hs⟩ := hv
  cases ao with
  | none =>
    obtain ⟨rfl, rfl⟩ := hn rfl
    refine (Try.bytes_Clone_nil _ _ _).mono ?_
    rintro e w' ⟨rfl, rfl⟩
    exact ⟨_, rfl, .inl ⟨rfl, rfl⟩, by simp [Value.ownBlock], Below.refl _ _⟩
  | some a =>
    refine (Try.bytes_Clone_at a bs.length cap (bs.map (fun b => (b.toNat : Int))) w (by simp) hl ?_).mono ?_
    · intro i hi
      have := hs a rfl i (byteV bs[i]) (by rw [List.getElem?_map, List.getElem?_eq_getElem hi]; rfl)
      rw [this, List.getD_eq_getElem?_getD, List.getElem?_map, List.getElem?_eq_getElem hi]
      rfl
    · rintro e w' ⟨v', rfl, hown, -, hb⟩
      refine ⟨v', rfl, ?_, fun k hk => (hown.lt k hk).1, hb⟩
      rw [List.map_map] at hown
      exact DataIs.of_owns hown

/-- A file that was told: its name, its bytes and where they lie, how many are synced. -/
structure FV where
  name : ByteArray
  dv : Value
  data : List UInt8
  synced : Nat

def FV.cells (f : FV) : List Value := [.string f.name, f.dv, .int .i64 f.synced]
def FV.abs (f : FV) : FileA := ⟨f.name, f.data, f.synced⟩
def fvBlocks (l : List FV) : List Nat := l.flatMap (fun f => f.dv.ownBlock.toList)

/-- v is a list of files of the caller's own, from block 'base' on. -/
structure FilesAt (w : World) (base : Nat) (v : Value) (l : List FV) : Prop where
  row : w.ownsRow base 44 3 v l.length (l.flatMap FV.cells)
  data : ∀ f ∈ l, DataIs w f.dv f.data
  low : ∀ k ∈ fvBlocks l, base ≤ k
  nodup : (v.ownBlock.toList ++ fvBlocks l).Nodup

theorem Try.infoFile : (Try.prog.info? 44).map (fun i => (i.zero, i.size, i.bytes)) = some (some (.agg #[.string ByteArray.empty, .slice none 0 0, .int .i64 0]), 3, 48) := by kernel_rfl

theorem DataIs.upd {S : Nat → Prop} {w w' : World} {v : Value} {bs : List UInt8} (h : DataIs w v bs) (hu : Upd S w w') (hn : ∀ k, v.ownBlock = some k → ¬ S k) : DataIs w' v bs :=
  h.of_block (fun k hk => hu.block k (h.lt k hk) (hn k hk))

theorem mem_fvBlocks {l : List FV} {k : Nat} : k ∈ fvBlocks l ↔ ∃ f ∈ l, f.dv.ownBlock = some k := by simp [fvBlocks]

/-- A list of files is lengthened by one. -/
theorem FilesAt.snoc {w w1 w2 : World} {base : Nat} {v v' dv' : Value} {l : List FV} {nm : ByteArray} {bs : List UInt8} {sy : Nat} (h : FilesAt w base v l) (hb : base ≤ w.heap.size) (hbel : Below w.heap.size w w1)
    (hd : DataIs w1 dv' bs) (hdo : ∀ k, dv'.ownBlock = some k → w.heap.size ≤ k) (hg : (w1.alloc (.cells #[.string nm, dv', .int .i64 sy] 44)).grownBy w2 v.ownBlock)
    (hown : w2.ownsRow base 44 3 v' (l.length + 1) (l.flatMap FV.cells ++ [.string nm, dv', .int .i64 sy])) (hat : ∀ k, v'.ownBlock = some k → v.ownBlock = some k ∨ w1.heap.size ≤ k) :
    FilesAt w2 base v' (l ++ [⟨nm, dv', bs, sy⟩]) := by
  have hup : Upd (fun k => v.ownBlock = some k) w w2 := ((Upd.of_below hbel).alloc _).grown hg (fun k hk _ => hk)
  have hup1 : Upd (fun k => v.ownBlock = some k) w1 w2 := ((Upd.refl _ _).alloc _).grown hg (fun k hk _ => hk)
  have hvlt : ∀ k, v.ownBlock = some k → k < w.heap.size := fun k hk => (h.row.lt k hk).2
  have hnd := h.nodup
  rw [List.nodup_append] at hnd
  have hsz := hbel.size
  have hfl : ∀ k ∈ fvBlocks l, k < w.heap.size := by
    intro k hk
    obtain ⟨f, hf, hk⟩ := mem_fvBlocks.1 hk
    exact (h.data f hf).lt k hk
  refine ⟨by simpa [FV.cells] using hown, ?_, ?_, ?_⟩
  · intro f hf
    simp only [List.mem_append, List.mem_singleton] at hf
    rcases hf with hf | rfl
    · exact (h.data f hf).upd hup (fun k hk e => hnd.2.2 k (by simp [e]) k (mem_fvBlocks.2 ⟨f, hf, hk⟩) rfl)
    · exact hd.upd hup1 (fun k hk e => by have := hdo k hk; have := hvlt k e; omega)
  · intro k hk
    obtain ⟨f, hf, hk⟩ := mem_fvBlocks.1 hk
    simp only [List.mem_append, List.mem_singleton] at hf
    rcases hf with hf | rfl
    · exact h.low k (mem_fvBlocks.2 ⟨f, hf, hk⟩)
    · have := hdo k hk; omega
  · have e : fvBlocks (l ++ [⟨nm, dv', bs, sy⟩]) = fvBlocks l ++ dv'.ownBlock.toList := by simp [fvBlocks]
    rw [e, List.nodup_append]
    refine ⟨by cases v'.ownBlock <;> simp, ?_, ?_⟩
    · rw [List.nodup_append]
      refine ⟨hnd.2.1, by cases dv'.ownBlock <;> simp, ?_⟩
      intro a ha b hb e
      have hb' : dv'.ownBlock = some b := by simpa using hb
      have := hdo b hb'; have := hfl a ha; omega
    · intro a ha b hb e
      subst e
      have ha' : v'.ownBlock = some a := by simpa using ha
      simp only [List.mem_append, Option.mem_toList] at hb
      rcases hat a ha' with hv | hv
      · rcases hb with hb | hb
        · exact hnd.2.2 a (by simp [hv]) a hb rfl
        · have hb' : dv'.ownBlock = some a := hb
          have := hdo a hb'; have := hvlt a hv; omega
      · rcases hb with hb | hb
        · have := hfl a hb; omega
        · have hb' : dv'.ownBlock = some a := hb
          have := hd.lt a hb'; omega

theorem FilesAt.upd {S : Nat → Prop} {w w' : World} {base : Nat} {v : Value} {l : List FV} (h : FilesAt w base v l) (hu : Upd S w w') (hn : ∀ k, base ≤ k → ¬ S k) : FilesAt w' base v l :=
  ⟨owns_upd h.row hu (fun k hk => hn k (h.row.lt k hk).1), fun f hf => (h.data f hf).upd hu (fun k hk => hn k (h.low k (mem_fvBlocks.2 ⟨f, hf, hk⟩))), h.low, h.nodup⟩

theorem step_append_file {ops : Array Oper} {o : Oper} {a : Act} {K : Act → World → Prop} {Q : Exit → Act → World → Prop} {E : Prop}
    (hg : o.guard = none) (s x : Operand) (hop : o.op = Op.call { callee := Callee.builtin Builtin.append, args := #[s, x], argTypes := #[33, 33] })
    {w w2 : World} {base : Nat} {v dv' : Value} {l : List FV} {nm : ByteArray} {bs : List UInt8} {sy : Nat} (hs : a.eval s = v) (hx : a.eval x = .slice (some ⟨w2.heap.size, 0, none⟩) 1 1)
    (hfa : FilesAt w base v l) (hb : base ≤ w.heap.size) (hbel : Below w.heap.size w w2) (hd : DataIs w2 dv' bs) (hdo : ∀ k, dv'.ownBlock = some k → w.heap.size ≤ k) (hlen : l.length ≤ 1000000)
    (hK : ∀ v' w3, FilesAt w3 base v' (l ++ [⟨nm, dv', bs, sy⟩]) → Upd (fun k => v.ownBlock = some k) w w3 → K (a.put o.dst v') w3) :
    if Region.wanted o (yielded ops a.tmps) = true then Oper.wp Try.prog o a (w2.alloc (.cells #[.string nm, dv', .int .i64 sy] 44)) K Q else E := by
  obtain ⟨i0, hi, hz0, hz1, hz2⟩ := info_parts Try.infoFile
  obtain ⟨aoc, capc, hdv, -, -, -, -⟩ := hd.shape
  have hw2 := hbel.size
  refine step_append_lies _ hg s x 33 hop base 44 i0 _ 3 48 Try.underlying33 hi hz0 hz1 hz2 rfl (by omega) v l.length (l.flatMap FV.cells) hs ((owns_upd (S := fun _ => False) hfa.row (Upd.of_below hbel) (fun _ _ h => h)).alloc _)
    ⟨w2.heap.size, 0, none⟩ 1 1 [.string nm, dv', .int .i64 sy] hx rfl (World.news_of_block (cs := #[.string nm, dv', .int .i64 sy]) (t := 44) (fr := (0, 0)) (heap_alloc_new w2 _)) (by rw [hdv]; simp [Value.oneCell'])
    (by omega) (by unfold maxLen; omega) (by omega) (by simp; omega) (w2.heap.size + 1) (by simp) ?_
  intro gg capg w3 hown3 hgrow hat hlt3
  refine hK _ _ (hfa.snoc hb hbel hd hdo hgrow hown3 ?_) (((Upd.of_below hbel).alloc _).grown hgrow (fun k hk _ => hk))
  intro k hk
  simp only [Value.ownBlock, Option.some.injEq] at hk
  subst hk
  rcases hat with h | h
  · exact .inl h
  · right; omega

/-- All files, by their names. -/
def fileList (s : DS) : List FileA := (sortNames s.names).filterMap (fun n => (s.fileAt n).map FRec.abs)

theorem fileAt_of_name {s : DS} {n : ByteArray} (h : n ∈ s.names) : ∃ r, s.fileAt n = some r := by
  cases hf : s.fileAt n with
  | some r => exact ⟨r, rfl⟩
  | none =>
    obtain ⟨r, hr, hn⟩ := List.mem_map.1 h
    exact absurd hn (fileAt_none hf r hr)

theorem filterMap_take_step {α β : Type} (f : α → Option β) (l : List α) (k : Nat) (h : k < l.length) {y : β} (hy : f l[k] = some y) : (l.take (k + 1)).filterMap f = (l.take k).filterMap f ++ [y] := by
  rw [List.take_succ_eq_append_getElem h, List.filterMap_append]
  simp [hy]

set_option maxRecDepth 100000 in
set_option maxHeartbeats 3200000 in
theorem files_any {w : World} {s : DS} (hs : s.In w) :
    Calls Try.prog 16 #[.pointer (some ⟨s.p, 0, none⟩)] w fun e w' =>
      ∃ v l, e = .returned v ∧ FilesAt w' w.heap.size v l ∧ l.map FV.abs = fileList s ∧ Upd (fun _ => False) w w' := by
  have HN := hid (names_any hs)
  have hcount : s.names.length ≤ 256 := by simpa [DS.names] using hs.count
  obtain ⟨i0, hi, hz0, hz1, hz2⟩ := info_parts Try.infoFile
  have HS := hid hs
  clear hs
  go_enter Try.func16, Try.ntmps16
  go_wp2_with fail
  refine HN.out.mono ?_
  rintro e w1 ⟨v, n, rfl, hown, hu⟩
  obtain ⟨ao, cap, rfl, hn, hcells⟩ := owns_shape hown
  have hlen : n = (sortNames s.names).length := by simpa using hn
  have hlen2 : (sortNames s.names).length = s.names.length := (sortNames_perm s.names).length_eq
  have hn256 : n ≤ 256 := by omega
  have HU := hid hu; have HC := hid hcells; have HL := hid hlen
  have HS1 := hid (HS.out.upd hu (fun _ _ h => h))
  clear hown hu hcells hlen hlen2 hn hcount
  go_wp2
  go_loopw [3, 10] (fun lv i wr => ∃ k : Nat, k ≤ n ∧ i = .int .i64 k ∧ (∃ l, l.length ≤ k ∧ FilesAt wr w1.heap.size lv l ∧ l.map FV.abs = ((sortNames s.names).take k).filterMap (fun n => (s.fileAt n).map FRec.abs)) ∧ Upd (fun _ => False) w1 wr)
    (fun _ i _ => n - (intOf i).toNat)
  case atStart => exact ⟨0, Nat.zero_le _, rfl, ⟨[], Nat.le_refl _, ⟨World.ownsRow_nil _ _ _ _, by simp, by simp [fvBlocks], by simp [fvBlocks, Value.ownBlock]⟩, rfl⟩, Upd.refl _ _⟩
  case round =>
    obtain ⟨k, hk, rfl, ⟨l, hl, hfa, habs⟩, hup⟩ := hrel
    have HUP := hid hup; have HA := hid habs; have HFA := hid hfa
    clear hup habs hfa
    by_cases hlt : k < n
    · obtain ⟨g, rfl, hg1, hg2, hg3⟩ := HC.out k hlt
      have hkl : k < (sortNames s.names).length := by have := HL.out; omega
      have hcell : wr.cell? ⟨g, k, none⟩ = some (.string (sortNames s.names)[k]) := by
        rw [World.cell?_of_block (HUP.out.block g hg2 (fun h => h))]
        have := hg3 k (by simpa using hkl)
        simpa using this
      obtain ⟨x, hx⟩ : ∃ x, x = (sortNames s.names)[k] := ⟨_, rfl⟩
      rw [← hx] at hcell
      have hxm : x ∈ s.names := (sortNames_perm s.names).subset (hx ▸ List.getElem_mem hkl)
      obtain ⟨r, hfr⟩ := fileAt_of_name hxm
      obtain ⟨hrm, hrn⟩ := fileAt_mem hfr
      have hstep := filterMap_take_step (fun n => (s.fileAt n).map FRec.abs) (sortNames s.names) k hkl (y := r.abs) (by rw [← hx, hfr]; rfl)
      have HST := hid hstep
      have hsr : s.In wr := HS1.out.upd HUP.out (fun _ _ h => h)
      have cm := hsr.c_map
      have hlk := run_lookup_file hsr x
      unfold DS.ptrAt at hlk
      rw [hfr] at hlk
      simp only [] at hlk
      have hfi := hsr.files r hrm
      have c0 := hfi.c_dv
      have c1 := hfi.c_synced
      have hby := hfi.data.bytes
      obtain ⟨ao', cap', hdv, -, -, -, -⟩ := hfi.data.shape
      have hdl := hsr.data_le hrm
      rw [hdv] at c0 hby
      have hrlt : r.blk < wr.heap.size := lt_of_heap hfi.cells
      have hrlt1 : r.blk < w1.heap.size := lt_of_heap (HS1.out.files r hrm).cells
      have HBY := hid hby; have HSR := hid hsr
      have HFD := hid (HFA.out.upd ((Upd.refl (fun _ => False) wr).drew) (fun _ _ h => h))
      have hws3 : w1.heap.size ≤ wr.drew.heap.size := HUP.out.size
      have hws := HUP.out.size
      have hws0 := HU.out.size
      clear hstep hg3 hx hxm hfr hfi hsr hby hdv
      go_wp2_with fail
      go_region_held3 (fun W => W.cell? ⟨r.blk, 0, none⟩ = some (.slice ao' r.data.length cap') ∧ W.cell? ⟨r.blk, 1, none⟩ = some (.int .i64 r.synced))
        (first
          | go_keep
          | (go_split_ands
             refine ⟨?_, ?_⟩
             · (first | (rw [hbel.cell (p := ⟨r.blk, 0, none⟩) (by simpa using hrlt)]; assumption) | (rw [World.cell?_of_block (w := wr.drew) (hU3.block r.blk (by simpa using hrlt) (fun e => by have := (HFA.out.row.lt _ e).1; omega))]; assumption))
             · (first | (rw [hbel.cell (p := ⟨r.blk, 1, none⟩) (by simpa using hrlt)]; assumption) | (rw [World.cell?_of_block (w := wr.drew) (hU3.block r.blk (by simpa using hrlt) (fun e => by have := (HFA.out.row.lt _ e).1; omega))]; assumption))))
        (first
          | (go_at_call 46; refine (clone_any (w := wr.drew) HBY.out (by omega)).mono ?_; rintro e w2 ⟨vc, rfl, hd, hdo, hbel⟩; obtain ⟨aoc, capc, hsh, -, -, -, -⟩ := hd.shape; subst hsh)
          | (refine step_append_file rfl _ _ rfl (w := wr.drew) rfl rfl HFD.out (by omega) (by assumption) (by assumption) (by assumption) (by omega) ?_; intro v' w3 hF3 hU3))
      have hup3 : Upd (fun _ => False) w1 w3 := (HUP.out.drew).trans hU3 (fun b hb e => by have := (HFA.out.row.lt b e).1; omega)
      have H1 := hid hF3; have H2 := hid hup3
      clear hF3 hup3 hU3 hcell cm hlk c0 c1
      go_wp2
      go_roundw
      case rel => exact ⟨k + 1, by omega, by go_num, ⟨_, by simp; omega, H1.out, by rw [List.map_append, HA.out, HST.out]; simp [FV.abs, FRec.abs, hrn]⟩, H2.out⟩
      case measure => simp [intOf]; omega
    · obtain rfl : k = n := by omega
      have hfin : ((sortNames s.names).take k).filterMap (fun n => (s.fileAt n).map FRec.abs) = fileList s := by rw [HL.out, List.take_length]; rfl
      have HF := hid (HA.out.trans hfin)
      clear hfin
      go_wp2
      go_ret
      refine ⟨_, l, rfl, ?_, HF.out, HU.out.trans HUP.out (fun _ _ h => h)⟩
      have h := HFA.out
      exact ⟨owns_lower h.row HU.out.size, h.data, fun b hb => Nat.le_trans HU.out.size (h.low b hb), h.nodup⟩

end Go.Proofs.Ytohpgmeflmppaaa
