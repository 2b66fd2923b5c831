/-
  Package disk, walked: Append.
-/
import Derived.Test.YtohpgmeflmppaaaDiskE
import Derived.Deep.RegionLaw
namespace Go.Proofs.Ytohpgmeflmppaaa
set_option linter.unusedVariables false
set_option linter.unusedSimpArgs false
set_option linter.unnecessarySimpa false
set_option linter.unusedSectionVars false
open Go Go.RowKit

/-- v is a slice that reads as the bytes bs. -/
def BytesAt (w : World) (v : Value) (bs : List UInt8) : Prop :=
  ∃ ao cap, v = .slice ao bs.length cap ∧ (ao = none → bs = [] ∧ cap = 0) ∧ ∀ a, ao = some a → ∀ j u, (bs.map byteV)[j]? = some u → w.cell? (a.add j) = some u

theorem DataIs.bytes {w : World} {v : Value} {bs : List UInt8} (h : DataIs w v bs) : BytesAt w v bs := by
  obtain ⟨ao, cap, hv, -, -, hn, hs⟩ := h.shape
  refine ⟨ao, cap, hv, hn, fun a ha j u hu => ?_⟩
  obtain ⟨h1, h2, -, h4⟩ := hs a ha
  rw [List.getElem?_map] at hu
  by_cases hj : j < bs.length
  · rw [List.getElem?_eq_getElem hj] at hu
    simp only [Option.map_some, Option.some.injEq] at hu
    rw [← hu, ← h4 j hj]
    have ha' : a = ⟨a.block, 0, none⟩ := by cases a; simp only at h1 h2; subst h1 h2; rfl
    rw [ha', show (Addr.add ⟨a.block, 0, none⟩ j : Addr) = ⟨a.block, j, none⟩ from by simp [Addr.add_lit]]
  · rw [List.getElem?_eq_none (by omega)] at hu; cases hu

theorem Try.infoByte : (Try.prog.info? 5).map (fun i => (i.zero, i.size, i.bytes)) = some (some (.int .u8 0), 1, 1) := by kernel_rfl

theorem nextcap_small {n c : Nat} (h : n ≤ 1073741824) (hc : c < n) : Builtin.nextslicecap n c ≤ 281474976710656 := by
  have := nextslicecap_le hc
  omega

/-- 'f.data = append(f.data, b...)'. -/
theorem run_append_data {w : World} {v src : Value} {bs news : List UInt8} (hd : DataIs w v bs) (hs : BytesAt w src news) (hlen : bs.length + news.length ≤ 1073741824) (ty : TypeId) :
    ∃ v' w', (Builtin.append_ #[30, 30] ty #[v, src]).run Try.prog w = .ok v' w' ∧ DataIs w' v' (bs ++ news) ∧ Upd (fun k => v.ownBlock = some k) w w' ∧ ∀ k, v'.ownBlock = some k → v.ownBlock = some k ∨ w.heap.size ≤ k := by
  obtain ⟨i0, hi, hz0, hz1, hz2⟩ := info_parts Try.infoByte
  obtain ⟨ao, scap, rfl, hn0, hc⟩ := hs
  have h1 : ∀ u ∈ news.map byteV, u.oneCell' = true := by intro u hu; obtain ⟨b, _, rfl⟩ := List.mem_map.1 hu; rfl
  rcases hd with ⟨rfl, rfl⟩ | ⟨g, cap, cur, rfl, hg, hnc, hcs, hcm, htake⟩
  · -- nil
    cases ao with
    | none =>
      obtain ⟨rfl, rfl⟩ := hn0 rfl
      have hr := run_append_owned_none (P := Try.prog) (w := w) 0 30 ty 5 i0 1 Try.underlying30 hi (.slice none 0 0) 0 [] (World.ownsRow_nil _ _ _ _)
      exact ⟨_, w, hr, .inl ⟨rfl, rfl⟩, Upd.refl _ _, by simp [Value.ownBlock]⟩
    | some a =>
      obtain ⟨v', w', hr, hown, hgr, -⟩ := run_append_own (P := Try.prog) w w.heap.size 30 ty 5 i0 (.int .u8 0) 1 1 Try.underlying30 hi hz0 hz1 hz2 rfl (by decide) (.slice none 0 0) 0 [] (World.ownsRow_nil _ _ _ _) a news.length scap (news.map byteV) (by simp) (hc a rfl) h1 (by unfold maxLen; omega) (by omega) (Nat.le_refl _)
      refine ⟨v', w', hr, ?_, (Upd.refl _ _).grown hgr (fun k hk _ => by simp [Value.ownBlock] at hk), fun k hk => .inr (hown.lt k hk).1⟩
      rw [List.nil_append] at hown ⊢
      rw [Nat.zero_add] at hown
      exact DataIs.of_owns hown
  · have hlt := lt_of_heap hg
    by_cases hroom : bs.length + news.length ≤ cap
    · cases ao with
      | none =>
        obtain ⟨rfl, rfl⟩ := hn0 rfl
        have hr : (Builtin.append_ #[30, 30] ty #[.slice (some ⟨g, 0, none⟩) bs.length cap, .slice none ([] : List UInt8).length 0]).run Try.prog w = .ok (.slice (some ⟨g, 0, none⟩) bs.length cap) w := by
          have hnc' : bs.length ≤ cap := hnc
          simp [Builtin.append_, run_underlying Try.underlying30, sizeOf, typeInfo, hi, Builtin.lenOf, hnc', run_firstCells_none, storeCells]
        exact ⟨_, w, hr, by rw [List.append_nil]; exact .inr ⟨g, cap, cur, rfl, hg, hnc, hcs, hcm, htake⟩, Upd.refl _ _, fun k hk => .inl hk⟩
      | some a =>
        have hr := run_append_room (P := Try.prog) w 30 ty 5 i0 Try.underlying30 hi g bs.length cap cur hg a news.length scap (news.map byteV) (by simp [hz1]) (hc a rfl) h1 hroom (by simp [hz1]; omega)
        refine ⟨_, _, hr, ?_, ?_, fun k hk => .inl hk⟩
        · refine .inr ⟨g, cap, (cur.toList.take (bs.length * i0.size) ++ news.map byteV ++ cur.toList.drop (bs.length * i0.size + (news.map byteV).length)).toArray, by rw [List.length_append], ?_, by rw [List.length_append]; exact hroom, ?_, hcm, ?_⟩
          · simp only [World.setRow, Array.getElem?_modify, if_pos, hg, Option.map_some]
          · simp [hz1]; omega
          · simp only [hz1, Nat.mul_one]
            rw [htake, List.length_append, List.map_append]
            rw [List.take_append_of_le_length (by simp)]
            rw [List.take_of_length_le (by simp)]
        · refine ⟨rfl, rfl, rfl, by simp, fun k hk hn => ?_⟩
          simp only [World.setRow, Array.getElem?_modify]
          rw [if_neg (fun e => hn (by simp [Value.ownBlock, e]))]
    · cases ao with
      | none =>
        obtain ⟨rfl, rfl⟩ := hn0 rfl
        exact absurd hnc (by simpa using hroom)
      | some a =>
        have holds : ∀ j u, (bs.map byteV)[j]? = some u → w.cell? ((⟨g, 0, none⟩ : Addr).add j) = some u := by
          intro j u hu
          rw [show (Addr.add ⟨g, 0, none⟩ j : Addr) = ⟨g, j, none⟩ from by simp [Addr.add_lit], cell_of_row w g j cur _ _ hg, ← Array.getElem?_toList]
          rw [← htake, List.getElem?_take] at hu
          split at hu
          · exact hu
          · cases hu
        have hr := run_append_grow (P := Try.prog) w 30 ty 5 i0 (.int .u8 0) Try.underlying30 hi hz0 ⟨g, 0, none⟩ bs.length cap (bs.map byteV) (by simp [hz1]) holds a news.length scap (news.map byteV) (by simp [hz1]) (hc a rfl) (by omega) (by omega)
          (by rw [hz2, Nat.mul_one]; exact nextcap_small hlen (by omega))
        have hge := grownCap_ge w (bs.length + news.length) cap 5
        have hle := grownCap_le_maxLen w (bs.length + news.length) cap 5 (by unfold maxLen; omega)
        refine ⟨_, _, hr, ?_, ((Upd.refl _ _).drew).alloc _, fun k hk => .inr (by simp only [Value.ownBlock, Option.some.injEq] at hk; omega)⟩
        refine .inr ⟨w.heap.size, _, _, by rw [List.length_append], heap_alloc_new w.drew _, by rw [List.length_append]; exact hge, ?_, hle, ?_⟩
        · simp [size_zeroCells, Value.cells]; omega
        · simp only [Array.toList_append, List.append_assoc, List.length_append, List.map_append]
          rw [← List.append_assoc, List.take_append_of_le_length (by simp), List.take_of_length_le (by simp)]

theorem step_append_eq {P : Program} {ops : Array Oper} {o : Oper} {a : Act} {w : World} {K : Act → World → Prop} {Q : Exit → Act → World → Prop} {E : Prop}
    (hg : o.guard = none) (s x : Operand) (t : TypeId) (hop : o.op = Op.call { callee := Callee.builtin Builtin.append, args := #[s, x], argTypes := #[t, t] }) {va vx v : Value} {w' : World} (hs : a.eval s = va) (hx : a.eval x = vx)
    (hrun : (Builtin.append_ #[t, t] o.type #[va, vx]).run P w = .ok v w') (hK : K (a.put o.dst v) w') :
    if Region.wanted o (yielded ops a.tmps) = true then Oper.wp P o a w K Q else E := by
  have hw : Region.wanted o (yielded ops a.tmps) = true := by simp [Region.wanted, hg]
  rw [if_pos hw]
  unfold Oper.wp
  simp [execOp, hop, resolve, invoke, builtin, hs, hx, hrun, Result.andThen]
  exact hK

set_option maxRecDepth 100000 in
set_option maxHeartbeats 2000000 in
theorem append1_any {w : World} {s : DS} (hs : s.In w) {r : FRec} (hr : r ∈ s.recs) {v : Value} {bs : List UInt8} (hv : BytesAt w v bs) (hroom : s.used + bs.length ≤ s.cap) {b1 b2 b3 : Nat}
    (h1 : w.cell? ⟨b1, 0, none⟩ = some (.pointer (some ⟨r.blk, 0, none⟩))) (h2 : w.cell? ⟨b2, 0, none⟩ = some v) (h3 : w.cell? ⟨b3, 0, none⟩ = some (.pointer (some ⟨s.p, 0, none⟩)))
    (hb1 : b1 ∉ s.blocks) (hb2 : b2 ∉ s.blocks) (hb3 : b3 ∉ s.blocks) :
    Calls Try.prog 52 #[.pointer (some ⟨b1, 0, none⟩), .pointer (some ⟨b2, 0, none⟩), .pointer (some ⟨b3, 0, none⟩)] w fun e w' => e = .returned (.tuple #[]) ∧
      ∃ s2, Step w w' s s2 ∧ s2.cap = s.cap ∧ s2.down = s.down ∧ s2.armed = s.armed ∧ s2.cnt = s.cnt ∧ s2.recs.map FRec.abs = updA (s.recs.map FRec.abs) r.name (fun f => { f with data := f.data ++ bs }) := by
  have hf := hs.files r hr
  have c0 := hf.c_dv
  have f0 := frozen_of_row w r.blk 0 _ _ hf.cells
  have c1 := hs.c_used
  have hdl := hs.data_le hr
  have hcap := hs.cap
  have hdr : DataIs w.drew r.dv r.data := hf.data
  obtain ⟨v', w', hrun, hdat, hu, hown⟩ := run_append_data (w := w.drew) (src := v) (news := bs) hdr hv (by omega) 30
  have l1 := World.block_lt_of_cell? w _ h1
  have l2 := World.block_lt_of_cell? w _ h2
  have l3 := World.block_lt_of_cell? w _ h3
  have out : ∀ k, k ∉ s.blocks → ¬ r.dv.ownBlock = some k := fun k hk e => hk (by simp only [DS.blocks, List.mem_cons]; exact .inr (.inr (mem_recBlocks.2 ⟨r, hr, by simp [FRec.blocks, e]⟩)))
  have keep : ∀ k i, k < w.heap.size → ¬ r.dv.ownBlock = some k → w'.cell? ⟨k, i, none⟩ = w.cell? ⟨k, i, none⟩ := fun k i hk hn => World.cell?_of_block (hu.block k hk hn)
  have hblk : ¬ r.dv.ownBlock = some r.blk := by
    have hb := hs.blocks
    obtain ⟨pre, post, e1, -⟩ := setRec_split hs.names hr (r' := r) rfl
    rw [DS.blocks, e1] at hb
    intro e
    simp [recBlocks, FRec.blocks, e, List.nodup_append] at hb
  have hblt : r.blk < w.heap.size := lt_of_heap hf.cells
  have hp : ¬ r.dv.ownBlock = some s.p := fun e => hs.p_ne_blk hr (k := s.p) (by simp [FRec.blocks, e]) rfl
  have d1 := (keep b1 0 l1 (out b1 hb1)).trans h1
  have d2 := (keep b2 0 l2 (out b2 hb2)).trans h2
  have d3 := (keep b3 0 l3 (out b3 hb3)).trans h3
  have d0 := (keep r.blk 0 hblt hblk).trans c0
  have df0 : w'.frozen? ⟨r.blk, 0, none⟩ = false := (World.frozen?_of_block (hu.block r.blk hblt hblk)).trans f0
  have du := (keep s.p 1 hs.plt hp).trans c1
  have dfu : w'.frozen? ⟨s.p, 1, none⟩ = false := (World.frozen?_of_block (hu.block s.p hs.plt hp)).trans (hs.free 1)
  obtain ⟨ao, scap, hvs, -, -⟩ := hv
  obtain ⟨ao', cap', hdv, -, -, -, -⟩ := hf.data.shape
  obtain ⟨ao2, cap2, hdv2, -, -, -, -⟩ := hdat.shape
  have n1 : b1 ≠ r.blk := fun e => hb1 (by simp only [DS.blocks, List.mem_cons]; exact .inr (.inr (mem_recBlocks.2 ⟨r, hr, by simp [FRec.blocks, e]⟩)))
  have n2 : b2 ≠ r.blk := fun e => hb2 (by simp only [DS.blocks, List.mem_cons]; exact .inr (.inr (mem_recBlocks.2 ⟨r, hr, by simp [FRec.blocks, e]⟩)))
  have n3 : b3 ≠ r.blk := fun e => hb3 (by simp only [DS.blocks, List.mem_cons]; exact .inr (.inr (mem_recBlocks.2 ⟨r, hr, by simp [FRec.blocks, e]⟩)))
  have n4 : s.p ≠ r.blk := fun e => hs.p_ne_blk hr (k := r.blk) (by simp [FRec.blocks]) e.symm
  have hst : Step w ((w'.setCell ⟨r.blk, 0, none⟩ v').setCell ⟨s.p, 1, none⟩ (.int .i64 ((s.used : Int) + (bs.length : Int)))).drew s { s with recs := setRec s.recs { r with dv := v', data := r.data ++ bs } } := by
    have hused : ((usedOf (setRec s.recs { r with dv := v', data := r.data ++ bs }) : Nat) : Int) = (s.used : Int) + (bs.length : Int) := by
      have := usedOf_setRec hs.names hr (r' := { r with dv := v', data := r.data ++ bs }) rfl
      unfold DS.used; simp at this; omega
    have hU : Upd (fun k => k = s.p ∨ k ∈ r.blocks) w ((w'.setCell ⟨r.blk, 0, none⟩ v').setCell ⟨s.p, 1, none⟩ (.int .i64 ((s.used : Int) + (bs.length : Int)))).drew := by
      refine ((((Upd.refl _ w).drew.trans hu ?_).setCell ?_ _).setCell ?_ _).drew
      · intro k _ hk; exact .inr (by simp [FRec.blocks, hk])
      · intro _; exact .inr (by simp [FRec.blocks])
      · intro _; exact .inl rfl
    have hcells : (w'.setCell ⟨r.blk, 0, none⟩ v').heap[r.blk]? = some (.cells #[v', .int .i64 r.synced] 96 (0, 0)) :=
      heap_setCell_at w' r.blk 0 _ _ _ (hu.get hf.cells hblk)
    refine hs.turned (r := r) (r' := { r with dv := v', data := r.data ++ bs }) hr rfl rfl rfl rfl rfl rfl hs.armed hU ⟨?_, ?_, ?_, hf.name⟩ ?_ ?_ hown
    · show ((w'.setCell ⟨r.blk, 0, none⟩ v').setCell ⟨s.p, 1, none⟩ _).heap[r.blk]? = _
      rw [heap_setCell_ne _ _ _ _ n4.symm]; exact hcells
    · refine hdat.of_block (fun k hk => ?_)
      have e1 : k ≠ s.p := fun e => by
        rcases hown k hk with h | h
        · exact hp (e ▸ h)
        · have := hs.plt; have : w.drew.heap.size = w.heap.size := rfl; omega
      have e2 : k ≠ r.blk := fun e => by
        rcases hown k hk with h | h
        · exact hblk (e ▸ h)
        · have : w.drew.heap.size = w.heap.size := rfl; omega
      show ((w'.setCell ⟨r.blk, 0, none⟩ v').setCell ⟨s.p, 1, none⟩ _).heap[k]? = _
      rw [heap_setCell_ne _ _ _ _ e1, heap_setCell_ne _ _ _ _ e2]
    · show r.synced ≤ (r.data ++ bs).length
      have := hf.synced; simp; omega
    · show ((w'.setCell ⟨r.blk, 0, none⟩ v').setCell ⟨s.p, 1, none⟩ _).heap[s.p]? = _
      have ht : (w'.setCell ⟨r.blk, 0, none⟩ v').heap[s.p]? = some (.cells s.cells 91 (0, 0)) := by
        rw [heap_setCell_ne _ _ _ _ n4]; exact hu.get hs.top hp
      rw [heap_setCell_at _ _ _ _ _ _ ht, ← hused]; rfl
    · show usedOf _ ≤ s.cap
      have e : usedOf (setRec s.recs { r with dv := v', data := r.data ++ bs }) = s.used + bs.length := by omega
      rw [e]; exact hroom
  have HST := hid hst
  have habs : (setRec s.recs { r with dv := v', data := r.data ++ bs }).map FRec.abs = updA (s.recs.map FRec.abs) r.name (fun f => { f with data := f.data ++ bs }) :=
    setRec_abs (r := r) (r' := { r with dv := v', data := r.data ++ bs }) hs.names hr rfl rfl
  have HA := hid habs
  have hu1 : (s.used : Int) + (bs.length : Int) ≤ 67108864 := by omega
  rw [hdv] at hrun c0 d0
  rw [hvs] at hrun h2 d2
  rw [List.length_append] at hdv2
  rw [hdv2] at hrun HST HA
  have huw := hu.size
  clear hst habs hs hf hdat hu hown keep out hdr hdv hvs hdv2 hb1 hb2 hb3 hp hblk hroom hdl hcap
  go_enter Try.func52, Try.ntmps52
  go_wp2
  have HRUN := hid hrun; clear hrun
  go_region_law (refine step_append_eq rfl (.tmp 7) (.tmp 8) 30 rfl rfl rfl HRUN.out ?_)
  all_goals
    go_wp2
    go_region
    go_end0
    exact ⟨rfl, _, HST.out, rfl, rfl, rfl, rfl, HA.out⟩

end Go.Proofs.Ytohpgmeflmppaaa
