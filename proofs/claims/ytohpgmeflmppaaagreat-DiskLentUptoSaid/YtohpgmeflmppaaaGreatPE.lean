/-
  acts, walked: Crash, Flip. What every call leaves.
  tells, walked: Counts, Files.
  tells, walked: Files.
-/
import Derived.Test.YtohpgmeflmppaaaGreatPB
import Derived.Test.YtohpgmeflmppaaaGreatPA
import Derived.Test.YtohpgmeflmppaaaGreatPC
import Derived.Test.YtohpgmeflmppaaaGreatGT
import Derived.StillTailTactics
namespace Go.Proofs.YtohpgmeflmppaaaGreat
set_option linter.unusedVariables false
set_option linter.unusedSimpArgs false
set_option linter.unnecessarySimpa false
set_option linter.unusedSectionVars false
open Go Go.RowKit

/-- What every call leaves: a world like it. -/
def Went (w0 w : World) (S : WS) (most : Int) (w' : World) : Prop := ∃ S', WOn w0 w' S' ∧ S'.p = S.p ∧ S.ds.length ≤ S'.ds.length ∧ S'.b.n ≤ S.b.n + most ∧ Turn w.heap.size w w' S S'

set_option maxRecDepth 100000 in
set_option maxHeartbeats 3200000 in
theorem acts_flip {w0 w : World} {S : WS} {o : OpI} {i : Nat} (hw : WOn w0 w S) (hi : i < S.ds.length) (hi' : i < S.rs.length) (ho : OpShapes o) (hk : o.kind = 14) (hpos : o.pos ≤ 9223372036854775807) :
    Calls Tryz.prog 45 #[.pointer (some ⟨S.p, 0, none⟩), .agg o.cells, ptrD S.ds[i], ptrR S.rs[i]] w fun e w' => e = .returned (.bool true) ∧ Went w0 w S 0 w' := by
  obtain ⟨ba, bc, ca, cl, cc, fa, fl, fc, hb1, hc1, hf1⟩ := ho.get
  have hcells : o.cells = #[.int .i64 14, .int .i64 o.obj, .string o.name, .string o.dest, .slice ba o.bs.length bc, .int .i64 o.pos, .int .i64 o.n, .slice ca cl cc, .slice fa fl fc] := by unfold OpI.cells; rw [hk, hb1, hc1, hf1]
  rw [hcells]
  have HD := hid (show ∀ W, Upd (fun _ => False) w W → Calls Tryz.prog 78 #[.pointer (some ⟨S.ds[i].p, 0, none⟩), .string o.name, .int .i64 o.pos] W fun e W' => e = .returned (.int .i64 (cFlip S.ds[i].abs o.name o.pos).1) ∧ ∃ s2, Step W W' S.ds[i] s2 ∧ s2.abs = (cFlip S.ds[i].abs o.name o.pos).2 from fun W hW => by
    have h := flip_any ((hw.mem.keep hW).dsIn i hi) o.name o.pos hpos
    exact h)
  have HR := hid (show ∀ W W1 s2, Upd (fun _ => False) w W → Step W W1 S.ds[i] s2 → s2.abs = (cFlip S.ds[i].abs o.name o.pos).2 → Calls Tryz.prog 79 #[.pointer (some ⟨S.rs[i].p, 0, none⟩), .string o.name, .int .i64 o.pos] W1 fun e W' => e = .returned (.int .i64 (cFlip S.ds[i].abs o.name o.pos).1) ∧ ∃ r2, RStep W1 W' S.rs[i] r2 ∧ Alike s2.abs r2.abs ∧ Sorted r2.F from fun W W1 s2 hW hst habs => by
    have hk := hw.keep hW
    have m1 := hk.mem.stepD hk.upd.size hi hst
    obtain ⟨hal, hso⟩ := hw.pair i hi hi'
    have hnd : NamesND S.ds[i].abs := names_nodup (hw.mem.dsIn i hi)
    have hc := cFlip_alike hal hnd o.name o.pos
    refine (refFlip_any (m1.rsIn i hi') hso o.name o.pos hpos).mono ?_
    rintro e W' ⟨rfl, r2, h1, h2, h3⟩
    exact ⟨by rw [hc.1], r2, h1, habs ▸ hc.2.trans h2.symm, h3⟩)
  have HW := hid hw
  unfold ptrD ptrR
  obtain ⟨dp, hdp⟩ : ∃ dp, dp = S.ds[i].p := ⟨_, rfl⟩
  obtain ⟨rp, hrp⟩ : ∃ rp, rp = S.rs[i].p := ⟨_, rfl⟩
  obtain ⟨c, hc⟩ : ∃ c, c = (cFlip S.ds[i].abs o.name o.pos).1 := ⟨_, rfl⟩
  rw [← hdp] at HD ⊢
  rw [← hrp] at HR ⊢
  rw [← hc] at HD HR
  clear hw ho hb1 hc1 hf1 hcells hdp hrp hc hk
  go_enter Tryz.func45, Tryz.ntmps45
  go_wp2_with fail
  obtain ⟨wb, hwb⟩ : ∃ wb, wb = w.alloc (.cells #[.int .i64 14, .int .i64 o.obj, .string o.name, .string o.dest, .slice ba o.bs.length bc, .int .i64 o.pos, .int .i64 o.n, .slice ca cl cc, .slice fa fl fc] 42) := ⟨_, rfl⟩
  rw [← hwb]
  obtain ⟨fb, hfb⟩ : ∃ fb, fb = w.heap.size := ⟨_, rfl⟩
  rw [← hfb]
  have hbx : wb.heap[fb]? = some (.cells #[.int .i64 14, .int .i64 o.obj, .string o.name, .string o.dest, .slice ba o.bs.length bc, .int .i64 o.pos, .int .i64 o.n, .slice ca cl cc, .slice fa fl fc] 42 (0, 0)) := by rw [hwb, hfb]; exact heap_alloc_new w _
  have b2 : wb.cell? ⟨fb, 2, none⟩ = some (.string o.name) := by rw [cell_of_row wb _ 2 _ _ _ hbx]; rfl
  have b5 : wb.cell? ⟨fb, 5, none⟩ = some (.int .i64 o.pos) := by rw [cell_of_row wb _ 5 _ _ _ hbx]; rfl
  have hub : Upd (fun _ => False) w wb.drew := by rw [hwb]; exact ((Upd.refl _ _).alloc _).drew
  have hfd : ¬ fb ∈ S.ds[i].blocks := fun hm => by have := (HW.out.mem.dsIn i hi).lt fb hm; omega
  have hfr : ¬ S.rs[i].own fb := fun hm => by have := (HW.out.mem.rsIn i hi').lt hm; omega
  have hfl : fb < wb.heap.size := lt_of_heap hbx
  have HUB := hid hub; have HFD := hid hfd; have HFR := hid hfr
  clear hwb hfb hbx hub hfd hfr
  go_region_held3 (fun W => W.cell? ⟨fb, 2, none⟩ = some (.string o.name) ∧ W.cell? ⟨fb, 5, none⟩ = some (.int .i64 o.pos))
    (first
      | go_keep
      | (go_split_ands
         refine ⟨?_, ?_⟩
         · (first | (rw [World.cell?_of_block (w := w2) (a := ⟨fb, 2, none⟩) (hr2.upd.block fb hfl2 HFR.out)]; assumption) | (rw [World.cell?_of_block (w := wb.drew) (a := ⟨fb, 2, none⟩) (hst.upd.block fb (by simpa using hfl) HFD.out)]; assumption))
         · (first | (rw [World.cell?_of_block (w := w2) (a := ⟨fb, 5, none⟩) (hr2.upd.block fb hfl2 HFR.out)]; assumption) | (rw [World.cell?_of_block (w := wb.drew) (a := ⟨fb, 5, none⟩) (hst.upd.block fb (by simpa using hfl) HFD.out)]; assumption))))
    (first
      | (go_at_call 78; refine (HD.out _ HUB.out).mono ?_; rintro e w2 ⟨rfl, s2, hst, habs⟩; have hfl2 : fb < w2.heap.size := Nat.lt_of_lt_of_le (by simpa using hfl) hst.upd.size)
      | (go_at_call 9; refine (num_any _ _).mono ?_; rintro e w' ⟨rfl, hww⟩; obtain rfl := hww.symm)
      | (go_at_call 79; refine (HR.out _ _ _ HUB.out hst habs).mono ?_; rintro e w3 ⟨rfl, r2, hr2, hal, hso⟩)
      | fail)
  all_goals
    have HF := hid (((HW.out.keep HUB.out).both hi hi' hst hr2 hal hso))
    have HTN := hid (((Turn.keep w.heap.size S HUB.out).trans (Turn.stepD HUB.out.size hi hst)).trans (Turn.stepR (S := { S with ds := S.ds.set i s2 }) (Nat.le_trans HUB.out.size hst.upd.size) hi' hr2))
    clear hst hr2 hal hso habs
    go_wp2
    go_ret
    exact ⟨rfl, _, HF.out, rfl, by simp, by show S.b.n ≤ S.b.n + 0; omega, HTN.out⟩

theorem Tryz.infoIntFull : (Tryz.prog.info? 3).map (fun i => (i.zero, i.size, i.bytes)) = some (some (.int .i64 0), 1, 8) := by kernel_rfl

def intV (n : Int) : Value := .int .i64 n

set_option maxRecDepth 100000 in
/-- Ints join a list of ints. -/
theorem run_append_ints {w : World} {v src : Value} {n : Nat} {xs : List Value} {zs : List Int} (h : w.ownsRow 0 3 1 v n xs) (hs : IntsAt w src zs) (hnil : ∀ l c, src = .slice none l c → c = 0) (hn : n + zs.length ≤ 100000000) (ty : TypeId) :
    ∃ v' w', (Builtin.append_ #[39, 39] ty #[v, src]).run Tryz.prog w = .ok v' w' ∧ w'.ownsRow 0 3 1 v' (n + zs.length) (xs ++ zs.map intV) ∧ Upd (fun k => v.ownBlock = some k) w w' ∧ (∀ k, v'.ownBlock = some k → v.ownBlock = some k ∨ w.heap.size ≤ k) := by
  obtain ⟨i0, hi, hz0, hz1, hz2⟩ := info_parts Tryz.infoIntFull
  obtain ⟨ao, cap, rfl, -, hc⟩ := hs
  cases ao with
  | none =>
    have hz : zs = [] := by
      cases zs with
      | nil => rfl
      | cons z t => obtain ⟨a, e, -⟩ := hc 0 (by simp); cases e
    subst hz
    obtain rfl := hnil _ _ rfl
    have hr := run_append_owned_none (P := Tryz.prog) (w := w) 0 39 ty 3 i0 1 Tryz.underlying39 hi v n xs h
    exact ⟨v, w, hr, by simpa using h, Upd.refl _ _, fun k hk => .inl hk⟩
  | some a =>
    obtain ⟨v', w', hr, hown, hgr, -, hat⟩ := run_append_own_at (P := Tryz.prog) w 0 39 ty 3 i0 _ 1 8 Tryz.underlying39 hi hz0 hz1 hz2 rfl (by omega) v n xs h a zs.length cap (zs.map intV) (by simp) (by
        intro j u hu
        rw [List.getElem?_map] at hu
        by_cases hj : j < zs.length
        · rw [List.getElem?_eq_getElem hj] at hu
          obtain ⟨a', e, hsp, hcell⟩ := hc j hj
          cases e
          obtain ⟨b, o, sp⟩ := a
          simp only at hsp
          subst hsp
          have h2 := hcell j hj
          simp only [Option.map_some, Option.some.injEq] at hu
          rw [Addr.add_lit, h2, ← hu]
          rfl
        · rw [List.getElem?_eq_none (by omega)] at hu; cases hu) (by
        intro u hu
        obtain ⟨z, -, rfl⟩ := List.mem_map.1 hu
        rfl) (by unfold maxLen; omega) (by omega) (Nat.zero_le _)
    refine ⟨v', w', hr, hown, (Upd.refl _ _).grown hgr (fun k hk _ => hk), fun k hk => ?_⟩
    rcases hat with h1 | h1
    · exact .inl (h1 ▸ hk)
    · rw [h1] at hk; right; simp at hk; omega

theorem row_ints {w : World} {base n : Nat} {g cap : Nat} {zs : List Int} {more : List Int} (h : w.ownsRow base 3 1 (.slice (some ⟨g, 0, none⟩) n cap) n ((zs ++ more).map intV)) (c : Nat) (hl : zs.length ≤ 9223372036854775807) : IntsAt w (.slice (some ⟨g, 0, none⟩) zs.length c) zs := by
  obtain ⟨ao, cap', e, hn, hat⟩ := owns_shape h
  refine ⟨_, c, rfl, hl, fun k hk => ⟨⟨g, 0, none⟩, rfl, rfl, fun j hj => ?_⟩⟩
  obtain ⟨g', e2, -, -, hc⟩ := hat 0 (by rw [hn]; simp; omega)
  injection e with e3 _ _
  rw [e2] at e3
  injection e3 with e3
  injection e3 with e3
  subst e3
  have h2 := hc j (by simp; omega)
  show w.cell? ⟨g, 0 + j, none⟩ = _
  rw [Nat.zero_add, h2, List.getElem_map, List.getElem_append_left hj]
  rfl

set_option maxRecDepth 100000 in
set_option maxHeartbeats 3200000 in
theorem acts_crash {w0 w : World} {S : WS} {o : OpI} {i : Nat} (hw : WOn w0 w S) (hi : i < S.ds.length) (hi' : i < S.rs.length) (ho : OpShapes o) (hk : o.kind = 13) (hcv : IntsAt w0 o.cv o.cuts) (hlow : ∀ a l c, o.cv = .slice (some a) l c → 0 < l → a.block < w0.heap.size) (hnil : ∀ l c, o.cv = .slice none l c → c = 0)
    (hfew : o.cuts.length ≤ 10000000) :
    Calls Tryz.prog 45 #[.pointer (some ⟨S.p, 0, none⟩), .agg o.cells, ptrD S.ds[i], ptrR S.rs[i]] w fun e w' => e = .returned (.bool true) ∧ Went w0 w S 0 w' := by
  obtain ⟨ba, bc, ca', cl', cc', fa, fl, fc, hb1, hc1, hf1⟩ := ho.get
  obtain ⟨ca, cc, hcs, hc63, hcc⟩ := id hcv
  obtain ⟨rfl, rfl, rfl⟩ : ca = ca' ∧ o.cuts.length = cl' ∧ cc = cc' := by rw [hc1] at hcs; injection hcs with h1 h2 h3; exact ⟨h1.symm, h2.symm, h3.symm⟩
  have hcells : o.cells = #[.int .i64 13, .int .i64 o.obj, .string o.name, .string o.dest, .slice ba o.bs.length bc, .int .i64 o.pos, .int .i64 o.n, .slice ca o.cuts.length cc, .slice fa fl fc] := by unfold OpI.cells; rw [hk, hb1, hc1, hf1]
  rw [hcells]
  -- what the cuts are, in any world made since w0
  have hcin : ∀ W, Upd (fun _ => False) w0 W → IntsAt W (.slice ca o.cuts.length cc) o.cuts := fun W hW => by
    refine ⟨ca, cc, rfl, hc63, fun k hk => ?_⟩
    obtain ⟨a, e, hs, hc⟩ := hcc k hk
    refine ⟨a, e, hs, fun j hj => ?_⟩
    have hb : a.block < w0.heap.size := hlow a _ _ (by rw [hc1, e]) (by omega)
    exact (World.cell?_of_block (a := ⟨a.block, a.off + j, none⟩) (hW.block a.block hb (fun h => h))).trans (hc j hj)
  have hclow : ∀ a l c, (Value.slice ca o.cuts.length cc) = .slice (some a) l c → 0 < l → a.block < w0.heap.size := fun a l c e h0 => hlow a l c (hc1.trans e) h0
  have hcnil : ∀ l c, (Value.slice ca o.cuts.length cc) = .slice none l c → c = 0 := fun l c e => hnil l c (hc1.trans e)
  have HW := hid hw; have HCIN := hid hcin; have HCLOW := hid hclow; have HCNIL := hid hcnil
  unfold ptrD ptrR
  obtain ⟨dp, hdp⟩ : ∃ dp, dp = S.ds[i].p := ⟨_, rfl⟩
  obtain ⟨rp, hrp⟩ : ∃ rp, rp = S.rs[i].p := ⟨_, rfl⟩
  rw [← hdp, ← hrp]
  have HDP := hid hdp; have HRP := hid hrp
  obtain ⟨Lc, hLc⟩ : ∃ Lc, Lc = o.cuts.length := ⟨_, rfl⟩
  rw [← hLc] at HCIN HCLOW HCNIL hfew ⊢
  have HLC := hid hLc
  clear hw ho hb1 hc1 hf1 hcells hdp hrp hk hcv hlow hnil hcs hcc hcin hclow hcnil hLc hc63
  go_enter Tryz.func45, Tryz.ntmps45
  go_upto_region 20 with fail
  obtain ⟨wb, hwb⟩ : ∃ wb, wb = w.alloc (.cells #[.int .i64 13, .int .i64 o.obj, .string o.name, .string o.dest, .slice ba o.bs.length bc, .int .i64 o.pos, .int .i64 o.n, .slice ca Lc cc, .slice fa fl fc] 42) := ⟨_, rfl⟩
  rw [← hwb]
  obtain ⟨fb, hfb⟩ : ∃ fb, fb = w.heap.size := ⟨_, rfl⟩
  rw [← hfb]
  have hbx : wb.heap[fb]? = some (.cells #[.int .i64 13, .int .i64 o.obj, .string o.name, .string o.dest, .slice ba o.bs.length bc, .int .i64 o.pos, .int .i64 o.n, .slice ca Lc cc, .slice fa fl fc] 42 (0, 0)) := by rw [hwb, hfb]; exact heap_alloc_new w _
  have hub : Upd (fun _ => False) w wb := by rw [hwb]; exact (Upd.refl _ _).alloc _
  have HBX := hid hbx
  have hcell : ∀ W : World, W.heap[fb]? = wb.heap[fb]? → W.cell? ⟨fb, 7, none⟩ = some (.slice ca Lc cc) ∧ fb < W.heap.size := fun W hW => by
    have h := hW.trans HBX.out
    exact ⟨by rw [cell_of_row W _ 7 _ _ _ h]; rfl, lt_of_heap h⟩
  have HCELL := hid hcell
  obtain ⟨b7, hfbl⟩ := hcell wb rfl
  -- the two appends
  have hu0 : Upd (fun _ => False) wb (wb.alloc (.cells #[] 3)) := (Upd.refl _ _).alloc _
  have hrow0 : (wb.alloc (.cells #[] 3)).ownsRow 0 3 1 (.slice (some ⟨wb.heap.size, 0, none⟩) 0 0) 0 [] := ⟨rfl, .inr ⟨wb.heap.size, 0, #[], rfl, Nat.zero_le _, heap_alloc_new wb _, Nat.le_refl _, by decide, rfl, rfl⟩⟩
  have hcin1 := HCIN.out _ ((HW.out.upd.trans hub (fun _ _ h => h)).trans hu0 (fun _ _ h => h))
  obtain ⟨v1, w1, hrun1, hrow1, hu1, hat1⟩ := run_append_ints hrow0 hcin1 HCNIL.out (by have := HLC.out; omega) 39
  have hup1 : Upd (fun _ => False) wb w1 := hu0.trans hu1 (fun k hk e => by have e' : wb.heap.size = k := Option.some.inj e; omega)
  have hv1 : ∀ k, v1.ownBlock = some k → wb.heap.size ≤ k := fun k hk => (hat1 k hk).elim (fun e => by have e' : wb.heap.size = k := Option.some.inj e; omega) (fun h => by simp at h; omega)
  have hsrc2 : IntsAt (w1.alloc (.cells #[.int .i64 (-77)] 3)) (.slice (some ⟨w1.heap.size, 0, none⟩) 1 1) [-77] := ⟨_, 1, rfl, by simp, fun k hk => ⟨_, rfl, rfl, fun j hj => by
    have hj0 : j = 0 := by simp at hj; omega
    subst hj0
    rw [cell_of_row _ _ _ _ _ _ (heap_alloc_new w1 _)]; rfl⟩⟩
  obtain ⟨v2, w2, hrun2, hrow2, hu2, hat2⟩ := run_append_ints (w := w1.alloc (.cells #[.int .i64 (-77)] 3)) (owns_upd hrow1 ((Upd.refl (fun _ => False) w1).alloc _) (fun _ _ h => h)) hsrc2 (fun l c e => by cases e) (by have := HLC.out; simp; omega) 39
  have hup2 : Upd (fun _ => False) wb w2 := (hup1.alloc _).trans hu2 (fun k hk e => by have := hv1 k e; omega)
  have hv2 : ∀ k, v2.ownBlock = some k → wb.heap.size ≤ k := fun k hk => (hat2 k hk).elim (hv1 k) (fun h => by have := hup1.size; simp at h; omega)
  obtain ⟨a1, k1, hs1, -, -⟩ := owns_shape hrow1
  obtain ⟨a2, k2, hs2, -, hat⟩ := owns_shape hrow2
  have hLL : 0 + o.cuts.length = Lc := by have := HLC.out; omega
  have hLL2 : 0 + o.cuts.length + ([-77] : List Int).length = Lc + 1 := by have := HLC.out; simp; omega
  rw [hLL] at hs1
  rw [hLL2] at hs2 hrow2 hat
  obtain ⟨g, rfl, -, hg, hcat⟩ := hat 0 (by omega)
  rw [List.nil_append, ← List.map_append] at hrow2 hcat
  have hk2 : Lc + 1 ≤ k2 ∧ k2 ≤ 9223372036854775807 := by
    rcases hrow2.2 with ⟨e, hz⟩ | ⟨g', cap, cur, e, -, -, h1, h2, -⟩
    · omega
    · rw [hs2] at e; injection e with _ _ e3; subst e3; exact ⟨h1, by simpa [maxLen] using h2⟩
  subst hs1 hs2
  obtain ⟨N2, hN2⟩ : ∃ N2, N2 = Lc + 1 := ⟨_, rfl⟩
  have HN2 := hid hN2
  have hrun1' : (Builtin.append_ #[39, 39] 39 #[.slice (some ⟨wb.heap.size, 0, none⟩) 0 0, .slice ca Lc cc]).run Tryz.prog (wb.alloc (.cells #[] 3)) = .ok (.slice a1 Lc k1) w1 := hrun1
  have hrun2' : (Builtin.append_ #[39, 39] 39 #[.slice a1 Lc k1, .slice (some ⟨w1.heap.size, 0, none⟩) 1 1]).run Tryz.prog (w1.alloc (.cells #[.int .i64 (-77)] 3)) = .ok (.slice (some ⟨g, 0, none⟩) N2 k2) w2 := by rw [hN2]; exact hrun2
  have HR1 := hid hrun1'; have HR2 := hid hrun2'; have HROW := hid hrow2; have HUP2 := hid hup2; have HUB := hid hub
  have hgw := hv2 g rfl
  have hints : IntsAt w2 (.slice (some ⟨g, 0, none⟩) Lc k2) o.cuts := by
    have h := row_ints hrow2 k2 (by have := HLC.out; omega)
    rw [HLC.out]; exact h
  have HINTS := hid hints
  have hb2 := hup2.block fb hfbl (fun h => h)
  obtain ⟨b7', hfb2⟩ := HCELL.out w2 hb2
  have HB2 := hid hb2
  have hon2 := HW.out.keep (hub.trans hup2 (fun _ _ h => h))
  have HON2 := hid hon2
  have hfd : ¬ fb ∈ S.ds[i].blocks := fun hm => by have h1 := (HW.out.mem.dsIn i hi).lt fb hm; omega
  have hgd : ¬ g ∈ S.ds[i].blocks := fun hm => by have h1 := (HW.out.mem.dsIn i hi).lt g hm; have := hub.size; omega
  have hfr : ¬ S.rs[i].own fb := fun hm => by have h1 := (HW.out.mem.rsIn i hi').lt hm; omega
  have HFD := hid hfd; have HGD := hid hgd
  have hcr := crash_any (hon2.mem.dsIn i hi) (cv := .slice (some ⟨g, 0, none⟩) Lc k2) hints (fun a l c e h0 => by injection e with e1 _ _; injection e1 with e1; subst e1; exact ⟨hgd, hg⟩)
  rw [← HDP.out] at hcr
  have HCR := hid hcr
  have hlen1 : Lc ≤ k2 := by omega
  have hlen1' : (Lc : Int) ≤ (k2 : Int) := by omega
  have hk2' : k2 ≤ 9223372036854775807 := hk2.2
  clear hwb hfb hbx hub hcell hu0 hrow0 hcin1 hrun1 hrow1 hu1 hat1 hup1 hv1 hsrc2 hrun2 hrow2 hu2 hat2 hup2 hv2 hat hLL hLL2 hrun1' hrun2' hints hb2 hon2 hfd hgd hcr hk2 hN2 hcat
  go_upto_region 21 with (at_builtin; refine wpList_append_run rfl _ _ _ rfl rfl rfl HR1.out ?_)
  go_upto_region 22 with (at_builtin; refine wpList_append_run rfl _ _ _ rfl rfl rfl HR2.out ?_)
  clear b7
  go_wp2_with fail
  refine HCR.out.mono ?_
  rintro e w3 ⟨rfl, s2, hst, habs⟩
  obtain ⟨nr, hnr⟩ : ∃ nr : Int, nr = ((crashF o.cuts S.ds[i].abs.files).2 : Nat) := ⟨_, rfl⟩
  rw [← hnr]
  have hbf3 : w3.heap[fb]? = wb.heap[fb]? := (hst.upd.block fb hfb2 HFD.out).trans HB2.out
  have hrow3 := owns_upd HROW.out hst.upd (fun k hk => by cases hk; exact HGD.out)
  have hu3 : Upd (fun _ => False) w0 w3 := HON2.out.upd.trans hst.upd (fun k hk hm => by have := HON2.out.mem.low (2 * i + 1) k (.inr (.inl ⟨i, hi, rfl, hm⟩)); omega)
  have hg3 : g < w3.heap.size := Nat.lt_of_lt_of_le hg hst.upd.size
  obtain ⟨b7, hfb3⟩ := HCELL.out w3 hbf3
  obtain ⟨a3, c3, hs3, -, hat3⟩ := owns_shape hrow3
  injection hs3 with hs31 _ hs33
  subst hs31 hs33
  have hc3 : ∀ j (hj : j < (o.cuts ++ [-77]).length), w3.cell? ⟨g, j, none⟩ = some (.int .i64 (o.cuts ++ [-77])[j]) := fun j hj => by
    obtain ⟨g', e, -, -, hc⟩ := hat3 0 (by omega)
    injection e with e
    injection e with e
    subst e
    rw [hc j (by simpa using hj), List.getElem_map]
    rfl
  have hci3 := HCIN.out w3 hu3
  have HST := hid hst; have HABS := hid habs; have HC3 := hid hc3; have HU3 := hid hu3; have HNR := hid hnr; have HCI3 := hid hci3
  clear hst habs hnr hbf3 hrow3 hu3 hat3 hc3 hci3 b7'
  go_wp2
  go_loopw [14] (fun iv wr => ∃ k : Nat, k ≤ Lc ∧ iv = .int .i64 k ∧ Drawn w3 wr) (fun iv _ => Lc - (intOf iv).toNat)
  case atStart => exact ⟨0, Nat.zero_le _, rfl, ⟨Upd.refl _ _, rfl⟩⟩
  case round =>
    obtain ⟨k, hk, rfl, hdr⟩ := hrel
    have HDR := hid hdr
    have c7 : wr.cell? ⟨fb, 7, none⟩ = some (.slice ca Lc cc) := (hdr.cell _).trans b7
    have hfbr : fb < wr.heap.size := by rw [hdr.2]; exact hfb3
    have hgr : g < wr.heap.size := by rw [hdr.2]; exact hg3
    have hkN : k < N2 := by have := HN2.out; omega
    have hkN' : (k : Int) < (N2 : Int) := by omega
    by_cases hlt : k < Lc
    · have hltc : k < o.cuts.length := by have := HLC.out; omega
      obtain ⟨ca2, cc2, hce, -, hcat⟩ := HCI3.out
      injection hce with hce1 hce2 hce3
      subst hce1 hce3
      clear hce2
      obtain ⟨⟨ab, ao, sp⟩, rfl, hsp, hcell⟩ := hcat k hltc
      simp only at hsp hcell
      subst hsp
      have d1 : wr.cell? ⟨ab, ao + k, none⟩ = some (.int .i64 o.cuts[k]) := (hdr.cell _).trans (hcell k hltc)
      have d0 : wr.cell? ⟨g, k, none⟩ = some (.int .i64 o.cuts[k]) := by
        rw [hdr.cell, HC3.out k (by simp; omega), List.getElem_append_left hltc]
      have hab := World.block_lt_of_cell? _ _ d1
      obtain ⟨z, hz⟩ : ∃ z, z = o.cuts[k] := ⟨_, rfl⟩
      rw [← hz] at d0 d1
      clear hdr hcat hcell hz hltc
      go_wp2_with fail
      go_quiet (fail)
      go_wp2
      go_roundw
      case rel => exact ⟨k + 1, by omega, by go_num, HDR.out.drewN _⟩
      case measure => simp [intOf]; omega
    · obtain rfl : k = Lc := by omega
      have d0 : wr.cell? ⟨g, k, none⟩ = some (.int .i64 (-77)) := by
        have hl := HLC.out
        rw [hdr.cell, HC3.out k (by simp; omega), List.getElem_append_right (by omega)]
        simp [hl]
      have hst' : Step w2 wr S.ds[i] s2 := HST.out.trans (Step.of_upd HST.out.ins hdr.1)
      have m1 := HON2.out.mem.stepD HON2.out.upd.size hi hst'
      obtain ⟨hal, hso⟩ := HON2.out.pair i hi hi'
      have hsin := HON2.out.mem.dsIn i hi
      have hsf := sorted_fileList hsin hal hso
      obtain ⟨hcf1, hcf2⟩ := crash_files hsin (s2 := s2) (cuts := o.cuts) (by rw [HABS.out])
      have hcr := refCrash_any (m1.rsIn i hi') hso (HCIN.out wr (HU3.out.trans hdr.1 (fun _ _ h => h))) (fun a l c e h0 => ⟨fun ho => by have h1 := HCLOW.out a l c e h0; have h2 := HON2.out.mem.low (2 * i + 2) _ (.inr (.inr ⟨i, hi', rfl, ho⟩)); omega, by have h1 := HCLOW.out a l c e h0; have h2 := HU3.out.size; have h3 := hdr.1.size; omega⟩)
      rw [show S.rs[i].abs.files = fileList S.ds[i] from hsf, ← hcf2, ← HNR.out, ← HRP.out, ← hcf1] at hcr
      have hpf : s2.abs.files.Perm (fileList s2) := (fileList_files_perm HST.out.ins).symm
      have HCR2 := hid hcr; have HSO := hid hso; have HAL := hid hal; have HPF := hid hpf; have HST' := hid hst'
      have hnn : (nr == nr) = true := by simp
      clear hdr hst' m1 hal hso hsin hsf hcf1 hcf2 hcr hpf
      go_wp2_with fail
      refine HCR2.out.mono ?_
      rintro e w5 ⟨rfl, r2, hr2, hab, hs2⟩
      have hal2 : Alike s2.abs r2.abs := by
        rw [hab]
        have h := HABS.out
        have hA := HAL.out
        refine ⟨?_, HPF.out, ?_, ?_, ?_⟩
        · rw [h]; exact hA.cap
        · rw [h]
        · rw [h]
        · rw [h]; exact hA.cnt
      have HF := hid (HON2.out.both hi hi' HST'.out hr2 hal2 hs2)
      have HU := hid (HUB.out.trans HUP2.out (fun _ _ h => h))
      have HTN := hid (((Turn.keep w.heap.size S HU.out).trans (Turn.stepD HU.out.size hi HST'.out)).trans (Turn.stepR (S := { S with ds := S.ds.set i s2 }) (Nat.le_trans HU.out.size HST'.out.upd.size) hi' hr2))
      clear hr2 hab hs2 hal2
      go_wp2
      go_ret
      exact ⟨by first | rfl | simp, _, HF.out, rfl, by simp, by show S.b.n ≤ S.b.n + 0; omega, HTN.out⟩

end Go.Proofs.YtohpgmeflmppaaaGreat

namespace Go.Proofs.YtohpgmeflmppaaaGreat
set_option linter.unusedVariables false
set_option linter.unusedSimpArgs false
set_option linter.unnecessarySimpa false
set_option linter.unusedSectionVars false
open Go Go.RowKit

/-- Lists of files that were told: their bytes, one behind the other; the row of the files lies beside them. -/
theorem FilesAt.loose {w0 w w1 w3 : World} {N1 : Nat} {S : WS} {v : Value} {l : List FV} (h : FilesAt w1 N1 v l) (hw : WOn w0 w S) (hN : w.heap.size ≤ N1) (hs : w1.heap.size ≤ w3.heap.size) (hs2 : w.heap.size ≤ w3.heap.size) : Loose w0 w3 w.heap.size S (fun q => v.ownBlock = some q) (l.map FV.dv) := by
  have hnd := h.nodup
  rw [List.nodup_append] at hnd
  have hmem : ∀ v' ∈ l.map FV.dv, ∀ q, v'.ownBlock = some q → q ∈ fvBlocks l := fun v' hv q hq => by
    obtain ⟨f, hf, rfl⟩ := List.mem_map.1 hv
    exact mem_fvBlocks.2 ⟨f, hf, hq⟩
  refine ⟨fun L q hq => hw.mem.lt hq, hw.upd.size, hs2, fun v' hv q hq => ?_, fun i j hi hj hij q h1 h2 => ?_, fun q hq => ⟨?_, ?_, fun v' hv e => ?_⟩⟩
  · have h1 := h.low q (hmem v' hv q hq)
    obtain ⟨f, hf, rfl⟩ := List.mem_map.1 hv
    have h2 := (h.data f hf).lt q hq
    omega
  · have hj' : j < l.length := by simpa using hj
    have hi' : i < l.length := by simpa using hi
    rw [List.getElem_map] at h1 h2
    have h3 := fvBlocks_at hnd.2.1 hj' h2
    refine h3 (mem_fvBlocks.2 ⟨l[i], ?_, h1⟩)
    rw [List.mem_take_iff_getElem]
    exact ⟨i, by omega, rfl⟩
  · have := (h.row.lt q hq).1; omega
  · have := (h.row.lt q hq).2; omega
  · exact hnd.2.2 q (by rw [hq]; simp) q (hmem v' hv q e) rfl

set_option maxRecDepth 100000 in
set_option maxHeartbeats 1600000 in
theorem tells_counts {w0 w : World} {S : WS} {o : OpI} {i : Nat} (hw : WOn w0 w S) (hi : i < S.ds.length) (hi' : i < S.rs.length) (ho : OpShapes o) (hk : o.kind = 16) :
    Calls Tryz.prog 46 #[.pointer (some ⟨S.p, 0, none⟩), .agg o.cells, ptrD S.ds[i], ptrR S.rs[i]] w fun e w' => e = .returned (.bool true) ∧ Went w0 w S 0 w' := by
  obtain ⟨ba, bc, ca, cl, cc, fa, fl, fc, hb1, hc1, hf1⟩ := ho.get
  have hcells : o.cells = #[.int .i64 16, .int .i64 o.obj, .string o.name, .string o.dest, .slice ba o.bs.length bc, .int .i64 o.pos, .int .i64 o.n, .slice ca cl cc, .slice fa fl fc] := by unfold OpI.cells; rw [hk, hb1, hc1, hf1]
  rw [hcells]
  obtain ⟨hal, hso⟩ := hw.pair i hi hi'
  have hcn : S.ds[i].cnt = S.rs[i].cnt := hal.cnt
  have HD := hid (show ∀ W, Upd (fun _ => False) w W → Calls Tryz.prog 84 #[.pointer (some ⟨S.ds[i].p, 0, none⟩)] W fun e W' => e = .returned (cntV S.rs[i].cnt) ∧ Upd (fun _ => False) W W' from fun W hW => by rw [← hcn]; exact counts_any ((hw.mem.keep hW).dsIn i hi))
  have HC := hid (show ∀ W, Upd (fun _ => False) w W → W.cell? ⟨S.rs[i].p, 4, none⟩ = some (.int .i64 S.rs[i].cnt.acts) ∧ W.cell? ⟨S.rs[i].p, 5, none⟩ = some (.int .i64 S.rs[i].cnt.appends) ∧ W.cell? ⟨S.rs[i].p, 6, none⟩ = some (.int .i64 S.rs[i].cnt.syncs) ∧ W.cell? ⟨S.rs[i].p, 7, none⟩ = some (.int .i64 S.rs[i].cnt.renames) ∧ W.cell? ⟨S.rs[i].p, 8, none⟩ = some (.int .i64 S.rs[i].cnt.deletes) ∧ W.cell? ⟨S.rs[i].p, 9, none⟩ = some (.int .i64 S.rs[i].cnt.reads) ∧ S.rs[i].p < W.heap.size from fun W hW => by
    have h := (hw.mem.keep hW).rsIn i hi'
    exact ⟨h.cell 4, h.cell 5, h.cell 6, h.cell 7, h.cell 8, h.cell 9, h.plt⟩)
  have HW := hid hw
  unfold ptrD ptrR
  obtain ⟨dp, hdp⟩ : ∃ dp, dp = S.ds[i].p := ⟨_, rfl⟩
  obtain ⟨rp, hrp⟩ : ∃ rp, rp = S.rs[i].p := ⟨_, rfl⟩
  rw [← hdp] at HD
  rw [← hrp] at HC
  rw [← hdp, ← hrp]
  unfold cntV at HD
  generalize S.rs[i].cnt.acts = x0 at HD HC
  generalize S.rs[i].cnt.appends = x1 at HD HC
  generalize S.rs[i].cnt.syncs = x2 at HD HC
  generalize S.rs[i].cnt.renames = x3 at HD HC
  generalize S.rs[i].cnt.deletes = x4 at HD HC
  generalize S.rs[i].cnt.reads = x5 at HD HC
  clear hw ho hb1 hc1 hf1 hcells hdp hrp hk hal hso hcn
  go_enter Tryz.func46, Tryz.ntmps46
  go_wp2_with fail
  obtain ⟨wb, hwb⟩ : ∃ wb, wb = w.alloc (.cells #[.int .i64 16, .int .i64 o.obj, .string o.name, .string o.dest, .slice ba o.bs.length bc, .int .i64 o.pos, .int .i64 o.n, .slice ca cl cc, .slice fa fl fc] 42) := ⟨_, rfl⟩
  rw [← hwb]
  have hub : Upd (fun _ => False) w wb := by rw [hwb]; exact (Upd.refl _ _).alloc _
  have HUB := hid hub; have HUBd := hid hub.drew
  obtain ⟨c4, c5, c6, c7, c8, c9, hrl⟩ := HC.out wb hub
  clear hwb hub
  go_region_held3 (fun W => W.cell? ⟨rp, 4, none⟩ = some (.int .i64 x0) ∧ W.cell? ⟨rp, 5, none⟩ = some (.int .i64 x1) ∧ W.cell? ⟨rp, 6, none⟩ = some (.int .i64 x2) ∧ W.cell? ⟨rp, 7, none⟩ = some (.int .i64 x3) ∧ W.cell? ⟨rp, 8, none⟩ = some (.int .i64 x4) ∧ W.cell? ⟨rp, 9, none⟩ = some (.int .i64 x5))
    (first
      | go_keep
      | (obtain ⟨k4, k5, k6, k7, k8, k9, -⟩ := HC.out _ hux; exact ⟨k4, k5, k6, k7, k8, k9⟩))
    (first
      | (go_at_call 84; refine (HD.out _ HUBd.out).mono ?_; rintro e wx ⟨rfl, h0x⟩; have hux : Upd (fun _ => False) w wx := HUBd.out.trans h0x (fun _ _ h => h))
      | fail)
  all_goals
    have HUF := hid hux
    go_wp2
    go_ret
    exact ⟨by first | rfl | simp, _, HW.out.keep HUF.out, rfl, by simp, by omega, Turn.keep _ _ HUF.out⟩

end Go.Proofs.YtohpgmeflmppaaaGreat

namespace Go.Proofs.YtohpgmeflmppaaaGreat
set_option linter.unusedVariables false
set_option linter.unusedSimpArgs false
set_option linter.unnecessarySimpa false
set_option linter.unusedSectionVars false
open Go Go.RowKit

/-- A cell of a row is written. -/
theorem owns_setN {w : World} {base sz : Nat} {e : TypeId} {n m : Nat} {v u : Value} {xs : List Value} (h : w.ownsRow base e sz v n xs) (hm : m < n * sz) : ∃ g cap old, v = .slice (some ⟨g, 0, none⟩) n cap ∧ (w.setCell ⟨g, m, none⟩ u).ownsRow base e sz v n (xs.set m u) ∧
    w.cell? ⟨g, m, none⟩ = some old ∧ w.frozen? ⟨g, m, none⟩ = false ∧ g < w.heap.size ∧ base ≤ g ∧ n ≤ cap ∧ cap ≤ maxLen := by
  obtain ⟨hl, hr⟩ := h
  rcases hr with ⟨rfl, hz⟩ | ⟨g, cap, cur, rfl, hb, hg, h1, h2, h3, h4⟩
  · subst hz; simp at hm
  · have hlt : m < cur.size := by rw [h3]; exact Nat.lt_of_lt_of_le hm (Nat.mul_le_mul_right _ h1)
    refine ⟨g, cap, cur[m], rfl, ⟨by simpa using hl, .inr ⟨g, cap, cur.setIfInBounds m u, rfl, hb, heap_setCell_at _ _ _ _ _ _ hg, h1, h2, by simpa using h3, ?_⟩⟩, ?_, frozen_of_row _ _ _ _ _ hg, lt_of_heap hg, hb, h1, h2⟩
    · rw [Array.toList_setIfInBounds, List.take_set, h4]
    · rw [cell_of_row _ _ _ _ _ _ hg, Array.getElem?_eq_getElem hlt]

set_option maxRecDepth 100000 in
set_option maxHeartbeats 3200000 in
theorem tells_files {w0 w : World} {S : WS} {o : OpI} {i : Nat} (hw : WOn w0 w S) (hi : i < S.ds.length) (hi' : i < S.rs.length) (ho : OpShapes o) (hk : o.kind = 15) (hn : S.b.n + 68719476736 ≤ 4611686018427387904) :
    Calls Tryz.prog 46 #[.pointer (some ⟨S.p, 0, none⟩), .agg o.cells, ptrD S.ds[i], ptrR S.rs[i]] w fun e w' => e = .returned (.bool true) ∧ Went w0 w S 68719476736 w' := by
  obtain ⟨ba, bc, ca, cl, cc, fa, fl, fc, hb1, hc1, hf1⟩ := ho.get
  have hcells : o.cells = #[.int .i64 15, .int .i64 o.obj, .string o.name, .string o.dest, .slice ba o.bs.length bc, .int .i64 o.pos, .int .i64 o.n, .slice ca cl cc, .slice fa fl fc] := by unfold OpI.cells; rw [hk, hb1, hc1, hf1]
  rw [hcells]
  obtain ⟨hal, hso⟩ := hw.pair i hi hi'
  have hsf : S.rs[i].F.map FV.abs = fileList S.ds[i] := sorted_fileList (hw.mem.dsIn i hi) hal hso
  have HD := hid (show ∀ W, S.ds[i].In W → Calls Tryz.prog 16 #[.pointer (some ⟨S.ds[i].p, 0, none⟩)] W fun e W' => ∃ v l, e = .returned v ∧ FilesAt W' W.heap.size v l ∧ l.map FV.abs = fileList S.ds[i] ∧ Upd (fun _ => False) W W' from fun W hW => files_any hW)
  have HR := hid (show ∀ W, S.rs[i].In W → Calls Tryz.prog 18 #[.pointer (some ⟨S.rs[i].p, 0, none⟩)] W fun e W' => ∃ v l, e = .returned v ∧ FilesAt W' W.heap.size v l ∧ l.map FV.abs = fileList S.ds[i] ∧ Upd (fun _ => False) W W' from fun W hW => by rw [← hsf]; exact refFiles_any hW)
  have HSF := hid (show ∀ V v1 v2 l1 l2 b1 b2, FilesAt V b1 v1 l1 → FilesAt V b2 v2 l2 → l1.map FV.abs = l2.map FV.abs → Calls Tryz.prog 17 #[v1, v2] V fun e V' => e = .returned (.bool true) ∧ Upd (fun _ => False) V V' from fun V v1 v2 l1 l2 b1 b2 h1 h2 h3 => by
    refine (sameFiles_any h1 h2).mono ?_
    rintro e V' ⟨b, rfl, hb, hu⟩
    exact ⟨by rw [hb.2 h3], hu⟩)
  -- every list of bytes is short, and there are few
  have HSHORT := hid (show ∀ l : List FV, l.map FV.abs = fileList S.ds[i] → l.length ≤ 256 ∧ ∀ f ∈ l, f.data.length ≤ 67108864 from fun l hl => by
    have hlen := congrArg List.length hl
    have hle := fileList_le (hw.mem.dsIn i hi)
    refine ⟨by simp at hlen; omega, fun f hf => ?_⟩
    have hm : f.abs ∈ S.ds[i].abs.files := (fileList_files_perm (hw.mem.dsIn i hi)).mem_iff.1 (by rw [← hl]; exact List.mem_map_of_mem hf)
    obtain ⟨r, hr, he⟩ := List.mem_map.1 hm
    have h1 := (hw.mem.dsIn i hi).data_le hr
    have h2 : f.data = r.data := by have := congrArg FileA.data he; exact this.symm
    rw [h2]; exact h1)
  have HW := hid hw
  have HIN := hid (show ∀ W b, WOn w0 W { S with b := b } → S.ds[i].In W ∧ S.rs[i].In W from fun W b hW => ⟨hW.mem.dsIn i hi, hW.mem.rsIn i hi'⟩)
  obtain ⟨F, hF⟩ : ∃ F, F = fileList S.ds[i] := ⟨_, rfl⟩
  rw [← hF] at HD HR HSHORT
  unfold ptrD ptrR
  obtain ⟨dp, hdp⟩ : ∃ dp, dp = S.ds[i].p := ⟨_, rfl⟩
  obtain ⟨rp, hrp⟩ : ∃ rp, rp = S.rs[i].p := ⟨_, rfl⟩
  rw [← hdp] at HD
  rw [← hrp] at HR
  rw [← hdp, ← hrp]
  clear hw ho hb1 hc1 hf1 hcells hdp hrp hk hal hso hsf hF
  go_enter Tryz.func46, Tryz.ntmps46
  go_wp2_with fail
  obtain ⟨wb, hwb⟩ : ∃ wb, wb = w.alloc (.cells #[.int .i64 15, .int .i64 o.obj, .string o.name, .string o.dest, .slice ba o.bs.length bc, .int .i64 o.pos, .int .i64 o.n, .slice ca cl cc, .slice fa fl fc] 42) := ⟨_, rfl⟩
  rw [← hwb]
  have hub : Upd (fun _ => False) w wb := by rw [hwb]; exact (Upd.refl _ _).alloc _
  have HUB := hid hub; have HWB := hid (HW.out.keep hub)
  clear hwb hub
  refine (HD.out _ (HIN.out wb S.b HWB.out).1).mono ?_
  rintro e w2 ⟨v1, l1, rfl, hf1, hl1, hu1⟩
  have HF1 := hid hf1; have HL1 := hid hl1; have HU1 := hid hu1; have HW2 := hid (HWB.out.keep hu1)
  obtain ⟨a1, k1, hv1, hk11, hk12, -⟩ := hf1.shape
  rw [hv1] at HF1 ⊢
  clear hf1 hl1 hu1 hv1
  go_wp2_with fail
  refine (HR.out _ (HIN.out w2 S.b HW2.out).2).mono ?_
  rintro e w3 ⟨v2, l2, rfl, hf2, hl2, hu2⟩
  have HF3 := hid (HF1.out.upd hu2 (fun _ _ h => h)); have HW3 := hid (HW2.out.keep hu2); have HU2 := hid hu2
  have hs3 := HSF.out w3 _ v2 l1 l2 _ _ HF3.out hf2 (HL1.out.trans hl2.symm)
  have HS3 := hid hs3
  clear hf2 hl2 hu2 hs3
  go_wp2_with fail
  refine HS3.out.mono ?_
  rintro e w4 ⟨rfl, hu4⟩
  have HF4 := hid (HF3.out.upd hu4 (fun _ _ h => h)); have HW4 := hid (HW3.out.keep hu4)
  have HU4 := hid (((HUB.out.trans HU1.out (fun _ _ h => h)).trans HU2.out (fun _ _ h => h)).trans hu4 (fun _ _ h => h))
  obtain ⟨hn256, hshort⟩ := HSHORT.out l1 HL1.out
  have HSH := hid hshort
  have hloose := HF4.out.loose HW.out HUB.out.size (Nat.le_refl _) HU4.out.size
  have HLOOSE := hid hloose
  obtain ⟨n, hnn⟩ : ∃ n, n = l1.length := ⟨_, rfl⟩
  rw [← hnn] at hn256 hk11 HF4 HLOOSE ⊢
  have HN := hid hnn
  have hk12' : k1 ≤ 9223372036854775807 := by simpa [maxLen] using hk12
  clear hu4 hshort hloose hnn hk12
  go_wp2
  go_loopw [24] (fun iv wr => ∃ k : Nat, k ≤ n ∧ iv = .int .i64 k ∧ ∃ b xs, Strip w0 w4 wr w.heap.size S (fun q => (Value.slice a1 n k1).ownBlock = some q) (l1.map FV.dv) k b ∧ wr.ownsRow wb.heap.size 80 3 (.slice a1 n k1) n xs ∧ ∀ j (hj : j < l1.length), k ≤ j → xs[j * 3 + 1]? = some l1[j].dv) (fun iv _ => n - (intOf iv).toNat)
  case atStart => exact ⟨0, Nat.zero_le _, rfl, S.b, l1.flatMap FV.cells, Strip.start _ _ HW4.out, by have h := HF4.out.row; rw [← HN.out] at h; exact h, fun j hj _ => (flat_cells l1 j hj).2.1⟩
  case round =>
    obtain ⟨k, hk, rfl, b, xs, hst, hrow, hxs⟩ := hrel
    have HST := hid hst; have HROW := hid hrow; have HXS := hid hxs
    by_cases hlt : k < n
    · have hlt1 : k < l1.length := by have := HN.out; omega
      obtain ⟨ga, kc, hv, -, -, hxl, hrc⟩ := row_shape3 hrow
      obtain ⟨g, hge, hgl, hgc⟩ := hrc (k * 3 + 1) (by omega)
      injection hv with hv1 hv2 hv3
      obtain rfl : a1 = some ⟨g, 0, none⟩ := hv1.trans hge
      clear hv1 hv2 hv3 hge
      have hc1 : wr.cell? ⟨g, k * 3 + 1, none⟩ = some l1[k].dv := by
        have h := hxs k hlt1 (Nat.le_refl _)
        rw [hgc]
        rw [List.getElem?_eq_getElem (by omega)] at h
        exact h
      obtain ⟨hg1, hg2, hg3⟩ := HLOOSE.out.out g rfl
      have hdk : DataIs w4 ((l1.map FV.dv)[k]'(by simpa using hlt1)) l1[k].data := by rw [List.getElem_map]; exact HF4.out.data _ (List.getElem_mem hlt1)
      have hnx := hst.next HLOOSE.out (by simpa using hlt1) hdk
      rw [List.getElem_map] at hnx hdk
      obtain ⟨hdr, hno, hnp, hnb⟩ := hnx
      have hPr : S.p < wr.heap.size := lt_of_heap HST.out.on.mem.top
      have hbmost : b.n ≤ 4611686018427387904 := by have h1 := hst.most; omega
      have HDK := hid (show DataIs w4 ((l1.map FV.dv)[k]'(by simpa using hlt1)) l1[k].data by rw [List.getElem_map]; exact HF4.out.data _ (List.getElem_mem hlt1))
      obtain ⟨dv, hdv⟩ : ∃ dv, dv = l1[k].dv := ⟨_, rfl⟩
      have HDV := hid hdv
      rw [← hdv] at hc1 hdr hno hnp hnb hdk
      have hu : Upd (fun _ => False) wr wr.drew := (Upd.refl _ wr).drew
      have hst' := hst.more hu
      have hdl := HSH.out l1[k] (List.getElem_mem hlt1)
      have htake := take_any (v := dv) hst'.on.mem.book hst'.on.mem.top (hdr.upd hu (fun _ _ h => h)) hdl hbmost (fun h => hst'.on.mem.bp h) hnp hnb
      have HTAKE := hid htake; have HST' := hid hst'
      clear hst hrow hxs hdk hdr hno hnp hnb hst' hdl htake hu hdv hxl hrc hgc
      go_wp2_with fail
      go_still_tail 8, (by kernel_rfl)
      change wpList _ _ _ _ _ wr.drew
      go_wp2_with fail
      refine HTAKE.out.mono ?_
      rintro e w7 ⟨rfl, b', htk⟩
      have hno7 := HST'.out.noOwner HLOOSE.out hg1 hg2 (fun v hv => hg3 v (List.mem_of_mem_take hv))
      have hrow7 : w7.ownsRow wb.heap.size 80 3 (.slice (some ⟨g, 0, none⟩) n k1) n xs := owns_upd (owns_upd HROW.out ((Upd.refl (fun _ => False) wr).drew) (fun _ _ h => h)) htk.upd (fun q hq => by
        cases hq
        rintro (e | e | e)
        · exact hno7 0 (.inl ⟨rfl, .inl e⟩)
        · exact hno7 0 (.inl ⟨rfl, .inr (.inr (.inr e))⟩)
        · exact hg3 dv (by rw [HDV.out]; exact List.mem_map_of_mem (List.getElem_mem hlt1)) e)
      have hst7 := HST'.out.step HLOOSE.out (by simpa using hlt1) HDK.out (by rw [List.getElem_map, ← HDV.out]; exact htk)
      obtain ⟨g', cap', o0, hv, h0, d0, f0, hgl7, -⟩ := owns_setN (m := k * 3) (u := .string ⟨#[109, 97, 114, 107]⟩) hrow7 (by omega)
      injection hv with hv1 hv2 hv3
      injection hv1 with hv1
      injection hv1 with hv1
      subst hv1
      clear hv2 hv3
      obtain ⟨g', cap', o1, hv, h1, d1, f1, -⟩ := owns_setN (m := k * 3 + 1) (u := .slice none 0 0) h0 (by omega)
      injection hv with hv1 hv2 hv3
      injection hv1 with hv1
      injection hv1 with hv1
      subst hv1
      clear hv2 hv3
      obtain ⟨g', cap', o2, hv, h2, d2, f2, -⟩ := owns_setN (m := k * 3 + 2) (u := .int .i64 0) h1 (by omega)
      injection hv with hv1 hv2 hv3
      injection hv1 with hv1
      injection hv1 with hv1
      subst hv1
      clear hv2 hv3
      have hst8 := hst7.beside HLOOSE.out ((((Upd.refl (fun q => (Value.slice (some ⟨g, 0, none⟩) n k1).ownBlock = some q) w7).setCell (p := ⟨g, k * 3, none⟩) (fun _ => rfl) (.string ⟨#[109, 97, 114, 107]⟩)).setCell (p := ⟨g, k * 3 + 1, none⟩) (fun _ => rfl) (.slice none 0 0)).setCell (p := ⟨g, k * 3 + 2, none⟩) (fun _ => rfl) (.int .i64 0))
      have hxs8 : ∀ j (hj : j < l1.length), k + 1 ≤ j → (((xs.set (k * 3) (.string ⟨#[109, 97, 114, 107]⟩)).set (k * 3 + 1) (.slice none 0 0)).set (k * 3 + 2) (.int .i64 0))[j * 3 + 1]? = some l1[j].dv := fun j hj hkj => by
        rw [List.getElem?_set_ne (by omega), List.getElem?_set_ne (by omega), List.getElem?_set_ne (by omega)]
        exact HXS.out j hj (by omega)
      have HR8 := hid h2; have HST8 := hid hst8; have HXS8 := hid hxs8
      clear htk hno7 hrow7 hst7 h0 h1 h2 hst8 hxs8
      go_wp2
      go_roundw
      case rel => exact ⟨k + 1, by omega, by go_num, b', _, HST8.out, HR8.out, HXS8.out⟩
      case measure => simp [intOf]; omega
    · obtain rfl : k = n := by omega
      obtain ⟨hin1, hin2⟩ := HIN.out wr b hst.on
      have HIN2 := hid hin2
      have hfil := HD.out wr hin1
      have HFIL := hid hfil
      clear hst hrow hxs hin1 hin2 hfil
      go_wp2_with fail
      refine HFIL.out.mono ?_
      rintro e w7 ⟨v7, l7, rfl, hf7, hl7, hu7⟩
      have hfil := HR.out w7 (HIN2.out.upd hu7 (fun _ _ h => h))
      have HFIL2 := hid hfil; have HF7 := hid hf7; have HL7 := hid hl7; have HU7 := hid hu7
      clear hfil hf7 hl7 hu7
      go_wp2_with fail
      refine HFIL2.out.mono ?_
      rintro e w8 ⟨v8, l8, rfl, hf8, hl8, hu8⟩
      have hs := HSF.out w8 v7 v8 l7 l8 _ _ (HF7.out.upd hu8 (fun _ _ h => h)) hf8 (HL7.out.trans hl8.symm)
      have HS := hid hs; have HU8 := hid hu8
      clear hf8 hl8 hu8 hs
      go_wp2_with fail
      refine HS.out.mono ?_
      rintro e w9 ⟨rfl, hu9⟩
      have hu79 : Upd (fun _ => False) wr w9 := (HU7.out.trans HU8.out (fun _ _ h => h)).trans hu9 (fun _ _ h => h)
      have HS9 := hid (HST.out.more hu79)
      clear hu9 hu79
      go_wp2
      go_ret
      exact ⟨rfl, _, HS9.out.on, rfl, Nat.le_refl _, by show b.n ≤ _; have h := HST.out.most; omega, (Turn.keep w.heap.size S HU4.out).trans HS9.out.turn⟩

end Go.Proofs.YtohpgmeflmppaaaGreat
