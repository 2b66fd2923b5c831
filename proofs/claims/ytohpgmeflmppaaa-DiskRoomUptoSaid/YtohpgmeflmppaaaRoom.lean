/-
  The walk of DiskRoom.
-/
import Derived.Test.YtohpgmeflmppaaaLawK
import Derived.Test.YtohpgmeflmppaaaTwins
import Derived.Deep.DeepCutAuto
import Derived.Deep.RegionHeld3
namespace Go.Proofs.Ytohpgmeflmppaaa
set_option linter.unusedVariables false
set_option linter.unusedSimpArgs false
set_option linter.unnecessarySimpa false
set_option linter.unusedSectionVars false
open Go Go.RowKit

/-- A disk and its book beside one another, both made since w0. -/
structure Beside (w0 w : World) (p m : Nat) (s : DS) (E : Ents) (D : List FileA) : Prop where
  on : On w0 w p s
  book : Book w m E D
  apm : m ∉ s.blocks
  ape : ∀ q ∈ E, ∀ k, q.2.ownBlock = some k → k ∉ s.blocks
  low : w0.heap.size ≤ m

theorem Beside.step {w0 w w' : World} {p m : Nat} {s s2 : DS} {E : Ents} {D : List FileA} (h : Beside w0 w p m s E D) (hst : Step w w' s s2) : Beside w0 w' p m s2 E D :=
  ⟨h.on.step hst, h.book.keep hst.upd h.apm h.ape, fun hm => (hst.foot m hm).elim h.apm (fun h1 => by have := h.book.map.lt; omega),
    fun q hq k hk hm => (hst.foot k hm).elim (h.ape q hq k hk) (fun h1 => by have := (h.book.apart q hq k hk).2; omega), h.low⟩

theorem Beside.more {w0 w w' : World} {p m : Nat} {s : DS} {E : Ents} {D : List FileA} (h : Beside w0 w p m s E D) (hu : Upd (fun _ => False) w w') : Beside w0 w' p m s E D := h.step (Step.of_upd h.on.ins hu)

theorem Beside.turn {w0 w w' : World} {p m : Nat} {s : DS} {E E' : Ents} {D D' : List FileA} (h : Beside w0 w p m s E D) (hu : Upd (fun k => k = m) w w') (hb : Book w' m E' D')
    (hE : ∀ q ∈ E', q ∈ E ∨ ∀ k, q.2.ownBlock = some k → k ∉ s.blocks) : Beside w0 w' p m s E' D' :=
  ⟨h.on.other hu (fun k hk => by subst hk; exact ⟨h.apm, h.low⟩), hb, h.apm, fun q hq k hk => (hE q hq).elim (fun h1 => h.ape q h1 k hk) (fun h1 => h1 k hk), h.low⟩

theorem mem_put_or {E : Ents} {n : ByteArray} {v : Value} {S : DS} (hv : ∀ k, v.ownBlock = some k → k ∉ S.blocks) : ∀ q ∈ put E n v, q ∈ E ∨ ∀ k, q.2.ownBlock = some k → k ∉ S.blocks :=
  fun q hq => (mem_put E n v q hq).imp id (fun e k hk => hv k (by rw [← e]; exact hk))

/-- Bytes of one's own, made since w0. -/
def Em (w0 W : World) (v : Value) (bs : List UInt8) : Prop := DataIs W v bs ∧ ∀ k, v.ownBlock = some k → w0.heap.size ≤ k

theorem Em.new {w0 W : World} (hU : Upd (fun _ => False) w0 W) : Em w0 (W.alloc (.cells #[] 5)) (.slice (some ⟨W.heap.size, 0, none⟩) 0 0) [] :=
  ⟨.inr ⟨W.heap.size, 0, #[], rfl, heap_alloc_new W _, by simp, by simp, by simp, by simp⟩, fun k hk => by simp only [Value.ownBlock, Option.some.injEq] at hk; subst hk; exact hU.size⟩

theorem Em.keep {w0 W W' : World} {v : Value} {bs : List UInt8} (h : Em w0 W v bs) (hu : Upd (fun _ => False) W W') : Em w0 W' v bs := ⟨h.1.upd hu (fun _ _ h => h), h.2⟩

theorem step_append_em {ops : Array Oper} {o : Oper} {a : Act} {K : Act → World → Prop} {Q : Exit → Act → World → Prop} {E : Prop} {w0 W : World}
    (hg : o.guard = none) (s x : Operand) (hop : o.op = Op.call { callee := Callee.builtin Builtin.append, args := #[s, x], argTypes := #[30, 30] })
    {v src : Value} {bs news : List UInt8} (hs : a.eval s = v) (hx : a.eval x = src) (hE : Em w0 W v bs) (hb : BytesAt W src news) (hU : Upd (fun _ => False) w0 W) (hlen : bs.length + news.length ≤ 1073741824)
    (hK : ∀ v' w', Em w0 w' v' (bs ++ news) → Upd (fun _ => False) w0 w' → K (a.put o.dst v') w') :
    if Region.wanted o (yielded ops a.tmps) = true then Oper.wp Try.prog o a W K Q else E := by
  obtain ⟨v', w', hr, h1, h2, h3⟩ := run_append_data hE.1 hb hlen o.type
  refine step_append_eq hg s x _ hop hs hx hr (hK v' w' ⟨h1, fun k hk => (h3 k hk).elim (hE.2 k) (fun h => Nat.le_trans hU.size h)⟩ (hU.trans h2 (fun k hk e => by have := hE.2 k e; omega)))

set_option maxRecDepth 100000 in
set_option maxHeartbeats 4000000 in
theorem room_walk {n : Int} {dv cv : Value} {dids : List DidA} {cuts : List Int} {w : World} (hd : DidsAt w dv dids) (hc : IntsAt w cv cuts) (hcb : ∀ a l c, cv = .slice (some a) l c → 0 < l → a.block < w.heap.size) :
    Calls Try.prog 6 #[.int .i64 n, dv, cv] w fun e w' => e = .returned (.bool true) ∧ Below w.heap.size w w' := by
  have HD := hid hd; have HC := hid hc; have HCB := hid hcb
  obtain ⟨ao, cap, rfl, hl1, hl2, -⟩ := hd.shape
  have CD := hid hd.cells
  obtain ⟨co, ccap, rfl, hcl, -⟩ := hc
  obtain ⟨C, hC1, hC2, hroom⟩ := room_any n w
  have HROOM := hid hroom
  have hmm := @run_makeMap Try.prog
  clear hd hcb hroom
  go_enter Try.func6, Try.ntmps6
  go_wp2_with fail
  refine HROOM.out.mono ?_
  rintro e w' ⟨rfl, hww⟩
  obtain rfl := hww.symm
  go_wp2_with fail
  refine (made_any w C hC1 (by omega)).mono ?_
  rintro e w1 ⟨s0, rfl, hfr⟩
  obtain ⟨hdi, hdc, hdrecs, hddn, hdarm, hdlow, hdupd⟩ := hfr
  have ON0 := hid (show On w w1 s0.p s0 from ⟨hdi, rfl, hdlow, hdupd⟩)
  have F1 := hid hddn; have F2 := hid hdarm; have F3 := hid hdc; have F4 := hid hdrecs
  have hca := capacity_any hdi
  rw [hdc] at hca
  have HCA := hid hca
  obtain ⟨p, hp⟩ : ∃ p, p = s0.p := ⟨_, rfl⟩
  rw [← hp] at ON0 HCA
  rw [← hp]
  clear hdi hdc hdrecs hddn hdarm hdlow hdupd hp hca
  go_wp2_with (go_at_call 24; refine HCA.out.mono ?_; rintro e w' ⟨rfl, hww⟩; obtain rfl := hww.symm)
  have hm0 := MapIs.made w1
  obtain ⟨m, hm⟩ : ∃ m, m = w1.heap.size := ⟨_, rfl⟩
  have BS0 := hid (show Beside w (w1.alloc (.map #[] 0)) p m s0 [] s0.abs.files from ⟨ON0.out.more ((Upd.refl _ _).alloc _), ⟨by rw [hm]; exact hm0, by simp, by simp [DS.abs, F4.out], fun n _ => rfl, fun n f hf => (by simp [DS.abs, F4.out, findA] at hf), by simp⟩,
    fun h => by have := ON0.out.ins.lt m h; omega, by simp, by rw [hm]; exact ON0.out.upd.size⟩)
  rw [← hm]
  obtain ⟨w2, hw2⟩ : ∃ w2, w2 = w1.alloc (.map #[] 0) := ⟨_, rfl⟩
  rw [← hw2] at BS0
  rw [← hw2]
  clear hm0 hm hw2 hmm
  go_wp2
  go_loopw [10] (fun i wr => ∃ k : Nat, k ≤ dids.length ∧ i = .int .i64 k ∧ ∃ s E, Beside w wr p m s E s.abs.files ∧ s.down = false ∧ s.armed = 0 ∧ s.cap = C) (fun i _ => dids.length - (intOf i).toNat)
  case atStart => exact ⟨0, Nat.zero_le _, rfl, s0, _, BS0.out, F1.out, F2.out, F3.out⟩
  case round =>
    obtain ⟨k, hk, rfl, s, E, hbs, hdn, har, hcp⟩ := hrel
    have BS := hid hbs; have DN := hid hdn; have AR := hid har; have CP := hid hcp
    clear hbs hdn har hcp
    by_cases hlt : k < dids.length
    · obtain ⟨b, o, ko, kc, rfl, -, hbv, hcw⟩ := CD.out k hlt
      obtain ⟨hbr, r0, r1, r2, r3⟩ := hcw wr BS.out.on.upd
      obtain ⟨x, hx⟩ : ∃ x, x = dids[k] := ⟨_, rfl⟩
      have HXM := hid (show x ∈ dids from hx ▸ List.getElem_mem hlt)
      rw [← hx] at r0 r1 r2 r3 hbv
      have BS1 := hid (BS.out.more ((Upd.refl (fun _ => False) wr).alloc (.cells #[.int .i64 x.kind, .int .i64 x.file, .int .i64 x.to, .slice ko x.b.length kc] 32)))
      have HACT := hid (act_at HD.out BS1.out.on HXM.out hbv)
      have HBV := hid hbv
      clear hcw hx hbv
      go_wp2_with fail
      refine HACT.out.mono ?_
      rintro e w3 ⟨rfl, s2, hst, habs⟩
      have hnb : wr.heap.size ∉ s.blocks := fun h => by have := BS.out.on.ins.lt _ h; omega
      have x0 : w3.cell? ⟨wr.heap.size, 0, none⟩ = some (.int .i64 x.kind) := by rw [hst.other hnb (by simp)]; simp [go_sem]
      have x1 : w3.cell? ⟨wr.heap.size, 1, none⟩ = some (.int .i64 x.file) := by rw [hst.other hnb (by simp)]; simp [go_sem]
      have x2 : w3.cell? ⟨wr.heap.size, 2, none⟩ = some (.int .i64 x.to) := by rw [hst.other hnb (by simp)]; simp [go_sem]
      have x3 : w3.cell? ⟨wr.heap.size, 3, none⟩ = some (.slice ko x.b.length kc) := by rw [hst.other hnb (by simp)]; simp [go_sem]
      have hxb : wr.heap.size < w3.heap.size := Nat.lt_of_lt_of_le (by simp) hst.upd.size
      have hxm : wr.heap.size ≠ m := fun e => by have := BS.out.book.map.lt; omega
      obtain ⟨xb, hxbe⟩ : ∃ xb, xb = wr.heap.size := ⟨_, rfl⟩
      rw [← hxbe] at x0 x1 x2 x3 hxb hxm
      rw [← hxbe]
      have BS2 := hid (BS1.out.step hst)
      obtain ⟨c1, c2, c3⟩ := didA_calm DN.out AR.out habs
      have CALM := hid (show s2.down = false ∧ s2.armed = 0 ∧ s2.cap = C from ⟨c1, c2, c3.trans CP.out⟩)
      have HRS := hid (room_step DN.out AR.out habs)
      have HXB := hid (show ∀ W, Upd (fun k => k = m) w3 W → xb < W.heap.size ∧ W.cell? ⟨xb, 0, none⟩ = some (.int .i64 x.kind) ∧ W.cell? ⟨xb, 1, none⟩ = some (.int .i64 x.file) ∧ W.cell? ⟨xb, 2, none⟩ = some (.int .i64 x.to) ∧ W.cell? ⟨xb, 3, none⟩ = some (.slice ko x.b.length kc) from fun W hW =>
        ⟨Nat.lt_of_lt_of_le hxb hW.size, (World.cell?_of_block (hW.block xb hxb hxm)).trans x0, (World.cell?_of_block (hW.block xb hxb hxm)).trans x1, (World.cell?_of_block (hW.block xb hxb hxm)).trans x2, (World.cell?_of_block (hW.block xb hxb hxm)).trans x3⟩)
      have HND := hid (names_nodup BS.out.on.ins)
      obtain ⟨ec, hec⟩ : ∃ ec, ec = (didA s x).1 := ⟨_, rfl⟩
      rw [← hec] at HRS
      rw [← hec]
      clear hst habs hnb hxbe c1 c2 c3 r0 r1 r2 r3 hbr hec
      go_upto_if 52 with (go_at_call 13; refine (num_any _ _).mono ?_; rintro e w' ⟨rfl, hww⟩; obtain rfl := hww.symm)
      go_cut [13] (fun _ wx => ∃ E2, Beside w wx p m s2 E2 s2.abs.files)
      case first =>
        rcases HRS.out with ⟨e0, hF⟩ | ⟨e0, hk', hF⟩ | ⟨e0, k1, hno, hF⟩ | ⟨e0, k2, f, hf, hbl, hF⟩ | ⟨e0, k3, hF⟩ | ⟨e0, k4, f, hf, hF⟩ | ⟨e0, k5, f, hf, hF⟩
        · have hb0 : (ec == (0 : Int)) = false := by simpa using e0
          have HF := hid hF
          clear hF
          go_wp2
          go_meet
          case rel => exact ⟨E, by rw [HF.out]; exact BS2.out⟩
        · subst e0
          have q1 : (x.kind == (1 : Int)) = false := by simp; omega
          have q2 : (x.kind == (2 : Int)) = false := by simp; omega
          have q4 : (x.kind == (4 : Int)) = false := by simp; omega
          have q5 : (x.kind == (5 : Int)) = false := by simp; omega
          have HF := hid hF
          clear hF hk'
          go_wp2
          go_meet
          case rel => exact ⟨E, by rw [HF.out]; exact BS2.out⟩
        · subst e0
          have HF := hid hF; have HNO := hid hno
          clear hF hno
          go_wp2_with fail
          refine (name_any _ _).mono ?_
          rintro e w4 ⟨rfl, hu4⟩
          have BS3 := hid (BS2.out.more hu4)
          obtain ⟨w5, hrun, hmi, hup⟩ := run_mapUpdate_str (P := Try.prog) Try.underlying54 Try.underlying9 BS3.out.book.map (fileName x.file) (.slice none 0 0)
          have H1 := hid hmi; have H2 := hid hup
          clear hmi hup hu4
          go_wp2
          go_meet
          case rel => exact ⟨_, BS3.out.turn H2.out (by rw [HF.out]; exact BS3.out.book.created HNO.out H2.out H1.out) (mem_put_or (fun k hk => by cases hk))⟩
        · subst e0
          have HF := hid hF; have HFO := hid hf; have HBL := hid hbl
          obtain ⟨v, hv, hdv⟩ := BS2.out.book.some' _ _ hf
          have HV := hid hv; have HDV := hid hdv
          obtain ⟨vo, vc, hvs, -, -, -, -⟩ := hdv.shape
          have HVS := hid hvs
          have HLK := hid (show ∀ W, Upd (fun _ => False) w3 W → (Instr.lookup 54 (.map (some m)) (.string (fileName x.file)) false).run Try.prog W = .ok (.slice vo f.data.length vc) W from fun W hW => by
            have h := run_lookup_str (P := Try.prog) Try.underlying54 Try.underlying9 (z := .slice none 0 0) (fun w => by kernel_rfl) (BS2.out.more hW).book.map (fileName x.file)
            rw [HV.out, HVS.out] at h
            exact h)
          have HDB := hid (show ∀ W, Upd (fun _ => False) w3 W → BytesAt W (.slice vo f.data.length vc) f.data from fun W hW => by
            have h := (HDV.out.upd hW (fun _ _ h => h)).bytes
            rw [HVS.out] at h
            exact h)
          have HXB2 := hid (show ∀ W, Upd (fun _ => False) w3 W → BytesAt W (.slice ko x.b.length kc) x.b from fun W hW => by
            have h := (HD.out.bytes x HXM.out).upd (BS2.out.on.upd.trans hW (fun _ _ h => h)) (fun a l c e h0 => ⟨fun h => h, HD.out.low x HXM.out a l c e h0⟩)
            rw [HBV.out] at h
            exact h)
          have hfl : f.data.length ≤ 67108864 := by
            have h1 := findA_mem hf
            obtain ⟨r, hr, hra⟩ := List.mem_map.1 h1.1
            have h2 := BS.out.on.ins.data_le hr
            have h3 : f.data = r.data := (congrArg FileA.data hra).symm
            rw [h3]; exact h2
          have hlen1 : ([] : List UInt8).length + f.data.length ≤ 1073741824 := by simp; omega
          have hlen2 : (([] : List UInt8) ++ f.data).length + x.b.length ≤ 1073741824 := by simp; omega
          have HSL := hid (show (([] : List UInt8) ++ f.data ++ x.b).length = f.data.length + x.b.length by simp)
          have HRUN := hid (fun W (hW : Upd (fun _ => False) w3 W) vb => run_mapUpdate_str (P := Try.prog) Try.underlying54 Try.underlying9 (BS2.out.more hW).book.map (fileName x.file) vb)
          clear hF hf hv hdv hbl hvs hfl
          go_wp2_with fail
          have HXC := hid (show ∀ W, Upd (fun _ => False) w3 W → W.cell? ⟨xb, 1, none⟩ = some (.int .i64 x.file) ∧ W.cell? ⟨xb, 3, none⟩ = some (.slice ko x.b.length kc) from fun W hW => ⟨(HXB.out W (hW.mono (fun _ _ h => h.elim))).2.2.1, (HXB.out W (hW.mono (fun _ _ h => h.elim))).2.2.2.2⟩)
          go_region_held3 (fun W => W.cell? ⟨xb, 1, none⟩ = some (.int .i64 x.file) ∧ W.cell? ⟨xb, 3, none⟩ = some (.slice ko x.b.length kc))
            (first
              | go_keep
              | exact HXC.out _ hUb
              | exact HXC.out _ hUa
              | exact HXC.out _ hU4
              | exact HXC.out _ (hU4.alloc _)
              | exact HXC.out _ (((Upd.refl (fun _ => False) w3).drew).alloc _)
              | exact ⟨(HXB.out _ ((hUb.mono (T := fun k => k = m) (fun _ _ h => h.elim)).trans hup (fun _ _ h => h))).2.2.1, (HXB.out _ ((hUb.mono (T := fun k => k = m) (fun _ _ h => h.elim)).trans hup (fun _ _ h => h))).2.2.2.2⟩
              | (trace_state; fail))
            (first
              | (go_at_call 19; refine (name_any _ _).mono ?_; rintro e w4 ⟨rfl, hu4⟩; (try (have hd0 := Em.keep hd0 hu4)); (try (have hd0 := (Em.new (w0 := w3) hU4).keep hu4)); (try (have hd0 := (Em.new (w0 := w3) ((Upd.refl (fun _ => False) w3).drew)).keep hu4)); have hU4 : Upd (fun _ => False) w3 w4 := (by first | exact Upd.trans hU4 hu4 (fun _ _ h => h) | exact Upd.trans (hU4.alloc _) hu4 (fun _ _ h => h) | exact ((Upd.refl (fun _ => False) w3).drew).trans hu4 (fun _ _ h => h) | exact (((Upd.refl (fun _ => False) w3).drew).alloc _).trans hu4 (fun _ _ h => h)); have hlkA := HLK.out _ hU4; have hlkB := HLK.out _ (hU4.alloc (.cells #[] 5)))
              | (refine step_append_em rfl _ _ rfl (w0 := w3) (v := .slice (some ⟨_, 0, none⟩) 0 0) (bs := []) (src := .slice vo f.data.length vc) (news := f.data) rfl rfl (by first | exact hd0 | exact Em.new hU4) (by first | exact HDB.out _ hU4 | exact HDB.out _ (hU4.alloc _)) (by first | exact hU4 | exact hU4.alloc _) hlen1 ?_; intro va wa hEa hUa; obtain ⟨aoa, capa, hsa, -, -, -, -⟩ := hEa.1.shape; subst hsa)
              | (refine step_append_em rfl _ _ rfl (w0 := w3) (bs := [] ++ f.data) (src := .slice ko x.b.length kc) (news := x.b) rfl rfl hEa (HXB2.out _ hUa) hUa hlen2 ?_; intro vb wb hEb hUb; obtain ⟨aob, capb, hsb, -, -, -, -⟩ := hEb.1.shape; rw [HSL.out] at hsb; subst hsb; obtain ⟨wz, hrun, hmi, hup⟩ := HRUN.out _ hUb (.slice aob (f.data.length + x.b.length) capb)))
          all_goals
            have H1 := hid hmi; have H2 := hid hup; have H3 := hid hEb; have H4 := hid hUb
            clear hmi hup hEb hUb hrun hEa hUa hU4 hlkA hlkB hu4 x1 x3
            go_wp2
            go_meet
            case rel =>
              have hml := BS2.out.book.map.lt
              have hne : ∀ k, (Value.slice aob (f.data.length + x.b.length) capb).ownBlock = some k → k ≠ m := fun k hk e => by have := H3.out.2 k hk; omega
              exact ⟨_, (BS2.out.more H4.out).turn H2.out (by rw [HF.out]; exact (BS2.out.more H4.out).book.appended HFO.out H2.out H1.out (H3.out.1.upd H2.out hne) hne) (mem_put_or (fun k hk hm => by have := H3.out.2 k hk; have := BS2.out.on.ins.lt k hm; omega))⟩
        · subst e0
          have HF := hid hF
          clear hF
          go_wp2
          go_meet
          case rel => exact ⟨E, by rw [HF.out]; have h := BS2.out; exact ⟨h.on, h.book.synced _, h.apm, h.ape, h.low⟩⟩
        · subst e0
          have HF := hid hF; have HFO := hid hf
          obtain ⟨v, hv, hdv⟩ := BS2.out.book.some' _ _ hf
          have HV := hid hv; have HDV := hid hdv
          clear hF hf hv hdv
          go_wp2_with fail
          refine (name_any _ _).mono ?_
          rintro e w4 ⟨rfl, hu4⟩
          have BS3 := hid (BS2.out.more hu4)
          obtain ⟨y0, y1, y2, y3, -⟩ := HXB.out w4 (hu4.mono (fun _ _ h => h.elim))
          have HU4 := hid hu4
          have hlk := run_lookup_str (P := Try.prog) Try.underlying54 Try.underlying9 (z := .slice none 0 0) (fun w => by kernel_rfl) BS3.out.book.map (fileName x.file)
          rw [HV.out] at hlk
          simp only [Option.getD_some] at hlk
          clear hu4 x0 x1 x2 x3 hxb
          go_wp2_with fail
          refine (name_any _ _).mono ?_
          rintro e w5 ⟨rfl, hu5⟩
          have BS4 := hid (BS3.out.more hu5)
          obtain ⟨w6, hrun, hmi, hup⟩ := run_delete_str (P := Try.prog) Try.underlying54 Try.underlying9 BS4.out.book.map (fileName x.file) 0 9
          have BS5 := hid (BS4.out.turn hup (BS4.out.book.deleted HND.out HFO.out hup hmi) (fun q hq => .inl ((del_sub E _).subset hq)))
          have hU6 := ((HU4.out.mono (fun _ _ h => h.elim)).trans (hu5.mono (T := fun k => k = m) (fun _ _ h => h.elim)) (fun _ _ h => h)).trans hup (fun _ _ h => h)
          obtain ⟨z0, z1, z2, z3, -⟩ := HXB.out w6 hU6
          have HU6 := hid hU6
          clear hu5 hmi hup y0 y1 y2 y3 hU6 hlk
          go_wp2_with fail
          refine (name_any _ _).mono ?_
          rintro e w7 ⟨rfl, hu7⟩
          have BS6 := hid (BS5.out.more hu7)
          have hvE := look_mem HV.out
          have hu37 := HU6.out.trans hu7 (fun _ _ h => h.elim)
          obtain ⟨w8, hrun2, hmi2, hup2⟩ := run_mapUpdate_str (P := Try.prog) Try.underlying54 Try.underlying9 BS6.out.book.map (fileName x.to) v
          have hdv8 := (HDV.out.upd hu37 (fun k hk => (BS2.out.book.apart _ hvE k hk).1)).upd hup2 (fun k hk => (BS2.out.book.apart _ hvE k hk).1)
          have H1 := hid hmi2; have H2 := hid hup2; have H3 := hid hdv8; have H4 := hid hvE
          clear hu7 hmi2 hup2 hdv8 hvE hu37
          go_wp2
          go_meet
          case rel => exact ⟨_, BS6.out.turn H2.out (by rw [HF.out]; exact Book.renamed HND.out HFO.out BS6.out.book H2.out H1.out H3.out (fun k hk => (BS2.out.book.apart _ H4.out k hk).1)) (mem_put_or (fun k hk => BS2.out.ape _ H4.out k hk))⟩
        · subst e0
          have HF := hid hF; have HFO := hid hf
          clear hF hf
          go_wp2_with fail
          refine (name_any _ _).mono ?_
          rintro e w4 ⟨rfl, hu4⟩
          have BS3 := hid (BS2.out.more hu4)
          obtain ⟨w5, hrun, hmi, hup⟩ := run_delete_str (P := Try.prog) Try.underlying54 Try.underlying9 BS3.out.book.map (fileName x.file) 0 9
          have H1 := hid hmi; have H2 := hid hup
          clear hu4 hmi hup
          go_wp2
          go_meet
          case rel => exact ⟨_, BS3.out.turn H2.out (by rw [HF.out]; exact BS3.out.book.deleted HND.out HFO.out H2.out H1.out) (fun q hq => .inl ((del_sub E _).subset hq))⟩
      case rest =>
      obtain ⟨E2, hbs2⟩ := hcut
      have BS4 := hid hbs2
      clear hbs2 x0 x1 x2 x3 hxb hxm BS2 HXB HRS HND BS1 BS DN AR CP HACT HBV HXM
      have hfi := files_any BS4.out.on.ins
      rw [BS4.out.on.p] at hfi
      have HFI := hid hfi
      clear hfi
      go_wp2_with fail
      refine HFI.out.mono ?_
      rintro e w4 ⟨v1, l1, rfl, hf1, ha1, hu1⟩
      have BS5 := hid (BS4.out.more hu1)
      obtain ⟨ao1, cap1, rfl, hc1, hm1, -⟩ := hf1.shape
      have HAP1 := hid (show ∀ k, ownFiles (.slice ao1 l1.length cap1) l1 k → k ∉ s2.blocks from fun k hk hm => by have := hf1.own_low hk; have := BS4.out.on.ins.lt k hm; omega)
      have HF1 := hid hf1; have HA1 := hid ha1
      have hfr := free_any BS5.out.on.ins
      rw [BS5.out.on.p, CALM.out.2.2] at hfr
      have HFR := hid hfr
      clear hf1 ha1 hu1 hfr
      obtain ⟨wl, hwl⟩ : ∃ wl, wl = wc := ⟨_, rfl⟩
      rw [← hwl] at HF1
      clear hwl
      go_wp2_with fail
      refine HFR.out.mono ?_
      rintro e w5 ⟨rfl, q5, hww⟩
      have BS6 := hid (BS5.out.more (show Upd (fun _ => False) w4 w5 from by rw [hww]; exact (Upd.refl _ _).drewN q5))
      have HF2 := hid (HF1.out.keep (show Upd (fun _ => False) w4 w5 from by rw [hww]; exact (Upd.refl _ _).drewN q5) (fun _ _ h => h))
      have husd : s2.used ≤ C := by have := BS4.out.on.ins.room; rw [CALM.out.2.2] at this; exact this
      have husum : (l1.map (·.data.length)).sum = s2.used := by
        have h := sum_perm (fileList_files_perm BS4.out.on.ins)
        rw [← used_abs, ← HA1.out] at h
        rw [← h, List.map_map]
        rfl
      have HUS := hid husum; have HUD := hid husd
      have hm1' : l1.length ≤ 9223372036854775807 := Nat.le_trans hc1 (by simpa [maxLen] using hm1)
      clear hww husum husd
      obtain ⟨B1, hB1⟩ : ∃ B1, B1 = wl.heap.size := ⟨_, rfl⟩
      rw [← hB1] at HF2
      clear hB1
      go_wp2
      go_loopw [15, 16] (fun sv i wr => ∃ j : Nat, j ≤ l1.length ∧ i = .int .i64 j ∧ sv = .int .i64 ((C - s2.used + ((l1.map (·.data.length)).take j).sum : Nat) : Int) ∧ ∃ s3, Beside w wr p m s3 E2 s2.abs.files ∧ s3.recs = s2.recs ∧ s3.down = false ∧ s3.armed = 0 ∧ s3.cap = C ∧ FilesAt wr B1 (.slice ao1 l1.length cap1) l1 ∧ (∀ k, ownFiles (.slice ao1 l1.length cap1) l1 k → k ∉ s3.blocks)) (fun _ i _ => l1.length - (intOf i).toNat)
      case atStart => exact ⟨0, Nat.zero_le _, rfl, by simp, s2, BS6.out, rfl, CALM.out.1, CALM.out.2.1, CALM.out.2.2, HF2.out, HAP1.out⟩
      case round =>
        obtain ⟨j, hj, rfl, rfl, s3, hbs, hrec, hdn, har, hcp, hfl, hap⟩ := hrel
        have BZ := hid hbs; have RC := hid hrec; have Z1 := hid hdn; have Z2 := hid har; have Z3 := hid hcp; have FL := hid hfl; have AP := hid hap
        clear hbs hrec hdn har hcp hfl hap
        by_cases hlt2 : j < l1.length
        · obtain ⟨o1, q1, e1, -, -, hce⟩ := FL.out.shape
          injection e1 with e1 _ e3
          subst e1 e3
          obtain ⟨g, rfl, hg1, hg2, d0, d1, d2⟩ := hce j hlt2
          have hmem : l1[j] ∈ l1 := List.getElem_mem hlt2
          have hby := (FL.out.data l1[j] hmem)
          obtain ⟨p1, q1, hv1, -, -, -, -⟩ := hby.shape
          have hfa : findA s2.abs.files l1[j].name = some l1[j].abs := by
            have h1 : l1[j].abs ∈ s2.abs.files := (fileList_files_perm BS4.out.on.ins).mem_iff.1 (by rw [← HA1.out]; exact List.mem_map_of_mem hmem)
            exact findA_of_mem (names_nodup BS4.out.on.ins) h1
          obtain ⟨v, hv, hdv⟩ := BZ.out.book.some' _ _ hfa
          obtain ⟨r, hr, hra⟩ : ∃ r, s3.fileAt l1[j].name = some r ∧ r.abs = l1[j].abs := by
            have h := fileAt_findA s3 l1[j].name
            have e : s3.abs.files = s2.abs.files := by show s3.recs.map _ = s2.recs.map _; rw [RC.out]
            rw [e, hfa] at h
            exact Option.map_eq_some_iff.1 h
          have hnok : nameOk l1[j].name.data.toList = true := by
            have h := fileAt_mem hr
            have h2 := (BZ.out.on.ins.files r h.1).name
            rw [h.2] at h2; exact h2
          have hstep : ((l1.map (·.data.length)).take (j + 1)).sum = ((l1.map (·.data.length)).take j).sum + l1[j].data.length := by
            rw [List.take_add_one, List.getElem?_map, List.getElem?_eq_getElem hlt2]
            simp
          have hbound : ((l1.map (·.data.length)).take (j + 1)).sum ≤ s2.used := by
            have h := congrArg List.sum (List.take_append_drop (j + 1) (l1.map (·.data.length)))
            rw [List.sum_append, HUS.out] at h
            omega
          obtain ⟨f1, hf1⟩ : ∃ f, f = l1[j] := ⟨_, rfl⟩
          rw [← hf1] at d0 d1 d2 hby hv1 hfa hv hdv hr hra hnok hstep hmem
          have hrd : r.data = f1.data := congrArg FileA.data hra
          have hdv : DataIs wr v f1.data := hdv
          obtain ⟨vo, vc, hvs, -, -, -, -⟩ := hdv.shape
          have hlk := run_lookup_str_ok (P := Try.prog) Try.underlying54 Try.underlying9 (z := .slice none 0 0) (fun w => by kernel_rfl) BZ.out.book.map f1.name
          rw [hv, hvs] at hlk
          simp only [Option.getD_some, Option.isSome_some] at hlk
          have hgs : g ∉ s3.blocks := AP.out g (.inl rfl)
          have hinD : s3.In wr.drew := BZ.out.on.ins.upd ((Upd.refl (fun _ => False) wr).drew) (fun _ _ h => h)
          have hry := read_yes hinD f1.name 0 f1.data.length hr (by rw [Z1.out, hnok, hr]; rfl) (by rw [hrd]; omega)
          rw [BZ.out.on.p, hrd] at hry
          simp only [List.drop_zero, List.take_length] at hry
          have HRY := hid hry; have HV := hid hv; have HVS := hid hvs; have HDV := hid hdv; have HGS := hid hgs; have HST := hid hstep; have HBO := hid hbound; have HBY := hid hby; have HV1 := hid hv1; have HME := hid hmem
          have HF1E := hid hf1
          rw [hv1] at d1
          have hgr : g < wr.heap.size := hg2
          clear hby hv1 hfa hv hdv hr hra hnok hstep hbound hf1 hvs hgs hinD hry hrd hmem hce hg1 d2
          go_wp2_with fail
          go_region_held3 (fun W => W.cell? ⟨g, j * 3, none⟩ = some (.string f1.name) ∧ W.cell? ⟨g, j * 3 + 1, none⟩ = some (.slice p1 f1.data.length q1))
            (first
              | go_keep
              | exact ⟨(hst9.other HGS.out (by simpa using hgr)).trans (by assumption), (hst9.other HGS.out (by simpa using hgr)).trans (by assumption)⟩
              | (go_split_ands; exact ⟨(hst9.other HGS.out (by simpa using hgr)).trans (by assumption), (hst9.other HGS.out (by simpa using hgr)).trans (by assumption)⟩))
            (first
              | (go_at_call 18; refine HRY.out.mono ?_; rintro e w9 ⟨v9, rfl, hd9, ho9, hst9⟩; obtain ⟨ao9, cap9, hsh9, -, -, -, -⟩ := hd9.shape; subst hsh9))
          have hU9 : Upd (· ∈ s3.blocks) wr w9 := ((Upd.refl (· ∈ s3.blocks) wr).drew).trans hst9.upd (fun _ _ h => h)
          have BZ2 := hid ((BZ.out.more ((Upd.refl (fun _ => False) wr).drew)).step hst9)
          have FL2 := hid (FL.out.keep hU9 AP.out)
          have AP2 := hid (show ∀ k, ownFiles (.slice (some ⟨g, 0, none⟩) l1.length cap1) l1 k → k ∉ s3.bumpRead.blocks from fun k hk hm => (hst9.foot k hm).elim (AP.out k hk) (fun h => by have h2 : k < wr.heap.size := FL.out.own_lt hk; have h3 : wr.heap.size ≤ k := h; omega))
          have hb1 := hd9.bytes
          have hb2 := (HDV.out.upd hU9 (fun k hk => BZ.out.ape _ (look_mem HV.out) k hk)).bytes
          have hb3 := (HBY.out.upd hU9 (fun k hk => AP.out k (.inr (mem_fvBlocks.2 ⟨f1, HME.out, hk⟩)))).bytes
          rw [HVS.out] at hb2
          rw [HV1.out] at hb3
          have HS1 := hid (same_any hb1 hb2)
          have HS2 := hid (same_any hb3 hb2)
          rw [decide_eq_true rfl] at HS1 HS2
          have e1 : w9.cell? ⟨g, j * 3 + 1, none⟩ = some (.slice p1 f1.data.length q1) := (World.cell?_of_block (w := wr) (a := ⟨g, j * 3 + 1, none⟩) (hU9.block g hgr HGS.out)).trans d1
          have hg9 : g < w9.heap.size := Nat.lt_of_lt_of_le hgr hU9.size
          have hsb1 : C - s2.used + ((l1.map (·.data.length)).take (j + 1)).sum ≤ C := by have := HBO.out; have := HUD.out; omega
          have hsb2 := HST.out
          have HSB := hid (And.intro hsb1 hsb2)
          obtain ⟨S0, hS0⟩ : ∃ S0, S0 = ((l1.map (·.data.length)).take j).sum := ⟨_, rfl⟩
          have hS1 : C - s2.used + S0 + f1.data.length ≤ 4096 := by rw [hsb2, ← hS0] at hsb1; omega
          rw [← hS0]
          have HS0 := hid hS0
          clear hd9 ho9 hst9 hU9 hb1 hb2 hb3 d0 d1 hlk hsb1 hsb2 hS0
          go_wp2_with (first | (go_at_call 13; refine (num_any _ _).mono ?_; rintro e w' ⟨rfl, hww⟩; obtain rfl := hww.symm) | (go_at_call 27; refine HS1.out.mono ?_; rintro e w' ⟨rfl, hww⟩; obtain rfl := hww.symm) | (go_at_call 27; refine HS2.out.mono ?_; rintro e w' ⟨rfl, hww⟩; obtain rfl := hww.symm))
          go_roundw
          case rel =>
            refine ⟨j + 1, by omega, by go_num, ?_, s3.bumpRead, BZ2.out, RC.out, Z1.out, Z2.out, Z3.out, FL2.out, AP2.out⟩
            rw [HSB.out.2, ← HS0.out]
            go_num
          case measure => simp [intOf]; omega
        · obtain rfl : j = l1.length := by omega
          have hlE : E2.length = l1.length := by
            have h1 := BZ.out.book.len
            have h2 := (fileList_files_perm BS4.out.on.ins).length_eq
            have h3 : l1.length = (fileList s2).length := by rw [← HA1.out]; simp
            omega
          have hlm := run_len_map (P := Try.prog) Try.underlying54 BZ.out.book.map 3
          rw [hlE] at hlm
          have hall : C - s2.used + ((l1.map (·.data.length)).take l1.length).sum = C := by
            rw [List.take_of_length_le (by simp), HUS.out]
            have := HUD.out
            omega
          rw [hall]
          have hfr := free_any BZ.out.on.ins
          rw [BZ.out.on.p, Z3.out] at hfr
          have HFR2 := hid hfr
          obtain ⟨fr, hfre⟩ : ∃ fr : Nat, fr = C - s3.used := ⟨_, rfl⟩
          rw [← hfre] at HFR2
          clear hlE hall hfr hlt2 hj hfre
          go_wp2_with fail
          refine HFR2.out.mono ?_
          rintro e w9 ⟨rfl, q9, hww⟩
          have BZ2 := hid (BZ.out.more (show Upd (fun _ => False) wr w9 from by rw [hww]; exact (Upd.refl _ _).drewN q9))
          clear hww hlm
          go_wp2
          go_roundw
          case rel =>
            have e : s3.abs.files = s2.abs.files := by show s3.recs.map _ = s2.recs.map _; rw [RC.out]
            exact ⟨k + 1, by omega, by go_num, s3, E2, by rw [e]; exact BZ2.out, Z1.out, Z2.out, Z3.out⟩
          case measure => simp [intOf]; omega
    · obtain rfl : k = dids.length := by omega
      have HCC := hid HC.out
      obtain ⟨co', ccap', e1, -, hccells⟩ := HC.out
      injection e1 with e1 _ e3
      subst e1 e3
      have hcr := crash_any (cv := .slice co cuts.length ccap) (cuts := cuts) BS.out.on.ins ⟨co, ccap, rfl, hcl, fun k hk => by
          obtain ⟨a, h1, h2, h3⟩ := hccells k hk
          refine ⟨a, h1, h2, fun j hj => ?_⟩
          rw [World.cell?_of_block (w := w) (a := ⟨a.block, a.off + j, none⟩) (BS.out.on.upd.block a.block (HCB.out a _ _ (by rw [h1]) (by omega)) (fun h => h))]
          exact h3 j hj⟩
        (fun a l c h hl => by
          injection h with h1 h2 h3
          subst h1 h2
          have := HCB.out a _ _ rfl hl
          exact ⟨fun hm => by have := BS.out.on.low _ hm; omega, Nat.lt_of_lt_of_le this BS.out.on.upd.size⟩)
      rw [BS.out.on.p] at hcr
      have HCR := hid hcr
      clear hcr hccells hlt hk
      go_wp2_with fail
      refine HCR.out.mono ?_
      rintro e w4 ⟨rfl, s2, hst2, habs2⟩
      have ON3 := hid (BS.out.on.step hst2)
      have CP2 := hid (show s2.cap = C from (congrArg DiskA.cap habs2).trans CP.out)
      have hfi := files_any ON3.out.ins
      rw [ON3.out.p] at hfi
      have HFI := hid hfi
      clear hst2 habs2 hfi
      go_wp2_with fail
      refine HFI.out.mono ?_
      rintro e w5 ⟨v1, l1, rfl, hf1, ha1, hu1⟩
      have ON4 := hid (ON3.out.more hu1)
      obtain ⟨ao1, cap1, rfl, hc1, hm1, -⟩ := hf1.shape
      have HF1 := hid hf1; have HA1 := hid ha1
      have hfr := free_any ON4.out.ins
      rw [ON4.out.p, CP2.out] at hfr
      have HFR := hid hfr
      have husd : s2.used ≤ C := by have := ON3.out.ins.room; rw [CP2.out] at this; exact this
      have husum : (l1.map (·.data.length)).sum = s2.used := by
        have h := sum_perm (fileList_files_perm ON3.out.ins)
        rw [← used_abs, ← HA1.out] at h
        rw [← h, List.map_map]
        rfl
      have HUS := hid husum; have HUD := hid husd
      have hm1' : l1.length ≤ 9223372036854775807 := Nat.le_trans hc1 (by simpa [maxLen] using hm1)
      clear hf1 ha1 hu1 hfr husum husd
      go_wp2_with fail
      refine HFR.out.mono ?_
      rintro e w6 ⟨rfl, q6, hww⟩
      have hu6 : Upd (fun _ => False) w5 w6 := by rw [hww]; exact (Upd.refl _ _).drewN q6
      have ON5 := hid (ON4.out.more hu6)
      have HF2 := hid (HF1.out.keep hu6 (fun _ _ h => h))
      clear hww hu6
      go_wp2
      go_loopw [22, 23] (fun sv i wr => ∃ j : Nat, j ≤ l1.length ∧ i = .int .i64 j ∧ sv = .int .i64 ((C - s2.used + ((l1.map (·.data.length)).take j).sum : Nat) : Int) ∧ wr = w6) (fun _ i _ => l1.length - (intOf i).toNat)
      case atStart => exact ⟨0, Nat.zero_le _, rfl, by simp, rfl⟩
      case round =>
        obtain ⟨j, hj, rfl, rfl, hwe⟩ := hrel
        obtain rfl := hwe.symm
        by_cases hlt2 : j < l1.length
        · obtain ⟨o1, q1, e1, -, -, hce⟩ := HF2.out.shape
          injection e1 with e1 _ e3
          subst e1 e3
          obtain ⟨g, rfl, hg1, hg2, d0, d1, d2⟩ := hce j hlt2
          have hmem : l1[j] ∈ l1 := List.getElem_mem hlt2
          obtain ⟨p1, q1, hv1, -, -, -, -⟩ := (HF2.out.data l1[j] hmem).shape
          have hstep : ((l1.map (·.data.length)).take (j + 1)).sum = ((l1.map (·.data.length)).take j).sum + l1[j].data.length := by
            rw [List.take_add_one, List.getElem?_map, List.getElem?_eq_getElem hlt2]
            simp
          have hbound : ((l1.map (·.data.length)).take (j + 1)).sum ≤ s2.used := by
            have h := congrArg List.sum (List.take_append_drop (j + 1) (l1.map (·.data.length)))
            rw [List.sum_append, HUS.out] at h
            omega
          rw [hv1] at d1
          obtain ⟨L1, hL1⟩ : ∃ L1, L1 = l1[j].data.length := ⟨_, rfl⟩
          rw [← hL1] at d1 hstep
          obtain ⟨S0, hS0⟩ : ∃ S0, S0 = ((l1.map (·.data.length)).take j).sum := ⟨_, rfl⟩
          rw [← hS0] at hstep
          have hS1 : C - s2.used + S0 + L1 ≤ 4096 := by have := HUD.out; omega
          rw [← hS0]
          have HST := hid hstep
          clear hstep hbound hS0 hL1 hv1 hmem hce hg1 d0 d2
          go_wp2
          go_roundw
          case rel =>
            refine ⟨j + 1, by omega, by go_num, ?_, by first | rfl | trivial⟩
            rw [HST.out]
            go_num
          case measure => simp [intOf]; omega
        · obtain rfl : j = l1.length := by omega
          have hall : C - s2.used + ((l1.map (·.data.length)).take l1.length).sum = C := by
            rw [List.take_of_length_le (by simp), HUS.out]
            have := HUD.out
            omega
          rw [hall]
          clear hall
          go_wp2
          go_ret
          exact ⟨by first | rfl | simp, ON5.out.upd.below (Nat.le_refl _) (fun _ h => h.elim)⟩

end Go.Proofs.Ytohpgmeflmppaaa
