/-
  Package manifest, walked: Encode.
  Package manifest, walked: the reader's num and bytes.
-/
import Derived.Test.YtgaidmohdhaonaaGreatDoorYF
import Derived.Lib.SlBytesConst
import Derived.Deep.RegionHeld3
namespace Go.Proofs.YtgaidmohdhaonaaGreatDoor
set_option linter.unusedVariables false
set_option linter.unusedSimpArgs false
set_option linter.unnecessarySimpa false
set_option linter.unusedSectionVars false
open Go Go.RowKit

/-- Bytes are appended to a constant's (its row is marked). -/
theorem grow_lit {w W : World} (hu : Upd (fun _ => False) w W) (ms : List UInt8) (fr : Nat × Nat) {sv : Value} {news : List UInt8} (hs : BAt (W.alloc (.cells (ms.map byteV).toArray 5 fr)) sv news) (h0 : 0 < news.length) (hl : ms.length + news.length ≤ 140737488355328) :
    ∃ ao L cap w2, (Builtin.append_ #[22, 22] 22 #[.slice (some ⟨W.heap.size, 0, none⟩) ms.length ms.length, sv]).run Tryz.prog (W.alloc (.cells (ms.map byteV).toArray 5 fr)) = .ok (.slice ao L cap) w2 ∧ NewB w w2 (.slice ao L cap) (ms ++ news) := by
  obtain ⟨i0, hi, hz0, hz1, hz2⟩ := info_parts Tryz.infoByte
  have hg := heap_alloc_new W (.cells (ms.map byteV).toArray 5 fr)
  have huw := hu.alloc (.cells (ms.map byteV).toArray 5 fr)
  generalize (W.alloc (.cells (ms.map byteV).toArray 5 fr)) = w1 at hs hg huw ⊢
  have h1 : ∀ u ∈ news.map byteV, u.oneCell' = true := by intro u hu; obtain ⟨b, _, rfl⟩ := List.mem_map.1 hu; rfl
  obtain ⟨so, scap, rfl, hn0, hc⟩ := hs.bytes
  cases so with
  | none => have := (hn0 rfl).1; subst this; simp at h0
  | some a =>
    have holds : ∀ j u, (ms.map byteV)[j]? = some u → w1.cell? ((⟨W.heap.size, 0, none⟩ : Addr).add j) = some u := by
      intro j u hu
      rw [show (Addr.add ⟨W.heap.size, 0, none⟩ j : Addr) = ⟨W.heap.size, j, none⟩ from by simp [Addr.add_lit], cell_of_row w1 W.heap.size j _ _ _ hg]
      simpa using hu
    have hr := run_append_grow (P := Tryz.prog) w1 22 22 5 i0 (.int .u8 0) Tryz.underlying22 hi hz0 ⟨W.heap.size, 0, none⟩ ms.length ms.length (ms.map byteV) (by simp [hz1]) holds a news.length scap (news.map byteV) (by simp [hz1]) (hc a rfl) (by omega) (by omega)
      (by rw [hz2, Nat.mul_one]; exact nextcap_small hl (by omega))
    have hge := grownCap_ge w1 (ms.length + news.length) ms.length 5
    have hle := grownCap_le_maxLen w1 (ms.length + news.length) ms.length 5 (by unfold maxLen; omega)
    refine ⟨_, _, _, _, hr, ⟨.inr ⟨w1.heap.size, _, _, by rw [List.length_append], heap_alloc_new w1.drew _, by rw [List.length_append]; exact hge, ?_, hle, ?_⟩, fun k hk => ?_, (huw.drew).alloc _⟩⟩
    · simp [size_zeroCells, Value.cells]; omega
    · simp only [Array.toList_append, List.append_assoc, List.length_append, List.map_append]
      rw [← List.append_assoc, List.take_append_of_le_length (by simp), List.take_of_length_le (by simp)]
    · simp only [Value.ownBlock, Option.some.injEq] at hk
      have := huw.size
      omega

theorem okA_run {x : VerA} (h : okA x = true) {r : MetaA} (hr : r ∈ x.runs) : isKeyB r.first = true ∧ isKeyB r.last = true := by
  obtain ⟨k, hk, rfl⟩ := List.getElem_of_mem hr
  unfold okA at h
  rw [Bool.and_eq_true, List.all_eq_true] at h
  have h1 := h.2 k (by simpa using hk)
  rw [runOkA_eq hk] at h1
  simp only [Bool.and_eq_true] at h1
  have h2 := h1.1.1
  unfold fitsA at h2
  simp only [Bool.and_eq_true] at h2
  exact ⟨h2.2.1, h2.2.2.1⟩
theorem okA_head {x : VerA} (h : okA x = true) : headA x = true := by
  unfold okA at h
  rw [Bool.and_eq_true] at h
  exact h.1
theorem bytesB_len (b : List UInt8) (h : b.length ≤ 4611686018427387904) : (bytesB b).length ≤ b.length + 10 := by
  unfold bytesB
  have := uintB_len 9 b.length (by omega)
  rw [List.length_append]; omega
theorem metaB_len {r : MetaA} (h1 : r.first.length ≤ 1100) (h2 : r.last.length ≤ 1100) : (metaB r).length ≤ 2280 := by
  unfold metaB
  have a := uintsB_len [r.num, r.count, r.index, r.low, r.clock, r.bytes]
  have b := bytesB_len r.first (by omega)
  have c := bytesB_len r.last (by omega)
  simp only [List.length_append, List.length_cons, List.length_nil] at *
  omega
theorem metas_len : ∀ (l : List MetaA), (∀ r ∈ l, r.first.length ≤ 1100 ∧ r.last.length ≤ 1100) → ((l.map metaB).flatten).length ≤ 2280 * l.length
  | [], _ => by simp
  | r :: l, h => by
    have h1 := metaB_len (h r (by simp)).1 (h r (by simp)).2
    have h2 := metas_len l (fun x hx => h x (by simp [hx]))
    simp only [List.map_cons, List.flatten_cons, List.length_append, List.length_cons]
    omega
theorem body_len {x : VerA} (h : okA x = true) : (bodyB x).length ≤ 300000 ∧ ∀ r ∈ x.runs, r.first.length ≤ 1100 ∧ r.last.length ≤ 1100 := by
  have hr : ∀ r ∈ x.runs, r.first.length ≤ 1100 ∧ r.last.length ≤ 1100 := fun r hr => ⟨isKeyB_len (okA_run h hr).1, isKeyB_len (okA_run h hr).2⟩
  refine ⟨?_, hr⟩
  obtain ⟨-, h1, h2⟩ := headA_of (okA_head h)
  have a := metas_len x.runs hr
  have b := bytesB_len x.state (by omega)
  have c := uintsB_len [x.gen, x.flushed, x.next, x.low, x.clock]
  have d := uintsB_len [(x.runs.length : Int)]
  unfold bodyB
  simp only [List.length_append, List.length_cons, List.length_nil] at *
  omega

set_option maxRecDepth 100000 in
set_option maxHeartbeats 3200000 in
theorem encode_bad {w : World} {v : Value} {x : VerA} (hv : VerAt w v x) (hl : ∀ r ∈ x.runs, r.first.length ≤ 140737488351232 ∧ r.last.length ≤ 140737488351232) (hb : okA x = false) :
    Calls Tryz.prog 17 #[v] w fun e w' => e = .returned (.tuple #[.slice none 0 0, .int .i64 101]) ∧ Upd (fun _ => False) w w' := by
  have HV := hid hv
  obtain ⟨s1, d1, s2, d2, rfl, -, -⟩ := hv
  have HU := hid ((Upd.refl (fun _ => False) w).alloc (.cells #[.int .i64 x.gen, .int .i64 x.flushed, .int .i64 x.next, .int .i64 x.low, .int .i64 x.clock, .slice s1 x.state.length d1, .slice s2 x.runs.length d2] 25))
  have HC := hid (verCheck_any (HV.out.keep HU.out) hl)
  rw [show checkA x = 101 from by unfold checkA; rw [hb]; rfl] at HC
  clear hb hl
  go_enter Tryz.func17, Tryz.ntmps17
  go_wp2_with fail
  refine HC.out.mono ?_
  rintro e w2 ⟨rfl, hu2⟩
  have HU2 := hid (HU.out.trans hu2 (fun _ _ e => e))
  clear hu2
  go_wp2
  go_ret2
  exact ⟨rfl, HU2.out⟩

/-- Numbers that lie in a new row. -/
theorem put_row {W1 W : World} {q : Nat} {v : Value} {bs : List UInt8} (h : PutS W1 W q v bs) (nums : List Int) (n : Nat) (hnn : nums.length = n) (hn : n ≤ 100) (hl : bs.length ≤ 1000000000) (C : Array Value) (hC : C = (nums.map (Value.int .i64)).toArray) (a : Nat) (ha : a = W.heap.size) :
    Calls Tryz.prog 68 #[.slice (some ⟨a, 0, none⟩) n n, .pointer (some ⟨q, 0, none⟩)] (W.alloc (.cells C 3)) fun e w' => e = .returned (.tuple #[]) ∧
      Upd (fun b => b = q ∨ v.ownBlock = some b) W w' ∧ ∃ va vl vc, PutS W1 w' q (.slice va vl vc) (bs ++ uintsB nums) ∧ ∀ b, (Value.slice va vl vc).ownBlock = some b → v.ownBlock = some b ∨ W.heap.size ≤ b := by
  subst ha
  subst hnn
  have hu : Upd (fun _ => False) W (W.alloc (.cells C 3)) := (Upd.refl _ _).alloc _
  have hrow := heap_alloc_new W (.cells C 3)
  refine (put_any (h.keep hu) (lt_of_heap hrow) (fun e => by have := lt_of_heap h.box; omega) (fun k hk => by have := h.lt k hk; omega) (by omega) hl (fun j hj => ?_)).mono ?_
  · rw [cell_of_row _ _ j _ _ _ hrow, hC]
    simp [List.getElem?_eq_getElem hj]
  · rintro e w' ⟨rfl, h1, x1, x2, x3, h2, h3⟩
    exact ⟨rfl, (hu.mono (fun _ _ e => e.elim)).trans h1 (fun k _ e => e), x1, x2, x3, h2, fun b e => (h3 b e).elim .inl (fun h => .inr (Nat.le_trans hu.size h))⟩

set_option maxRecDepth 100000 in
set_option maxHeartbeats 12800000 in
theorem encode_any {w : World} {v : Value} {x : VerA} (hT : TabIn w) (hv : VerAt w v x) (hb : okA x = true) :
    Calls Tryz.prog 17 #[v] w fun e w' => ∃ v', e = .returned (.tuple #[v', .int .i64 0]) ∧ NewB w w' v' (encodeB x) := by
  have HV := hid hv; have HT := hid hT
  have HBL := hid (body_len hb)
  have HHO := hid (headA_of (okA_head hb))
  obtain ⟨s1, d1, s2, d2, rfl, -, -⟩ := hv
  have HU := hid ((Upd.refl (fun _ => False) w).alloc (.cells #[.int .i64 x.gen, .int .i64 x.flushed, .int .i64 x.next, .int .i64 x.low, .int .i64 x.clock, .slice s1 x.state.length d1, .slice s2 x.runs.length d2] 25))
  have HC := hid (verCheck_any (HV.out.keep HU.out) (fun r hr => by have := HBL.out.2 r hr; omega))
  have HROW := hid (heap_alloc_new w (.cells #[.int .i64 x.gen, .int .i64 x.flushed, .int .i64 x.next, .int .i64 x.low, .int .i64 x.clock, .slice s1 x.state.length d1, .slice s2 x.runs.length d2] 25))
  rw [show checkA x = 0 from by unfold checkA; rw [hb]; rfl] at HC
  obtain ⟨p, hp⟩ : ∃ p, p = w.heap.size := ⟨_, rfl⟩
  rw [← hp] at HROW
  have HP := hid hp
  clear hb hp hT
  go_enter Tryz.func17, Tryz.ntmps17
  go_wp2_with fail
  refine HC.out.mono ?_
  rintro e W1 ⟨rfl, hu2⟩
  rw [← HP.out]
  have HU1 := hid (HU.out.trans hu2 (fun _ _ e => e))
  have HR1 := hid (hu2.get HROW.out (fun e => e))
  have HS0 := hid (PutS.start W1)
  have hpl : p < W1.heap.size := lt_of_heap HR1.out
  have hpl1 : p < W1.heap.size + 1 := by omega
  have v0 := cell_of_row W1 p 0 _ _ _ HR1.out; have v1 := cell_of_row W1 p 1 _ _ _ HR1.out; have v2 := cell_of_row W1 p 2 _ _ _ HR1.out; have v3 := cell_of_row W1 p 3 _ _ _ HR1.out; have v4 := cell_of_row W1 p 4 _ _ _ HR1.out
  clear hu2
  have HB2 := hid (show BAt W1 (.slice s1 x.state.length d1) x.state from by obtain ⟨_, _, _, _, e, h1, -⟩ := HV.out; injection e with e; injection e with e; simp only [List.cons.injEq, and_true] at e; obtain ⟨-, -, -, -, -, e5, -⟩ := e; injection e5 with e51 e52 e53; subst e51; subst e53; exact h1.keep HU1.out)
  have HB3 := hid (show RunsAt W1 (.slice s2 x.runs.length d2) x.runs from by obtain ⟨_, _, _, _, e, -, h1⟩ := HV.out; injection e with e; injection e with e; simp only [List.cons.injEq, and_true] at e; obtain ⟨-, -, -, -, -, -, e6⟩ := e; injection e6 with e51 e52 e53; subst e51; subst e53; exact h1.keep HU1.out)
  have HBY := hid (bytesB_len x.state (by have := HHO.out.2.1; omega))
  have HL5 := hid (uintsB_len [x.gen, x.flushed, x.next, x.low, x.clock])
  have HL1 := hid (uintsB_len [(x.runs.length : Int)])
  obtain ⟨q, hq⟩ : ∃ q, q = W1.heap.size := ⟨_, rfl⟩
  rw [← hq] at HS0
  have HQ := hid hq
  have HPUT := hid (put_row HS0.out [x.gen, x.flushed, x.next, x.low, x.clock] 5 rfl (by omega) (by simp) #[.int .i64 x.gen, .int .i64 x.flushed, .int .i64 x.next, .int .i64 x.low, .int .i64 x.clock] rfl (q + 1) (by rw [hq]; simp))
  have hmf : ∀ (fn : Fn) (first cap : Array Value) (w : World), (Instr.makeFunc fn first cap).run Tryz.prog w = .ok (.func fn first cap) w := fun _ _ _ _ => rfl
  clear hq
  go_wp2_with fail
  rw [← HQ.out]
  refine HPUT.out.mono ?_
  rintro e W3 ⟨rfl, hu3, va, vl, vc, hs3, -⟩
  rw [List.nil_append] at hs3
  have HS3 := hid hs3
  have hr3 := hs3.data.upd.get HR1.out (fun e => e)
  clear hu3 hs3 v0 v1 v2 v3 v4 hpl hpl1 hmf
  go_upto_region 7 with fail
  go_cut [34] (fun _ wx => ∃ va vl vc, PutS W1 wx q (.slice va vl vc) (uintsB [x.gen, x.flushed, x.next, x.low, x.clock] ++ bytesB x.state))
  case first =>
    have HCALL := hid (HS3.out.drew.next (bytes_any (w := W3.drew) (HB2.out.keep HS3.out.drew.data.upd) (by have := HHO.out.2.1; omega)) (by have := HBY.out; have := HL5.out; have := HHO.out.2.1; simp at *; omega))
    have hq0 := cell_of_row _ _ 0 _ _ _ HS3.out.box
    have hqw := lt_of_heap HS3.out.box
    have v5 := cell_of_row W3 p 5 _ _ _ hr3
    have hpw := lt_of_heap hr3
    clear hr3
    go_wp2_with fail
    go_region_law (first | (go_simp; go_at_call 70; refine HCALL.out.mono ?_; rintro e W4 ⟨sa, sl, sc, ao, L, cap, w2, rfl, t1, t2, hr, t3, t4, t5, hF⟩) | (refine step_append_eq rfl (.tmp 30) (.tmp 33) 22 rfl rfl rfl hr ?_))
    all_goals
      have HF := hid hF.out.1
      clear hr
      go_wp2
      go_meet
      case rel => exact ⟨_, _, _, HF.out⟩
  case rest =>
    obtain ⟨va4, vl4, vc4, hs4⟩ := hcut
    obtain ⟨W4, rfl⟩ : ∃ W4, W4 = wc := ⟨_, rfl⟩
    have HS4 := hid hs4
    have hr4 := hs4.data.upd.get HR1.out (fun e => e)
    have v6 := cell_of_row W4 p 6 _ _ _ hr4
    have hpw := lt_of_heap hr4
    obtain ⟨a4, ha4⟩ : ∃ a4, a4 = W4.heap.size := ⟨_, rfl⟩
    have HPUT2 := hid (put_row hs4 [(x.runs.length : Int)] 1 rfl (by omega) (by have := HBY.out; have := HL5.out; have := HHO.out.2.1; rw [List.length_append]; simp at *; omega) #[.int .i64 (x.runs.length : Int)] rfl a4 ha4)
    have HA4 := hid ha4
    clear hs4 hr4 ha4
    go_wp2_with fail
    rw [← HA4.out]
    refine HPUT2.out.mono ?_
    rintro e W5 ⟨rfl, hu5, va5, vl5, vc5, hs5, -⟩
    obtain ⟨PRE, hPRE⟩ : ∃ PRE, PRE = uintsB [x.gen, x.flushed, x.next, x.low, x.clock] ++ bytesB x.state ++ uintsB [(x.runs.length : Int)] := ⟨_, rfl⟩
    rw [← hPRE] at hs5
    have HPL := hid (show PRE.length ≤ 140000 from by rw [hPRE]; have := HBY.out; have := HL5.out; have := HL1.out; have := HHO.out.2.1; simp at *; omega)
    have HS5 := hid hs5; have HPRE := hid hPRE
    have hr5 := hs5.data.upd.get HR1.out (fun e => e)
    have v6 := cell_of_row W5 p 6 _ _ _ hr5
    have hpw := lt_of_heap hr5
    clear hu5 hs5 hr5 hPRE
    obtain ⟨n, hn⟩ : ∃ n, n = x.runs.length := ⟨_, rfl⟩
    rw [← hn] at v6 ⊢
    have HNN := hid hn
    have hn64 : n ≤ 64 := by have := HHO.out.2.2; omega
    clear hn
    go_wp2
    go_loopw [44] (fun i wr => ∃ k : Nat, k ≤ n ∧ i = .int .i64 k ∧ ∃ va vl vc, PutS W1 wr q (.slice va vl vc) (PRE ++ ((x.runs.take k).map metaB).flatten)) (fun i _ => n - (intOf i).toNat)
    case atStart => exact ⟨0, Nat.zero_le _, rfl, va5, vl5, vc5, by simpa using HS5.out⟩
    case round =>
      obtain ⟨k, hk, rfl, va, vl, vc, hp⟩ := hrel
      obtain ⟨wo, rfl⟩ : ∃ wo, wo = wr := ⟨_, rfl⟩
      have HP := hid hp
      have HML := hid (metas_len (x.runs.take k) (fun r hr => HBL.out.2 r (List.mem_of_mem_take hr)))
      have HKL := hid (show (x.runs.take k).length ≤ 64 from by simp; have := HHO.out.2.2; omega)
      clear hp v6 hpw
      by_cases hlt : k < n
      · have hlt' : k < x.runs.length := by have := HNN.out; omega
        obtain ⟨ao0, cap0, e, hc1, hc2, hcells⟩ := HB3.out
        obtain ⟨b, o, f1, c1, f2, c2, ha, hb, g0, g1, g2, g3, g4, g5, g6, g7, hB1, hB2⟩ := hcells k hlt'
        injection e with e1 e2 e3
        subst e1
        subst e3
        subst ha
        clear e2 hcells
        have HT1 := hid (show ((x.runs.take (k + 1)).map metaB).flatten = ((x.runs.take k).map metaB).flatten ++ metaB x.runs[k] from by rw [List.take_succ_eq_append_getElem hlt', List.map_append, List.flatten_append]; simp only [List.map_cons, List.map_nil, List.flatten_cons, List.flatten_nil, List.append_nil])
        have HLR := hid (HBL.out.2 _ (List.getElem_mem hlt'))
        obtain ⟨r, hr⟩ : ∃ r, r = x.runs[k] := ⟨_, rfl⟩
        rw [← hr] at g0 g1 g2 g3 g4 g5 g6 g7 hB1 hB2 HT1 HLR
        have HLF := hid (bytesB_len r.first (by have := HLR.out; omega)); have HLL := hid (bytesB_len r.last (by have := HLR.out; omega))
        have HL6 := hid (uintsB_len [r.num, r.count, r.index, r.low, r.clock, r.bytes])
        have u0 := HP.out.data.upd.cell hb g0; have u1 := HP.out.data.upd.cell hb g1; have u2 := HP.out.data.upd.cell hb g2; have u3 := HP.out.data.upd.cell hb g3
        have u4 := HP.out.data.upd.cell hb g4; have u5 := HP.out.data.upd.cell hb g5; have u6 := HP.out.data.upd.cell hb g6; have u7 := HP.out.data.upd.cell hb g7
        have hbw : b < wo.heap.size := Nat.lt_of_lt_of_le hb HP.out.data.upd.size
        have HUR := hid ((Upd.refl (fun _ => False) wo).alloc (.cells #[.int .i64 r.num, .int .i64 r.count, .int .i64 r.index, .int .i64 r.low, .int .i64 r.clock, .int .i64 r.bytes, .slice f1 r.first.length c1, .slice f2 r.last.length c2] 48))
        have HROW := hid (heap_alloc_new wo (.cells #[.int .i64 r.num, .int .i64 r.count, .int .i64 r.index, .int .i64 r.low, .int .i64 r.clock, .int .i64 r.bytes, .slice f1 r.first.length c1, .slice f2 r.last.length c2] 48))
        have HB1' := hid hB1; have HB2' := hid hB2
        obtain ⟨b8, hb8⟩ : ∃ b8, b8 = wo.heap.size := ⟨_, rfl⟩
        rw [← hb8] at HROW
        have HB8 := hid hb8
        have HNQ := hid (show b8 ≠ q from by have := lt_of_heap HP.out.box; omega)
        have HNV := hid (show ∀ j, (Value.slice va vl vc).ownBlock = some j → j ≠ b8 from fun j hj => by have := HP.out.lt j hj; omega)
        have HPUT3 := hid (put_row (HP.out.keep HUR.out) [r.num, r.count, r.index, r.low, r.clock, r.bytes] 6 rfl (by omega) (by have := HPL.out; have := HML.out; have := HKL.out; rw [List.length_append]; omega) #[.int .i64 r.num, .int .i64 r.count, .int .i64 r.index, .int .i64 r.low, .int .i64 r.clock, .int .i64 r.bytes] rfl (b8 + 1) (by rw [hb8]; simp))
        clear hB1 hB2 hr hb8 hc1 hc2
        go_wp2_with fail
        rw [← HB8.out]
        refine HPUT3.out.mono ?_
        rintro e W6 ⟨rfl, hu6, va6, vl6, vc6, hs6, ho6⟩
        have HS6 := hid hs6
        have HROW6 := hid (hu6.get HROW.out (fun e => e.elim HNQ.out (fun e => HNV.out _ e rfl)))
        have hsz6 : b8 < W6.heap.size := lt_of_heap HROW6.out
        have HNV6 := hid (show ∀ j, (Value.slice va6 vl6 vc6).ownBlock = some j → j ≠ b8 from fun j hj => (ho6 j hj).elim (fun e => HNV.out j e) (fun e => by have h1 := HB8.out; simp at e; omega))
        clear hu6 hs6 ho6 g0 g1 g2 g3 g4 g5 g6 g7 u0 u1 u2 u3 u4 u5 u6 u7 hb hbw
        obtain ⟨ACC, hACC⟩ : ∃ ACC, ACC = PRE ++ ((x.runs.take k).map metaB).flatten ++ uintsB [r.num, r.count, r.index, r.low, r.clock, r.bytes] := ⟨_, rfl⟩
        have HACC := hid hACC
        have HS6' := hid (show PutS W1 W6 q (.slice va6 vl6 vc6) ACC from hACC ▸ HS6.out)
        have HAL := hid (show ACC.length ≤ 300000 from by rw [hACC]; have := HPL.out; have := HML.out; have := HKL.out; have := HL6.out; simp only [List.length_append, List.length_cons, List.length_nil] at *; omega)
        clear hACC HS6
        go_upto_region 13 with fail
        go_cut [67] (fun _ wx => wx.heap[b8]? = some (.cells #[.int .i64 r.num, .int .i64 r.count, .int .i64 r.index, .int .i64 r.low, .int .i64 r.clock, .int .i64 r.bytes, .slice f1 r.first.length c1, .slice f2 r.last.length c2] 48 (0, 0)) ∧ ∃ va vl vc, PutS W1 wx q (.slice va vl vc) (ACC ++ bytesB r.first) ∧ ∀ j, (Value.slice va vl vc).ownBlock = some j → j ≠ b8)
        case first =>
          have HCALL := hid (HS6'.out.drew.next (bytes_any (w := W6.drew) (HB1'.out.keep HS6'.out.drew.data.upd) (by have := HLR.out; omega)) (by have := HAL.out; have := HLF.out; have := HLR.out; omega))
          have hq0 := cell_of_row _ _ 0 _ _ _ HS6'.out.box
          have hqw := lt_of_heap HS6'.out.box
          have z6 := cell_of_row W6 b8 6 _ _ _ HROW6.out
          go_wp2_with fail
          go_region_law (first | (go_simp; go_at_call 70; refine HCALL.out.mono ?_; rintro e W4 ⟨sa, sl, sc, ao, L, cap, w2, rfl, t1, t2, hr, t3, t4, t5, hF⟩) | (refine step_append_eq rfl (.tmp 63) (.tmp 66) 22 rfl rfl rfl hr ?_))
          all_goals
            have HF := hid hF.out.1
            have HF2 := hid (hF.out.2.1.get (o := (.cells #[.int .i64 r.num, .int .i64 r.count, .int .i64 r.index, .int .i64 r.low, .int .i64 r.clock, .int .i64 r.bytes, .slice f1 r.first.length c1, .slice f2 r.last.length c2] 48 (0, 0))) (show W6.drew.heap[b8]? = _ from HROW6.out) (fun e => e.elim HNQ.out (fun e => HNV6.out _ e rfl)))
            have HF3 := hid (show ∀ j, (Value.slice ao L cap).ownBlock = some j → j ≠ b8 from fun j hj => (hF.out.2.2 j hj).elim (fun e => HNV6.out j e) (fun e => by have h1 : W6.heap.size ≤ j := e; omega))
            clear hr
            go_wp2
            go_meet
            case rel => exact ⟨HF2.out, _, _, _, HF.out, HF3.out⟩
        case rest =>
          obtain ⟨hrow7, va7, vl7, vc7, hs7, hnv7⟩ := hcut
          obtain ⟨W7, rfl⟩ : ∃ W7, W7 = wc := ⟨_, rfl⟩
          have HS7 := hid hs7; have HROW7 := hid hrow7; have HNV7 := hid hnv7
          clear hs7 hrow7 hnv7 hsz6
          have HFIN := hid (show PRE ++ ((x.runs.take (k + 1)).map metaB).flatten = ACC ++ bytesB r.first ++ bytesB r.last from by rw [HT1.out, HACC.out]; unfold metaB; simp only [List.append_assoc])
          have HCALL := hid (HS7.out.drew.next (bytes_any (w := W7.drew) (HB2'.out.keep HS7.out.drew.data.upd) (by have := HLR.out; omega)) (by rw [List.length_append]; have := HAL.out; have := HLF.out; have := HLL.out; have := HLR.out; omega))
          have hq0 := cell_of_row _ _ 0 _ _ _ HS7.out.box
          have hqw := lt_of_heap HS7.out.box
          have z7 := cell_of_row W7 b8 7 _ _ _ HROW7.out
          have hsz7 : b8 < W7.heap.size := lt_of_heap HROW7.out
          go_wp2_with fail
          go_region_law (first | (go_simp; go_at_call 70; refine HCALL.out.mono ?_; rintro e W4 ⟨sa, sl, sc, ao, L, cap, w2, rfl, t1, t2, hr, t3, t4, t5, hF⟩) | (refine step_append_eq rfl (.tmp 68) (.tmp 71) 22 rfl rfl rfl hr ?_))
          all_goals
            have HF := hid hF.out.1
            clear hr
            go_wp2
            go_roundw
            case rel => exact ⟨k + 1, by omega, by simp, ao, L, cap, by rw [HFIN.out]; exact HF.out⟩
            case measure => simp [intOf]; omega
      · obtain rfl : k = n := by omega
        have HBODY := hid (show PRE ++ ((x.runs.take k).map metaB).flatten = bodyB x from by rw [HPRE.out, HNN.out, List.take_length]; unfold bodyB; simp only [List.append_assoc])
        rw [HBODY.out] at HP
        have HFR := hid (frame_any (HT.out.keep (HU1.out.trans HP.out.data.upd (fun _ _ e => e))) HP.out.data.data.bat (by have := HBL.out.1; omega))
        have hq0 := cell_of_row _ _ 0 _ _ _ HP.out.box
        have hqw := lt_of_heap HP.out.box
        go_wp2_with fail
        refine HFR.out.mono ?_
        rintro e W7 ⟨v7, rfl, hn7⟩
        have hu7 : Upd (fun _ => False) w W7 := (HU1.out.trans HP.out.data.upd (fun _ _ e => e)).trans hn7.upd (fun _ _ e => e)
        have hfl : (frameB (bodyB x)).length ≤ 400000 := by rw [frameB_length]; have := HBL.out.1; omega
        have hf0 : 0 < (frameB (bodyB x)).length := by rw [frameB_length]; omega
        obtain ⟨ao8, L8, cap8, w8, hr8, hn8⟩ := grow_lit hu7 magicB (8, 9) ((hn7.data.bat).keep ((Upd.refl (fun _ => False) W7).alloc _)) hf0 (by simp only [magicB, List.length_cons, List.length_nil]; omega)
        obtain ⟨x7, y7, hv7, -, -⟩ := hn7.shape
        obtain ⟨L7, hL7⟩ : ∃ L, L = (frameB (bodyB x)).length := ⟨_, rfl⟩
        rw [← hL7] at hv7
        subst hv7
        have hr8' : (Builtin.append_ #[22, 22] 22 #[.slice (some ⟨W7.heap.size, 0, none⟩) 8 8, .slice x7 L7 y7]).run Tryz.prog (W7.alloc (.cells #[.int .u8 83, .int .u8 84, .int .u8 82, .int .u8 65, .int .u8 84, .int .u8 65, .int .u8 45, .int .u8 77] 5 (8, 9))) = .ok (.slice ao8 L8 cap8) w8 := hr8
        have HR8 := hid hr8'
        have HN8 := hid (show NewB w w8 (.slice ao8 L8 cap8) (encodeB x) from hn8)
        have kc := fun (w : World) (C : Array Value) (n c : Nat) => Lib.run_convert_bytes_const (P := Tryz.prog) w 22 5 C n c Tryz.underlying22 Tryz.underlying5
        clear hr8 hr8' hn8 hf0 hfl hL7 hn7 hu7 hq0 hqw
        go_wp2_with (at_builtin; refine wpList_append_run rfl _ _ _ rfl rfl rfl HR8.out ?_)
        go_ret2
        exact ⟨_, rfl, HN8.out⟩

end Go.Proofs.YtgaidmohdhaonaaGreatDoor

namespace Go.Proofs.YtgaidmohdhaonaaGreatDoor
set_option linter.unusedVariables false
set_option linter.unusedSimpArgs false
set_option linter.unnecessarySimpa false
set_option linter.unusedSectionVars false
open Go Go.RowKit

/-- Block p is a reader of the bytes of a slice. -/
def RdAt (W : World) (p : Nat) (bv : Value) (s : RdA) : Prop := W.heap[p]? = some (.cells #[bv, .int .i64 (s.at' : Nat), .bool s.bad] 137 (0, 0))

theorem RdAt.cells {W : World} {p : Nat} {bv : Value} {s : RdA} (h : RdAt W p bv s) : (W.cell? ⟨p, 0, none⟩ = some bv ∧ W.cell? ⟨p, 1, none⟩ = some (.int .i64 (s.at' : Nat)) ∧ W.cell? ⟨p, 2, none⟩ = some (.bool s.bad)) ∧ (W.frozen? ⟨p, 1, none⟩ = false ∧ W.frozen? ⟨p, 2, none⟩ = false) ∧ p < W.heap.size :=
  ⟨⟨cell_of_row _ _ 0 _ _ _ h, cell_of_row _ _ 1 _ _ _ h, cell_of_row _ _ 2 _ _ _ h⟩, ⟨frozen_of_row _ _ _ _ _ h, frozen_of_row _ _ _ _ _ h⟩, lt_of_heap h⟩
theorem RdAt.keep {W W' : World} {p : Nat} {bv : Value} {s : RdA} (h : RdAt W p bv s) (hu : Upd (fun _ => False) W W') : RdAt W' p bv s := hu.get h (fun e => e)
theorem RdAt.broken {W : World} {p : Nat} {bv : Value} {s : RdA} (h : RdAt W p bv s) : RdAt (W.setCell ⟨p, 2, none⟩ (.bool true)) p bv ⟨s.at', true⟩ := heap_setCell_at _ _ _ _ _ _ h
theorem RdAt.moved {W : World} {p : Nat} {bv : Value} {s : RdA} (h : RdAt W p bv s) (a : Nat) : RdAt (W.setCell ⟨p, 1, none⟩ (.int .i64 a)) p bv ⟨a, s.bad⟩ := heap_setCell_at _ _ _ _ _ _ h

theorem rdN_at {b : List UInt8} {s : RdA} (h : s.at' ≤ b.length) : (rdN b s).2.at' ≤ b.length := by
  unfold rdN
  split
  · exact h
  · rename_i h1
    exact (readU_ok (by omega) h).2.2
theorem rdB_at {b : List UInt8} {m : Nat} {s : RdA} (h : s.at' ≤ b.length) : (rdB b m s).2.at' ≤ b.length := by
  unfold rdB
  split
  · exact h
  · rename_i h1
    exact (readB_ok h (by omega)).2.1

set_option maxRecDepth 100000 in
set_option maxHeartbeats 3200000 in
theorem num_any {w : World} {p c : Nat} {g : Option Addr} {b : List UInt8} {s : RdA} (hp : RdAt w p (.slice g b.length c) s) (hb : BAt w (.slice g b.length c) b) (hs : s.at' ≤ b.length) (hl : b.length ≤ 140737488351232) :
    Calls Tryz.prog 74 #[.pointer (some ⟨p, 0, none⟩)] w fun e w' => e = .returned (.int .i64 (rdN b s).1) ∧ RdAt w' p (.slice g b.length c) (rdN b s).2 ∧ Upd (fun k => k = p) w w' := by
  have HPP := hid hp
  have HBB := hid hb
  have HRU := hid (fun k => readUint_any (hb.keep ((Upd.refl (fun _ => False) w).drewN k)) hs (by omega))
  have HR := hid (show rdN b s = if (readU b s.at').2.2 ≠ 0 ∨ 9223372036854775807 < (readU b s.at').1 then ((0 : Int), RdA.mk s.at' true) else ((((readU b s.at').1 : Nat) : Int), RdA.mk (readU b s.at').2.1 s.bad) from rfl)
  obtain ⟨⟨c0, c1, c2⟩, ⟨fz1, fz2⟩, hpl⟩ := hp.cells
  obtain ⟨at0, bad0⟩ := s
  simp only at c1 c2 hs HRU HR HPP hpl c0
  obtain ⟨R, hR⟩ : ∃ R, R = readU b at0 := ⟨_, rfl⟩
  rw [← hR] at HRU HR
  clear hR hp hb
  obtain ⟨n, a2, e2⟩ := R
  simp only at HRU HR
  obtain ⟨N, hN⟩ : ∃ N, N = b.length := ⟨_, rfl⟩
  rw [← hN] at c0 HRU hs HPP hl ⊢
  have hnl : ¬ (N : Int) < (at0 : Int) := by omega
  have hmin : min (at0 : Int) (N : Int) = (at0 : Int) := by omega
  clear hN
  by_cases h1 : e2 = 0
  · subst h1
    by_cases h2 : 9223372036854775807 < n
    · rw [if_pos (.inr h2)] at HR
      have h2' : (9223372036854775807 : Int) < (n : Int) := by omega
      go_enter Tryz.func74, Tryz.ntmps74
      go_wp2_with fail
      go_quiet ((go_at_call 135; exact Calls.quiet_of_same (HRU.out _)))
      revert nq
      intro q
      have HPQ := hid (show RdAt (w.drewN q) p (.slice g N c) ⟨at0, bad0⟩ from HPP.out)
      obtain ⟨⟨c0', c1', c2'⟩, ⟨fz1', fz2'⟩, hpl'⟩ := HPQ.out.cells
      have HUQ := hid (((Upd.refl (fun k => k = p) w).drewN q))
      generalize w.drewN q = wq at HPQ HUQ c0' c1' c2' fz1' fz2' hpl' ⊢
      go_wp2
      go_ret
      rw [HR.out]
      exact ⟨rfl, HPQ.out.broken, HUQ.out.setCell (p := ⟨p, 2, none⟩) (fun _ => rfl) _⟩
    · rw [if_neg (by omega)] at HR
      have h2' : ¬ (9223372036854775807 : Int) < (n : Int) := by omega
      have hnw : IntKind.i64.wrap (n : Int) = (n : Int) := by rw [IntKind.wrap_i64]; omega
      go_enter Tryz.func74, Tryz.ntmps74
      go_wp2_with fail
      go_quiet ((go_at_call 135; exact Calls.quiet_of_same (HRU.out _)))
      revert nq
      intro q
      have HPQ := hid (show RdAt (w.drewN q) p (.slice g N c) ⟨at0, bad0⟩ from HPP.out)
      obtain ⟨⟨c0', c1', c2'⟩, ⟨fz1', fz2'⟩, hpl'⟩ := HPQ.out.cells
      have HUQ := hid (((Upd.refl (fun k => k = p) w).drewN q))
      generalize w.drewN q = wq at HPQ HUQ c0' c1' c2' fz1' fz2' hpl' ⊢
      go_wp2
      go_ret
      rw [HR.out]
      exact ⟨rfl, HPQ.out.moved a2, HUQ.out.setCell (p := ⟨p, 1, none⟩) (fun _ => rfl) _⟩
  · rw [if_pos (.inl h1)] at HR
    have h1' : (e2 != 0) = true := by simpa using h1
    clear h1
    go_enter Tryz.func74, Tryz.ntmps74
    go_wp2_with fail
    go_quiet ((go_at_call 135; exact Calls.quiet_of_same (HRU.out _)))
    revert nq
    intro q
    have HPQ := hid (show RdAt (w.drewN q) p (.slice g N c) ⟨at0, bad0⟩ from HPP.out)
    obtain ⟨⟨c0', c1', c2'⟩, ⟨fz1', fz2'⟩, hpl'⟩ := HPQ.out.cells
    have HUQ := hid (((Upd.refl (fun k => k = p) w).drewN q))
    generalize w.drewN q = wq at HPQ HUQ c0' c1' c2' fz1' fz2' hpl' ⊢
    go_wp2
    go_ret
    rw [HR.out]
    exact ⟨rfl, HPQ.out.broken, HUQ.out.setCell (p := ⟨p, 2, none⟩) (fun _ => rfl) _⟩

set_option maxRecDepth 100000 in
set_option maxHeartbeats 3200000 in
theorem rbytes_any {w : World} {p c : Nat} {g : Option Addr} {b : List UInt8} {s : RdA} {most : Nat} (hp : RdAt w p (.slice g b.length c) s) (hb : BAt w (.slice g b.length c) b) (hs : s.at' ≤ b.length) (hl : b.length ≤ 140737488351232) (hm : most ≤ 140737488351232) :
    Calls Tryz.prog 75 #[.pointer (some ⟨p, 0, none⟩), .int .i64 most] w fun e w' => ∃ v', e = .returned v' ∧ RdAt w' p (.slice g b.length c) (rdB b most s).2 ∧ Upd (fun k => k = p) w w' ∧ DataIs w' v' (rdB b most s).1 ∧ ∀ k, v'.ownBlock = some k → w.heap.size ≤ k := by
  have HPP := hid hp
  have HBB := hid hb
  have HRU := hid (readBytes_any (hb.keep (Upd.refl (fun _ => False) w).drew) hs hl hm)
  have HR := hid (show rdB b most s = if (readB b s.at' most).2.2 ≠ 0 then (([] : List UInt8), RdA.mk s.at' true) else ((readB b s.at' most).1, RdA.mk (readB b s.at' most).2.1 s.bad) from rfl)
  obtain ⟨⟨c0, c1, c2⟩, ⟨fz1, fz2⟩, hpl⟩ := hp.cells
  obtain ⟨at0, bad0⟩ := s
  simp only at c1 c2 hs HRU HR HPP hpl c0
  obtain ⟨R, hR⟩ : ∃ R, R = readB b at0 most := ⟨_, rfl⟩
  rw [← hR] at HRU HR
  clear hR hp hb
  obtain ⟨n, a2, e2⟩ := R
  simp only at HRU HR
  obtain ⟨N, hN⟩ : ∃ N, N = b.length := ⟨_, rfl⟩
  rw [← hN] at c0 HRU hs HPP hl ⊢
  have hnl : ¬ (N : Int) < (at0 : Int) := by omega
  have hmin : min (at0 : Int) (N : Int) = (at0 : Int) := by omega
  clear hN
  by_cases h1 : e2 = 0
  · subst h1
    rw [if_neg (by simp)] at HR
    go_enter Tryz.func75, Tryz.ntmps75
    go_wp2_with fail
    have hcur := hid ((Upd.refl (fun _ => False) w).drew)
    go_region_held3 (fun V => V.cell? ⟨p, 0, none⟩ = some (.slice g N c) ∧ V.cell? ⟨p, 1, none⟩ = some (.int .i64 (at0 : Int)))
      (first
        | (exact ⟨hcur.out.cell hpl c0, hcur.out.cell hpl c1⟩)
        | go_keep)
      (first
        | (go_at_call 136; refine HRU.out.mono ?_; rintro e W1 ⟨v1, rfl, hn⟩; have hcur := hid ((Upd.refl (fun _ => False) w).drew.trans hn.upd (fun _ _ e => e)))
        | fail)
    all_goals
      have HUP := hid ((Upd.refl (fun _ => False) w).drew.trans hn.upd (fun _ _ e => e))
      have HPQ := hid (HPP.out.keep HUP.out)
      obtain ⟨⟨c0', c1', c2'⟩, ⟨fz1', fz2'⟩, hpl'⟩ := HPQ.out.cells
      have HUQ := hid (HUP.out.mono (T := fun k => k = p) (fun _ _ e => e.elim))
      have HN := hid hn
      have HSP := hid (show ∀ k, v1.ownBlock = some k → k ≠ p from fun k e => by have h1 : w.heap.size ≤ k := hn.new k e; omega)
      clear hn hcur
      go_wp2
      go_ret
      rw [HR.out]
      exact ⟨_, rfl, HPQ.out.moved a2, HUQ.out.setCell (p := ⟨p, 1, none⟩) (fun _ => rfl) _, HN.out.data.upd (Upd.cell_only W1 p 1 _) (fun k e => HSP.out k e), HN.out.new⟩
  · rw [if_pos h1] at HR
    have h1' : (e2 != 0) = true := by simpa using h1
    clear h1
    go_enter Tryz.func75, Tryz.ntmps75
    go_wp2_with fail
    have hcur := hid ((Upd.refl (fun _ => False) w).drew)
    go_region_held3 (fun V => V.cell? ⟨p, 0, none⟩ = some (.slice g N c) ∧ V.cell? ⟨p, 1, none⟩ = some (.int .i64 (at0 : Int)))
      (first
        | (exact ⟨hcur.out.cell hpl c0, hcur.out.cell hpl c1⟩)
        | go_keep)
      (first
        | (go_at_call 136; refine HRU.out.mono ?_; rintro e W1 ⟨v1, rfl, hn⟩; have hcur := hid ((Upd.refl (fun _ => False) w).drew.trans hn.upd (fun _ _ e => e)))
        | fail)
    all_goals
      have HUP := hid ((Upd.refl (fun _ => False) w).drew.trans hn.upd (fun _ _ e => e))
      have HPQ := hid (HPP.out.keep HUP.out)
      obtain ⟨⟨c0', c1', c2'⟩, ⟨fz1', fz2'⟩, hpl'⟩ := HPQ.out.cells
      have HUQ := hid (HUP.out.mono (T := fun k => k = p) (fun _ _ e => e.elim))
      have HN := hid hn
      have HSP := hid (show ∀ k, v1.ownBlock = some k → k ≠ p from fun k e => by have h1 : w.heap.size ≤ k := hn.new k e; omega)
      clear hn hcur
      go_wp2
      go_ret
      rw [HR.out]
      exact ⟨_, rfl, HPQ.out.broken, HUQ.out.setCell (p := ⟨p, 2, none⟩) (fun _ => rfl) _, .inl ⟨rfl, rfl⟩, fun k e => by cases e⟩

end Go.Proofs.YtgaidmohdhaonaaGreatDoor
