/-
  stratalaw10.ManifestStroke, walked.
-/
import Derived.Test.YtgaidmohdhaonaaGreatDoorSB
import Derived.StillTailTactics
namespace Go.Proofs.YtgaidmohdhaonaaGreatDoor
set_option linter.unusedVariables false
set_option linter.unusedSimpArgs false
set_option linter.unnecessarySimpa false
set_option linter.unusedSectionVars false
open Go Go.RowKit

set_option maxRecDepth 100000 in
set_option maxHeartbeats 12800000 in
theorem manifestStroke_walk {w : World} {vv va vc : Value} {l : List VerA} {arms cuts : List Int} (hT : TabIn w) (hv : VersAt w vv l) (hin : ∀ x ∈ l, VerIn x) (ha : IntsAt w va arms) (hai : ∀ n ∈ arms, I64 n) (hao : ∀ a n c, va = .slice (some a) n c → 0 < n → a.block < w.heap.size) (hc : IntsAt w vc cuts) (hci : ∀ n ∈ cuts, I64 n) (hout : ∀ a n c, vc = .slice (some a) n c → 0 < n → a.block < w.heap.size) :
    Calls Tryz.prog 6 #[vv, va, vc] w fun e w' => e = .returned (.bool true) ∧ Upd (fun _ => False) w w' := by
  have HT := hid hT; have HIN := hid hin; have HAI := hid hai
  obtain ⟨vo, vcap, rfl, hv1, hv2, hv3⟩ := hv
  obtain ⟨ao, acap, rfl, ha1, ha2⟩ := ha
  obtain ⟨co, ccap, rfl, hc1, hc2⟩ := hc
  obtain ⟨LV, hLV⟩ : ∃ n, n = l.length := ⟨_, rfl⟩
  obtain ⟨LA, hLA⟩ : ∃ n, n = arms.length := ⟨_, rfl⟩
  obtain ⟨LC, hLC⟩ : ∃ n, n = cuts.length := ⟨_, rfl⟩
  rw [← hLV, ← hLA, ← hLC]
  rw [← hLV] at hv1
  have HV3 := hid hv3; have HA2 := hid ha2; have HC2 := hid hc2
  have HLV := hid hLV; have HLA := hid hLA; have HLC := hid hLC
  have HNW := hid (new_yes w 1048576 (by omega))
  clear hT hin hai hv3 ha2 hc2 hLV hLA hLC hout ha1 hc1 hao hci
  go_enter Tryz.func6, Tryz.ntmps6
  go_wp2_with fail
  refine HNW.out.mono ?_
  rintro e w1 ⟨s, rfl, hs, habs, hblk, hu⟩
  have HDB1 := hid (DB.start hs hblk hu)
  have HABS := hid habs
  obtain ⟨p, hp⟩ : ∃ p, p = s.p := ⟨_, rfl⟩
  rw [← hp] at HDB1 ⊢
  clear hs habs hblk hu hp HNW
  go_wp2_with fail
  refine (lawNum_any _ _ (by omega)).mono ?_
  rintro e W ⟨rfl, hww⟩
  obtain rfl := hww.symm
  go_wp2_with fail
  refine (started_any (HDB1.out.tab HT.out)).mono ?_
  rintro e w2 ⟨rfl, hu2⟩
  have HDB2 := hid (HDB1.out.quiet hu2)
  clear hu2 HDB1
  go_upto_region 6 with fail
  have HDB3 := hid (HDB2.out.push (.cells (verC 0 0 0 0 0 (.slice none 0 0) (.slice none 0 0)) 25))
  obtain ⟨pn, hpn⟩ : ∃ p, p = w2.heap.size := ⟨_, rfl⟩
  rw [← hpn] at HDB3 ⊢
  generalize w2.alloc (.cells #[.int .i64 0, .int .i64 0, .int .i64 0, .int .i64 0, .int .i64 0, .slice none 0 0, .slice none 0 0] 25) = w3 at HDB3 ⊢
  clear hpn HDB2
  have HST0 := hid (show StS w w3 p pn 0 s none none 0 none 0 from ⟨HDB3.out, by rw [HABS.out]; exact Stood.start, by have h := congrArg DiskA.armed HABS.out; exact h, by decide, by decide, zeroAtD w⟩)
  clear HDB3 HABS
  go_wp2
  go_loopw [11, 10] (fun iv bv wr => ∃ n : Nat, iv = .int .i64 n ∧ n ≤ LV ∧ n ≤ 12 ∧ ∃ (s : DS) (m : Option VerA) (a1 : Option Addr) (c1 : Nat) (a2 : Option Addr) (c2 : Nat), bv = .bool m.isSome ∧ StS w wr p pn n s m a1 c1 a2 c2) (fun iv _ _ => 12 - (intOf iv).toNat)
  case atStart => exact ⟨0, rfl, by omega, by omega, _, none, none, 0, none, 0, rfl, HST0.out⟩
  case round =>
    obtain ⟨n, rfl, hn, hn12, s2, m, a1, c1, a2, c2, hbv, hst⟩ := hrel
    have HST := hid hst
    obtain ⟨wo, rfl⟩ : ∃ wo, wo = wr := ⟨_, rfl⟩
    obtain ⟨mb, hmb⟩ : ∃ mb, mb = m.isSome := ⟨_, rfl⟩
    rw [← hmb] at hbv
    subst hbv
    have HMB := hid hmb
    clear hst hmb
    go_upto_region 7 with fail
    go_cut [41] (fun bv wx => bv = .bool (decide (n < LV) && decide (n < 12)) ∧ wx = wo)
    case first =>
      by_cases h1 : (n : Int) < (LV : Int)
      · have hkd : decide (n < LV) = true := by simp; omega
        by_cases h2 : (n : Int) < 12
        · have hkd2 : decide (n < 12) = true := by simp; omega
          go_wp2
          go_meet
          case rel => exact ⟨by rw [hkd, hkd2]; rfl, rfl⟩
        · have hkd2 : decide (n < 12) = false := by simp; omega
          go_wp2
          go_meet
          case rel => exact ⟨by rw [hkd, hkd2]; rfl, rfl⟩
      · have hkd : decide (n < LV) = false := by simp; omega
        go_wp2
        go_meet
        case rel => exact ⟨by rw [hkd]; rfl, rfl⟩
    case rest =>
      obtain ⟨hv41, hww⟩ := hcut
      obtain rfl := hww.symm
      by_cases hgo : n < LV ∧ n < 12
      · obtain ⟨hg1, hg2⟩ := hgo
        rw [decide_eq_true hg1, decide_eq_true hg2] at hv41
        simp only [Bool.and_self] at hv41
        subst hv41
        have hli : n < l.length := by rw [← HLV.out]; exact hg1
        obtain ⟨vb, vof, s1, d1, s9, d9, hvo, hvb, e0, e1, e2, e3, e4, e5, e6, hb1, hr1⟩ := HV3.out n hli
        have hcg := fun {j : Nat} {u : Value} (h : w.cell? ⟨vb, j, none⟩ = some u) => HST.out.db.upd.cell hvb h
        replace e0 := hcg e0; replace e1 := hcg e1; replace e2 := hcg e2; replace e3 := hcg e3; replace e4 := hcg e4; replace e5 := hcg e5; replace e6 := hcg e6
        have hvbl : vb < wo.heap.size := Nat.lt_of_lt_of_le hvb HST.out.db.upd.size
        obtain ⟨x, hx⟩ : ∃ x, x = l[n] := ⟨_, rfl⟩
        rw [← hx] at e0 e1 e2 e3 e4 e5 e6 hb1 hr1
        have HXIN := hid (show VerIn x from by rw [hx]; exact HIN.out _ (List.getElem_mem hli))
        have HVX := hid (show VerAt w (.agg #[.int .i64 x.gen, .int .i64 x.flushed, .int .i64 x.next, .int .i64 x.low, .int .i64 x.clock, .slice s1 x.state.length d1, .slice s9 x.runs.length d9]) x from ⟨s1, d1, s9, d9, rfl, hb1, hr1⟩)
        have HVXW := hid (HVX.out.keep HST.out.db.upd)
        obtain ⟨m1, hm1⟩ : ∃ m, m = x.state.length := ⟨_, rfl⟩
        obtain ⟨m2, hm2⟩ : ∃ m, m = x.runs.length := ⟨_, rfl⟩
        rw [← hm1] at e5
        rw [← hm2] at e6
        rw [← hm1, ← hm2] at HVX HVXW
        subst hvo
        obtain ⟨g, hg⟩ : ∃ g, g = (nowOf m).gen := ⟨_, rfl⟩
        have hgr : 0 ≤ g ∧ g ≤ 12 := by
          rw [hg, nowOf_gen]
          have h1 := HST.out.gen; have h2 := HST.out.gen0
          omega
        have hrow := HST.out.db.row (List.mem_singleton.2 rfl)
        obtain ⟨⟨z0, -⟩, -, hpnl⟩ := verCells hrow
        rw [← hg] at z0
        have HG := hid hg; have HGR := hid hgr
        have hgi : IntKind.i64.wrap (g + 1) = g + 1 := by rw [IntKind.wrap_i64]; omega
        have hLKX := hid (show ∀ r ∈ x.runs, r.first.length ≤ 140737488351232 ∧ r.last.length ≤ 140737488351232 from fun r hr => (HXIN.out.2.2.2.2.2.2.2 r hr).2.2.2.2.2.2)
        have HFOL := hid (fun (W : World) (hW : Upd (fun _ => False) wo W) => follow_any (w := W) (g := g + 1) (HVXW.out.keep hW) hLKX.out (by omega))
        have hni : (n : Int) < (LV : Int) := by omega
        clear hx hb1 hr1 hcg hm1 hm2 hg hgr hrow hvb hli
        go_upto_region 9 with fail
        go_cut [12] (fun tv wx => ∃ (pv : Nat) (y : VerA) (t1 t2 : Option Addr) (f1 f2 : Nat), tv = .pointer (some ⟨pv, 0, none⟩) ∧ wx.heap[pv]? = some (.cells #[.int .i64 y.gen, .int .i64 y.flushed, .int .i64 y.next, .int .i64 y.low, .int .i64 y.clock, .slice t1 y.state.length f1, .slice t2 y.runs.length f2] 25 (0, 0)) ∧ Upd (fun _ => False) wo wx ∧ wo.heap.size ≤ pv ∧ y = followA x (g + 1) ∧ VerAt w (.agg #[.int .i64 y.gen, .int .i64 y.flushed, .int .i64 y.next, .int .i64 y.low, .int .i64 y.clock, .slice t1 y.state.length f1, .slice t2 y.runs.length f2]) y)
        case first =>
          have hHeld : (fun V => V.cell? ⟨vb, vof + n * 7, none⟩ = some (.int .i64 x.gen) ∧ V.cell? ⟨vb, vof + n * 7 + 1, none⟩ = some (.int .i64 x.flushed) ∧ V.cell? ⟨vb, vof + n * 7 + 2, none⟩ = some (.int .i64 x.next) ∧ V.cell? ⟨vb, vof + n * 7 + 3, none⟩ = some (.int .i64 x.low) ∧ V.cell? ⟨vb, vof + n * 7 + 4, none⟩ = some (.int .i64 x.clock) ∧ V.cell? ⟨vb, vof + n * 7 + 5, none⟩ = some (.slice s1 m1 d1) ∧ V.cell? ⟨vb, vof + n * 7 + 6, none⟩ = some (.slice s9 m2 d9) ∧ V.cell? ⟨pn, 0, none⟩ = some (.int .i64 g)) wo.drew := ⟨e0, e1, e2, e3, e4, e5, e6, z0⟩
          clear e0 e1 e2 e3 e4 e5 e6 z0
          refine wp_region_l (fun V => V.cell? ⟨vb, vof + n * 7, none⟩ = some (.int .i64 x.gen) ∧ V.cell? ⟨vb, vof + n * 7 + 1, none⟩ = some (.int .i64 x.flushed) ∧ V.cell? ⟨vb, vof + n * 7 + 2, none⟩ = some (.int .i64 x.next) ∧ V.cell? ⟨vb, vof + n * 7 + 3, none⟩ = some (.int .i64 x.low) ∧ V.cell? ⟨vb, vof + n * 7 + 4, none⟩ = some (.int .i64 x.clock) ∧ V.cell? ⟨vb, vof + n * 7 + 5, none⟩ = some (.slice s1 m1 d1) ∧ V.cell? ⟨vb, vof + n * 7 + 6, none⟩ = some (.slice s9 m2 d9) ∧ V.cell? ⟨pn, 0, none⟩ = some (.int .i64 g)) 9 10 rfl (by kernel_rfl) ?_
          refine' wpAnyL_take 0 [2, 3, 7, 9] (v := _) rfl (by kernel_rfl) (by kernel_rfl) (by kernel_rfl) (by kernel_rfl) (by simp) (fun _ _ _ h => h) (Or.inl ⟨by rfl, ?hy0⟩) (by assumption) ?rest0
          case hy0 => (intro wS hSw; skip; go_simp; (try with_reducible rfl))
          (try simp only [Act.put, List.setIfInBounds_toArray, List.set_cons_zero, List.set_cons_succ])
          refine' wpAnyL_take 1 [2, 3, 7, 9] (v := _) rfl (by kernel_rfl) (by kernel_rfl) (by kernel_rfl) (by kernel_rfl) (by simp) (fun _ _ _ h => h) (Or.inl ⟨by rfl, ?hy1⟩) (by assumption) ?rest1
          case hy1 => (intro wS hSw; skip; go_simp; (try with_reducible rfl))
          (try simp only [Act.put, List.setIfInBounds_toArray, List.set_cons_zero, List.set_cons_succ])
          refine' wpAnyL_take 2 [3, 7, 9] (v := _) rfl (by kernel_rfl) (by kernel_rfl) (by kernel_rfl) (by kernel_rfl) (by simp) (fun _ _ _ h => h) (Or.inl ⟨by rfl, ?hy2⟩) (by assumption) ?rest2
          case hy2 => (intro wS hSw; skip; go_simp; (try with_reducible rfl))
          (try simp only [Act.put, List.setIfInBounds_toArray, List.set_cons_zero, List.set_cons_succ])
          refine' wpAnyL_take 3 [7, 9] (v := _) rfl (by kernel_rfl) (by kernel_rfl) (by kernel_rfl) (by kernel_rfl) (by simp) (fun _ _ _ h => h) (Or.inl ⟨by rfl, ?hy3⟩) (by assumption) ?rest3
          case hy3 => (intro wS hSw; obtain ⟨r0, r1, r2, r3, r4, r5, r6, r7⟩ := hSw; go_simp; (try with_reducible rfl))
          (try simp only [Act.put, List.setIfInBounds_toArray, List.set_cons_zero, List.set_cons_succ])
          refine' wpAnyL_take 4 [5, 6, 7, 9] (v := _) rfl (by kernel_rfl) (by kernel_rfl) (by kernel_rfl) (by kernel_rfl) (by simp) (fun _ _ _ h => h) (Or.inl ⟨by rfl, ?hy4⟩) (by assumption) ?rest4
          case hy4 => (intro wS hSw; skip; go_simp; (try with_reducible rfl))
          (try simp only [Act.put, List.setIfInBounds_toArray, List.set_cons_zero, List.set_cons_succ])
          refine' wpAnyL_take 5 [6, 7, 9] (v := _) rfl (by kernel_rfl) (by kernel_rfl) (by kernel_rfl) (by kernel_rfl) (by simp) (fun _ _ _ h => h) (Or.inl ⟨by rfl, ?hy5⟩) (by assumption) ?rest5
          case hy5 => (intro wS hSw; obtain ⟨r0, r1, r2, r3, r4, r5, r6, r7⟩ := hSw; go_simp; (try with_reducible rfl))
          (try simp only [Act.put, List.setIfInBounds_toArray, List.set_cons_zero, List.set_cons_succ])
          refine' wpAnyL_take 6 [7, 9] (v := _) rfl (by kernel_rfl) (by kernel_rfl) (by kernel_rfl) (by kernel_rfl) (by simp) (fun _ _ _ h => h) (Or.inl ⟨by rfl, ?hy6⟩) (by assumption) ?rest6
          case hy6 => (intro wS hSw; skip; go_simp; (try with_reducible rfl))
          (try simp only [Act.put, List.setIfInBounds_toArray, List.set_cons_zero, List.set_cons_succ])
          refine wpAnyL_two 7 8 rfl rfl (by kernel_rfl) (fun K hK => ?_) (fun K hK => ?_)
          · go_simp
            go_at_call 15
            refine (HFOL.out _ (Upd.refl (fun _ => False) wo).drew).mono ?_
            rintro e w5 ⟨v5, rfl, hva5, hu5⟩
            have HV5 := hid (hva5 w HVX.out)
            obtain ⟨y, hy⟩ : ∃ y, y = followA x (g + 1) := ⟨_, rfl⟩
            rw [← hy] at HV5
            have HY := hid hy
            clear hy
            obtain ⟨t1, f1, t2, f2, hv5e, -, -⟩ := HV5.out
            subst hv5e
            have HU5 := hid (show Upd (fun _ => False) wo w5 from ((Upd.refl (fun _ => False) wo).drew).trans hu5 (fun _ _ e => e))
            have hHeld5 : (fun V => V.cell? ⟨vb, vof + n * 7, none⟩ = some (.int .i64 x.gen) ∧ V.cell? ⟨vb, vof + n * 7 + 1, none⟩ = some (.int .i64 x.flushed) ∧ V.cell? ⟨vb, vof + n * 7 + 2, none⟩ = some (.int .i64 x.next) ∧ V.cell? ⟨vb, vof + n * 7 + 3, none⟩ = some (.int .i64 x.low) ∧ V.cell? ⟨vb, vof + n * 7 + 4, none⟩ = some (.int .i64 x.clock) ∧ V.cell? ⟨vb, vof + n * 7 + 5, none⟩ = some (.slice s1 m1 d1) ∧ V.cell? ⟨vb, vof + n * 7 + 6, none⟩ = some (.slice s9 m2 d9) ∧ V.cell? ⟨pn, 0, none⟩ = some (.int .i64 g)) w5 := ⟨hu5.cell (Nat.lt_of_lt_of_le hvbl ((Upd.refl (fun _ => False) wo).drew).size) hHeld.1, hu5.cell (Nat.lt_of_lt_of_le hvbl ((Upd.refl (fun _ => False) wo).drew).size) hHeld.2.1, hu5.cell (Nat.lt_of_lt_of_le hvbl ((Upd.refl (fun _ => False) wo).drew).size) hHeld.2.2.1, hu5.cell (Nat.lt_of_lt_of_le hvbl ((Upd.refl (fun _ => False) wo).drew).size) hHeld.2.2.2.1, hu5.cell (Nat.lt_of_lt_of_le hvbl ((Upd.refl (fun _ => False) wo).drew).size) hHeld.2.2.2.2.1, hu5.cell (Nat.lt_of_lt_of_le hvbl ((Upd.refl (fun _ => False) wo).drew).size) hHeld.2.2.2.2.2.1, hu5.cell (Nat.lt_of_lt_of_le hvbl ((Upd.refl (fun _ => False) wo).drew).size) hHeld.2.2.2.2.2.2.1, hu5.cell (Nat.lt_of_lt_of_le hpnl ((Upd.refl (fun _ => False) wo).drew).size) hHeld.2.2.2.2.2.2.2⟩
            refine hK.out _ _ (fun _ => hHeld5) ?_
            clear hK K
            (try simp only [Act.put, List.setIfInBounds_toArray, List.set_cons_zero, List.set_cons_succ])
            refine wpAnyL_one 8 rfl (by kernel_rfl) (fun K hK => ?_)
            go_simp
            have hu6 := (Upd.refl (fun _ => False) w5).alloc (.cells (verC 0 0 0 0 0 (.slice none 0 0) (.slice none 0 0)) 25)
            refine hK.out _ _ (fun _ => ⟨hu6.cell (Nat.lt_of_lt_of_le hvbl (HU5.out).size) hHeld5.1, hu6.cell (Nat.lt_of_lt_of_le hvbl (HU5.out).size) hHeld5.2.1, hu6.cell (Nat.lt_of_lt_of_le hvbl (HU5.out).size) hHeld5.2.2.1, hu6.cell (Nat.lt_of_lt_of_le hvbl (HU5.out).size) hHeld5.2.2.2.1, hu6.cell (Nat.lt_of_lt_of_le hvbl (HU5.out).size) hHeld5.2.2.2.2.1, hu6.cell (Nat.lt_of_lt_of_le hvbl (HU5.out).size) hHeld5.2.2.2.2.2.1, hu6.cell (Nat.lt_of_lt_of_le hvbl (HU5.out).size) hHeld5.2.2.2.2.2.2.1, hu6.cell (Nat.lt_of_lt_of_le hpnl (HU5.out).size) hHeld5.2.2.2.2.2.2.2⟩) ?_
            clear hK K
            (try simp only [Act.put, List.setIfInBounds_toArray, List.set_cons_zero, List.set_cons_succ])
            obtain ⟨pz, hpzz⟩ : ∃ q, q = w5.heap.size := ⟨_, rfl⟩
            have hr6 := heap_alloc_new w5 (.cells (verC 0 0 0 0 0 (.slice none 0 0) (.slice none 0 0)) 25)
            rw [← hpzz] at hr6 ⊢
            have hpz : wo.heap.size ≤ pz := by rw [hpzz]; exact HU5.out.size
            have HU6 := hid (HU5.out.trans hu6 (fun _ _ e => e))
            generalize w5.alloc (.cells #[.int .i64 0, .int .i64 0, .int .i64 0, .int .i64 0, .int .i64 0, .slice none 0 0, .slice none 0 0] 25) = w6 at hr6 HU6 ⊢
            clear hpzz hu6 hu5 hHeld5 hHeld
            have hrowS := hr6
            obtain ⟨⟨h0, h1, h2, h3, h4, h5, h6⟩, ⟨f0, f1', f2', f3, f4, f5, f6⟩, hlS⟩ := verCells hrowS
            have HOUT := hid (And.intro (verOut_at hrowS y.gen y.flushed y.next y.low y.clock (.slice t1 y.state.length f1) (.slice t2 y.runs.length f2)) (verOut_upd HU6.out (p := pz) (fun e => by omega) y.gen y.flushed y.next y.low y.clock (.slice t1 y.state.length f1) (.slice t2 y.runs.length f2)))
            unfold verOut at HOUT
            clear hrowS
            refine wpAnyL_one 9 rfl (by kernel_rfl) (fun K hK => ?_)
            go_simp
            refine hK.out _ _ (fun h => absurd rfl h) ?_
            clear hK K
            (try simp only [Act.put, List.setIfInBounds_toArray, List.set_cons_zero, List.set_cons_succ])
            refine wpAnyL_done (by kernel_rfl) ?_ _
            go_wp2
            go_meet
            exact ⟨pz, y, t1, t2, f1, f2, rfl, HOUT.out.1, HOUT.out.2, hpz, HY.out, HV5.out⟩
          · go_simp
            have hu6 := ((Upd.refl (fun _ => False) wo).alloc (.cells (verC 0 0 0 0 0 (.slice none 0 0) (.slice none 0 0)) 25)).drew
            have hHeld6 : (fun V => V.cell? ⟨vb, vof + n * 7, none⟩ = some (.int .i64 x.gen) ∧ V.cell? ⟨vb, vof + n * 7 + 1, none⟩ = some (.int .i64 x.flushed) ∧ V.cell? ⟨vb, vof + n * 7 + 2, none⟩ = some (.int .i64 x.next) ∧ V.cell? ⟨vb, vof + n * 7 + 3, none⟩ = some (.int .i64 x.low) ∧ V.cell? ⟨vb, vof + n * 7 + 4, none⟩ = some (.int .i64 x.clock) ∧ V.cell? ⟨vb, vof + n * 7 + 5, none⟩ = some (.slice s1 m1 d1) ∧ V.cell? ⟨vb, vof + n * 7 + 6, none⟩ = some (.slice s9 m2 d9) ∧ V.cell? ⟨pn, 0, none⟩ = some (.int .i64 g)) ((wo.alloc (.cells (verC 0 0 0 0 0 (.slice none 0 0) (.slice none 0 0)) 25)).drew) := ⟨hu6.cell (Nat.lt_of_lt_of_le hvbl (Upd.refl (fun _ => False) wo).size) hHeld.1, hu6.cell (Nat.lt_of_lt_of_le hvbl (Upd.refl (fun _ => False) wo).size) hHeld.2.1, hu6.cell (Nat.lt_of_lt_of_le hvbl (Upd.refl (fun _ => False) wo).size) hHeld.2.2.1, hu6.cell (Nat.lt_of_lt_of_le hvbl (Upd.refl (fun _ => False) wo).size) hHeld.2.2.2.1, hu6.cell (Nat.lt_of_lt_of_le hvbl (Upd.refl (fun _ => False) wo).size) hHeld.2.2.2.2.1, hu6.cell (Nat.lt_of_lt_of_le hvbl (Upd.refl (fun _ => False) wo).size) hHeld.2.2.2.2.2.1, hu6.cell (Nat.lt_of_lt_of_le hvbl (Upd.refl (fun _ => False) wo).size) hHeld.2.2.2.2.2.2.1, hu6.cell (Nat.lt_of_lt_of_le hpnl (Upd.refl (fun _ => False) wo).size) hHeld.2.2.2.2.2.2.2⟩
            refine hK.out _ _ (fun _ => hHeld6) ?_
            clear hK K
            (try simp only [Act.put, List.setIfInBounds_toArray, List.set_cons_zero, List.set_cons_succ])
            have hr6 : (wo.alloc (.cells (verC 0 0 0 0 0 (.slice none 0 0) (.slice none 0 0)) 25)).drew.heap[wo.heap.size]? = some (.cells (verC 0 0 0 0 0 (.slice none 0 0) (.slice none 0 0)) 25 (0, 0)) := heap_alloc_new wo (.cells (verC 0 0 0 0 0 (.slice none 0 0) (.slice none 0 0)) 25)
            (try rw [show wo.drew.alloc (.cells #[.int .i64 0, .int .i64 0, .int .i64 0, .int .i64 0, .int .i64 0, .slice none 0 0, .slice none 0 0] 25) = (wo.alloc (.cells #[.int .i64 0, .int .i64 0, .int .i64 0, .int .i64 0, .int .i64 0, .slice none 0 0, .slice none 0 0] 25)).drew from rfl])
            (try rw [show wo.drew.heap.size = wo.heap.size from rfl])
            obtain ⟨pz, hpzz⟩ : ∃ q, q = wo.heap.size := ⟨_, rfl⟩
            rw [← hpzz] at hr6
            (try rw [← hpzz])
            have hpz : wo.heap.size ≤ pz := by rw [hpzz]; exact Nat.le_refl _
            have HU6 := hid hu6
            generalize (wo.alloc (.cells #[.int .i64 0, .int .i64 0, .int .i64 0, .int .i64 0, .int .i64 0, .slice none 0 0, .slice none 0 0] 25)).drew = w6 at hr6 HU6 hHeld6 ⊢
            clear hpzz hu6 hHeld
            refine wpAnyL_one 7 rfl (by kernel_rfl) (fun K hK => ?_)
            go_simp
            go_at_call 15
            refine (HFOL.out _ HU6.out).mono ?_
            rintro e w5 ⟨v5, rfl, hva5, hu5⟩
            have HV5 := hid (hva5 w HVX.out)
            obtain ⟨y, hy⟩ : ∃ y, y = followA x (g + 1) := ⟨_, rfl⟩
            rw [← hy] at HV5
            have HY := hid hy
            clear hy
            obtain ⟨t1, f1, t2, f2, hv5e, -, -⟩ := HV5.out
            subst hv5e
            have HU5 := hid (show Upd (fun _ => False) wo w5 from (HU6.out).trans hu5 (fun _ _ e => e))
            have hHeld5 : (fun V => V.cell? ⟨vb, vof + n * 7, none⟩ = some (.int .i64 x.gen) ∧ V.cell? ⟨vb, vof + n * 7 + 1, none⟩ = some (.int .i64 x.flushed) ∧ V.cell? ⟨vb, vof + n * 7 + 2, none⟩ = some (.int .i64 x.next) ∧ V.cell? ⟨vb, vof + n * 7 + 3, none⟩ = some (.int .i64 x.low) ∧ V.cell? ⟨vb, vof + n * 7 + 4, none⟩ = some (.int .i64 x.clock) ∧ V.cell? ⟨vb, vof + n * 7 + 5, none⟩ = some (.slice s1 m1 d1) ∧ V.cell? ⟨vb, vof + n * 7 + 6, none⟩ = some (.slice s9 m2 d9) ∧ V.cell? ⟨pn, 0, none⟩ = some (.int .i64 g)) w5 := ⟨hu5.cell (Nat.lt_of_lt_of_le hvbl (HU6.out).size) hHeld6.1, hu5.cell (Nat.lt_of_lt_of_le hvbl (HU6.out).size) hHeld6.2.1, hu5.cell (Nat.lt_of_lt_of_le hvbl (HU6.out).size) hHeld6.2.2.1, hu5.cell (Nat.lt_of_lt_of_le hvbl (HU6.out).size) hHeld6.2.2.2.1, hu5.cell (Nat.lt_of_lt_of_le hvbl (HU6.out).size) hHeld6.2.2.2.2.1, hu5.cell (Nat.lt_of_lt_of_le hvbl (HU6.out).size) hHeld6.2.2.2.2.2.1, hu5.cell (Nat.lt_of_lt_of_le hvbl (HU6.out).size) hHeld6.2.2.2.2.2.2.1, hu5.cell (Nat.lt_of_lt_of_le hpnl (HU6.out).size) hHeld6.2.2.2.2.2.2.2⟩
            refine hK.out _ _ (fun _ => hHeld5) ?_
            clear hK K
            (try simp only [Act.put, List.setIfInBounds_toArray, List.set_cons_zero, List.set_cons_succ])
            have hr7 := hu5.get hr6 (fun e => e)
            clear hu5 hHeld5 hHeld6 hr6
            have hrowS := hr7
            obtain ⟨⟨h0, h1, h2, h3, h4, h5, h6⟩, ⟨f0, f1', f2', f3, f4, f5, f6⟩, hlS⟩ := verCells hrowS
            have HOUT := hid (And.intro (verOut_at hrowS y.gen y.flushed y.next y.low y.clock (.slice t1 y.state.length f1) (.slice t2 y.runs.length f2)) (verOut_upd HU5.out (p := pz) (fun e => by omega) y.gen y.flushed y.next y.low y.clock (.slice t1 y.state.length f1) (.slice t2 y.runs.length f2)))
            unfold verOut at HOUT
            clear hrowS
            refine wpAnyL_one 9 rfl (by kernel_rfl) (fun K hK => ?_)
            go_simp
            refine hK.out _ _ (fun h => absurd rfl h) ?_
            clear hK K
            (try simp only [Act.put, List.setIfInBounds_toArray, List.set_cons_zero, List.set_cons_succ])
            refine wpAnyL_done (by kernel_rfl) ?_ _
            go_wp2
            go_meet
            exact ⟨pz, y, t1, t2, f1, f2, rfl, HOUT.out.1, HOUT.out.2, hpz, HY.out, HV5.out⟩
        case rest =>
          obtain ⟨pv, y, t1, t2, f1, f2, htv, hpvr, hu5, hpvl, hy, hvy⟩ := hcut
          subst htv
          have HY := hid hy
          clear hy
          have HOKY := hid (show okA y = true from by rw [HY.out]; exact followA_ok (by have := HGR.out; omega))
          have HCY := hid (show ∀ r ∈ y.runs, r.count ≤ 9223372036854775807 from by rw [HY.out]; exact followA_count (fun r hr => (HXIN.out.2.2.2.2.2.2.2 r hr).2.1.2))
          have HGY := hid (show y.gen = (m.map (·.gen)).getD 0 + 1 from by rw [HY.out, followA_gen, HG.out, nowOf_gen])
          have HLKY := hid (show ∀ r ∈ y.runs, r.first.length ≤ 140737488351232 ∧ r.last.length ≤ 140737488351232 from fun r hr => by have := (body_len HOKY.out).2 r hr; omega)
          have HDB5 := hid ((HST.out.db.quiet hu5).add hpvr (Nat.le_trans HST.out.db.upd.size hpvl) (HST.out.db.fresh hpvl))
          have HVY := hid hvy
          obtain ⟨y1, hy1⟩ : ∃ k, k = y.gen := ⟨_, rfl⟩
          obtain ⟨y2, hy2⟩ : ∃ k, k = y.flushed := ⟨_, rfl⟩
          obtain ⟨y3, hy3⟩ : ∃ k, k = y.next := ⟨_, rfl⟩
          obtain ⟨y4, hy4⟩ : ∃ k, k = y.low := ⟨_, rfl⟩
          obtain ⟨y5, hy5⟩ : ∃ k, k = y.clock := ⟨_, rfl⟩
          obtain ⟨k1, hk1⟩ : ∃ k, k = y.state.length := ⟨_, rfl⟩
          obtain ⟨k2, hk2⟩ : ∃ k, k = y.runs.length := ⟨_, rfl⟩
          rw [← hy1, ← hy2, ← hy3, ← hy4, ← hy5, ← hk1, ← hk2] at HDB5 HVY
          have HYS := hid (show y1 = y.gen ∧ y2 = y.flushed ∧ y3 = y.next ∧ y4 = y.low ∧ y5 = y.clock ∧ k1 = y.state.length ∧ k2 = y.runs.length from ⟨hy1, hy2, hy3, hy4, hy5, hk1, hk2⟩)
          clear hy1 hy2 hy3 hy4 hy5 hk1 hk2 hvy hpvr hu5 hpvl
          have HSTD := hid HST.out.st
          have HARM := hid HST.out.arm
          have HNOW := hid HST.out.now
          go_upto_if 55 with fail
          go_cut [] (fun wx => ∃ (s3 : DS) (k : Int), 0 ≤ k ∧ s3.abs = { s2.abs with armed := k } ∧ DB w wx p s3 [(pv, .cells #[.int .i64 y1, .int .i64 y2, .int .i64 y3, .int .i64 y4, .int .i64 y5, .slice t1 k1 f1, .slice t2 k2 f2] 25 (0, 0)), (pn, .cells #[.int .i64 (nowOf m).gen, .int .i64 (nowOf m).flushed, .int .i64 (nowOf m).next, .int .i64 (nowOf m).low, .int .i64 (nowOf m).clock, .slice a1 (nowOf m).state.length c1, .slice a2 (nowOf m).runs.length c2] 25 (0, 0))])
          case first =>
            by_cases hla : (n : Int) < (LA : Int)
            · have hlaa : n < arms.length := by have := HLA.out; omega
              obtain ⟨aa, rfl, haspot, hcells⟩ := HA2.out n hlaa
              have hca := hcells n hlaa
              obtain ⟨an, han⟩ : ∃ an, an = arms[n] := ⟨_, rfl⟩
              rw [← han] at hca
              have HAN := hid (show I64 an from by rw [han]; exact HAI.out _ (List.getElem_mem hlaa))
              obtain ⟨ab, aoff, asp⟩ := aa
              obtain rfl : asp = none := haspot
              have hab := block_lt hca
              have hca5 := HDB5.out.upd.cell hab hca
              have hab5 : ab < wc.heap.size := Nat.lt_of_lt_of_le hab HDB5.out.upd.size
              have HARMC := hid (arm_any HDB5.out.bes.ins an (by have := HAN.out; exact this.2))
              rw [HDB5.out.bes.pp] at HARMC
              clear hlaa hcells hca han hab
              go_wp2_with fail
              refine HARMC.out.mono ?_
              rintro e w6 ⟨rfl, hst6⟩
              have hdn : s2.down = false := by have h := HSTD.out.down; exact h
              rw [if_neg (by rw [hdn]; decide)] at hst6
              have HST6 := hid hst6
              clear hst6 hdn HARMC
              go_wp2
              go_meet
              exact ⟨_, max an 0, by omega, rfl, HDB5.out.step HST6.out⟩
            · go_wp2
              go_meet
              exact ⟨s2, 0, by decide, by have h := HARM.out; show s2.abs = { s2.abs with armed := 0 }; rw [show (0 : Int) = s2.abs.armed from h.symm], HDB5.out⟩
          case rest =>
            obtain ⟨s3, k, hk0, habs3, hdb3⟩ := hcut
            have HDB6 := hid hdb3
            have HLEFT := hid (HSTD.out.left HOKY.out HCY.out HGY.out hk0)
            rw [← habs3] at HLEFT
            have HSW := hid (swap_any (v := .agg #[.int .i64 y1, .int .i64 y2, .int .i64 y3, .int .i64 y4, .int .i64 y5, .slice t1 k1 f1, .slice t2 k2 f2]) (x := y) (hdb3.tab HT.out) hdb3.bes.ins (hdb3.zero HT.out) xB (by decide) (HVY.out.keep hdb3.upd) HLKY.out)
            rw [hdb3.bes.pp] at HSW
            obtain ⟨R, hR⟩ : ∃ R, R = (swapP s3.abs xB y).1 := ⟨_, rfl⟩
            obtain ⟨A4, hA4⟩ : ∃ A, A = (swapP s3.abs xB y).2 := ⟨_, rfl⟩
            rw [← hR, ← hA4] at HSW HLEFT
            have hpvrow := hdb3.row (b := pv) (List.mem_cons_self ..)
            obtain ⟨⟨z0, z1, z2, z3, z4, z5, z6⟩, -, hzl⟩ := verCells hpvrow
            have hR03 : R = 0 ∨ R = 3 := HLEFT.out.1.1
            have HR03 := hid hR03
            clear hk0 habs3 hdb3 hR hA4 hpvrow hR03
            go_wp2_with fail
            refine HSW.out.mono ?_
            rintro e w7 ⟨rfl, s4, hst7, habs4⟩
            have HDB7 := hid (HDB6.out.step hst7)
            have HABS4 := hid habs4
            have HDOWN := hid (down_any HDB7.out.bes.ins)
            rw [HDB7.out.bes.pp, show s4.down = decide (R = 3) from by have h := HLEFT.out.1.2.1; rw [← habs4] at h; exact h] at HDOWN
            clear hst7 habs4 HSW z0 z1 z2 z3 z4 z5 z6 hzl
            go_upto_region 13 with fail
            go_cut [80] (fun bv wx => bv = .bool false ∧ wx = w7)
            case first =>
              rcases HR03.out with hRR | hRR
              · subst hRR
                skip
                go_wp2_with fail
                refine (lawNum_any _ _ (by omega)).mono ?_
                rintro e W ⟨rfl, hww⟩
                obtain rfl := hww.symm
                go_wp2_with fail
                refine (lawNum_any _ _ (by omega)).mono ?_
                rintro e W ⟨rfl, hww⟩
                obtain rfl := hww.symm
                go_wp2_with fail
                refine HDOWN.out.mono ?_
                rintro e W ⟨rfl, hww⟩
                obtain rfl := hww.symm
                go_wp2
                go_meet
                case rel => exact ⟨rfl, rfl⟩
              · subst hRR
                skip
                go_wp2_with fail
                refine (lawNum_any _ _ (by omega)).mono ?_
                rintro e W ⟨rfl, hww⟩
                obtain rfl := hww.symm
                go_wp2_with fail
                refine (lawNum_any _ _ (by omega)).mono ?_
                rintro e W ⟨rfl, hww⟩
                obtain rfl := hww.symm
                go_wp2_with fail
                refine (lawNum_any _ _ (by omega)).mono ?_
                rintro e W ⟨rfl, hww⟩
                obtain rfl := hww.symm
                go_wp2_with fail
                refine HDOWN.out.mono ?_
                rintro e W ⟨rfl, hww⟩
                obtain rfl := hww.symm
                go_wp2
                go_meet
                case rel => exact ⟨rfl, rfl⟩
            case rest =>
              obtain ⟨hv80, hww⟩ := hcut
              obtain rfl := hww.symm
              subst hv80
              clear HDOWN
              have hRb : -9223372036854775808 ≤ R ∧ R ≤ 9223372036854775807 := by have := HR03.out; omega
              have HRB := hid hRb
              clear hRb
              go_upto_if 83 with (go_at_call 13; refine (lawNum_any _ _ HRB.out).mono ?_; rintro e W ⟨rfl, hww⟩; obtain rfl := hww.symm)
              go_cut [10] (fun bv wx => ∃ (m' : Option VerA) (o1 : Option Addr) (r1 : Nat) (o2 : Option Addr) (r2 : Nat), bv = .bool m'.isSome ∧ DB w wx p s4 [(pn, .cells #[.int .i64 (nowOf m').gen, .int .i64 (nowOf m').flushed, .int .i64 (nowOf m').next, .int .i64 (nowOf m').low, .int .i64 (nowOf m').clock, .slice o1 (nowOf m').state.length r1, .slice o2 (nowOf m').runs.length r2] 25 (0, 0))] ∧ Left s4.abs m' R ∧ (m'.map (·.gen)).getD 0 ≤ ((n + 1 : Nat) : Int) ∧ 0 ≤ (m'.map (·.gen)).getD 0 ∧ VerAt w (.agg #[.int .i64 (nowOf m').gen, .int .i64 (nowOf m').flushed, .int .i64 (nowOf m').next, .int .i64 (nowOf m').low, .int .i64 (nowOf m').clock, .slice o1 (nowOf m').state.length r1, .slice o2 (nowOf m').runs.length r2]) (nowOf m'))
              case first =>
                rcases HR03.out with hRR | hRR
                · subst hRR
                  have hpv7 := HDB7.out.row (b := pv) (List.mem_cons_self ..)
                  have hpn7 := HDB7.out.row (b := pn) (List.mem_cons_of_mem _ (List.mem_cons_self ..))
                  obtain ⟨⟨z0, z1, z2, z3, z4, z5, z6⟩, -, hzl⟩ := verCells hpv7
                  obtain ⟨⟨h0, h1, h2, h3, h4, h5, h6⟩, ⟨f0, f1', f2', f3, f4, f5, f6⟩, hlS⟩ := verCells hpn7
                  have HOUT := hid (And.intro (verOut_at hpn7 y1 y2 y3 y4 y5 (.slice t1 k1 f1) (.slice t2 k2 f2)) (verOut_upd (S := fun k => k = pn) (Upd.refl _ w7) (p := pn) (fun _ => rfl) y1 y2 y3 y4 y5 (.slice t1 k1 f1) (.slice t2 k2 f2)))
                  have HDB8 := hid (HDB7.out.set (R' := []) (List.mem_cons_of_mem _ (List.mem_cons_self ..)) HOUT.out.2 HOUT.out.1 (fun r hr => by cases hr))
                  unfold verOut at HDB8
                  clear HOUT hpv7 hpn7
                  go_wp2
                  go_meet
                  have hq := HGY.out
                  have hg0 := HST.out.gen; have hg00 := HST.out.gen0
                  obtain ⟨q1, q2, q3, q4, q5, q6, q7⟩ := HYS.out
                  subst q1; subst q2; subst q3; subst q4; subst q5; subst q6; subst q7
                  exact ⟨some y, t1, f1, t2, f2, rfl, HDB8.out, by have h := HLEFT.out.1; simp only [if_true] at h; rw [HABS4.out]; exact h, by show y.gen ≤ _; rw [hq]; push_cast; omega, by show 0 ≤ y.gen; rw [hq]; omega, HVY.out⟩
                · subst hRR
                  go_wp2
                  go_meet
                  have hg0 := HST.out.gen; have hg00 := HST.out.gen0
                  exact ⟨m, a1, c1, a2, c2, by rw [HMB.out], HDB7.out.sub (fun r hr => List.mem_cons_of_mem _ hr), by have h := HLEFT.out.1; rw [if_neg (by decide)] at h; rw [HABS4.out]; exact h, by push_cast; omega, hg00, HNOW.out⟩
              case rest =>
                obtain ⟨m', o1, r1, o2, r2, hbv10, hdb8, hleft, hgen, hgen0, hnow⟩ := hcut
                have HDB8 := hid hdb8; have HLF := hid hleft; have HGN := hid (And.intro hgen hgen0); have HNW := hid hnow
                obtain ⟨mb2, hmb2⟩ : ∃ b, b = m'.isSome := ⟨_, rfl⟩
                rw [← hmb2] at hbv10
                subst hbv10
                have HMB2 := hid hmb2
                clear hdb8 hleft hgen hgen0 hnow hmb2 HDB7 HLEFT HABS4 HSTD HARM HNOW HDB6 HDB5 HVY HGY HCY HOKY HLKY
                go_upto_if 88 with fail
                go_cut [] (fun wx => ∃ s5 : DS, DB w wx p s5 [(pn, .cells #[.int .i64 (nowOf m').gen, .int .i64 (nowOf m').flushed, .int .i64 (nowOf m').next, .int .i64 (nowOf m').low, .int .i64 (nowOf m').clock, .slice o1 (nowOf m').state.length r1, .slice o2 (nowOf m').runs.length r2] 25 (0, 0))] ∧ Stood s5.abs m' ∧ s5.armed = 0)
                case first =>
                  by_cases hlc : (n : Int) < (LC : Int)
                  · have hlcc : n < cuts.length := by have := HLC.out; omega
                    obtain ⟨aa, rfl, haspot, hcells⟩ := HC2.out n hlcc
                    have hca := hcells n hlcc
                    obtain ⟨cn, hcn⟩ : ∃ an, an = cuts[n] := ⟨_, rfl⟩
                    rw [← hcn] at hca
                    obtain ⟨ab, aoff, asp⟩ := aa
                    obtain rfl : asp = none := haspot
                    have hab := block_lt hca
                    have hca5 := HDB8.out.upd.cell hab hca
                    have hab5 : ab < wc.heap.size := Nat.lt_of_lt_of_le hab HDB8.out.upd.size
                    have HDB9 := hid (HDB8.out.quiet ((Upd.refl (fun _ => False) wc).alloc (.cells #[.int .i64 cn] 3)))
                    have HCR := hid (crash_any HDB9.out.bes.ins (IntsAt.one (heap_alloc_new wc (.cells #[.int .i64 cn] 3))) (by
                      intro a l c e _
                      injection e with e1
                      injection e1 with e1
                      subst e1
                      exact ⟨HDB8.out.fresh (Nat.le_refl _), by simp⟩))
                    rw [HDB9.out.bes.pp] at HCR
                    clear hlcc hcells hca hcn hab
                    go_wp2_with fail
                    refine HCR.out.mono ?_
                    rintro e w9 ⟨rfl, s5, hst9, habs5⟩
                    have HST9 := hid hst9; have HABS5 := hid habs5
                    clear hst9 habs5 HCR
                    go_wp2
                    go_meet
                    exact ⟨s5, HDB9.out.step HST9.out, by rw [HABS5.out]; exact HLF.out.crash _, by have h := congrArg DiskA.armed HABS5.out; exact h⟩
                  · have HCR := hid (crash_any HDB8.out.bes.ins (IntsAt.nil _) (fun a l c e _ => by injection e with e1; cases e1))
                    rw [HDB8.out.bes.pp] at HCR
                    go_wp2_with fail
                    refine HCR.out.mono ?_
                    rintro e w9 ⟨rfl, s5, hst9, habs5⟩
                    have HST9 := hid hst9; have HABS5 := hid habs5
                    clear hst9 habs5 HCR
                    go_wp2
                    go_meet
                    exact ⟨s5, HDB8.out.step HST9.out, by rw [HABS5.out]; exact HLF.out.crash _, by have h := congrArg DiskA.armed HABS5.out; exact h⟩
                case rest =>
                  obtain ⟨s5, hdb9, hst9, harm9⟩ := hcut
                  have HDB9 := hid hdb9; have HST9 := hid hst9; have HARM9 := hid harm9
                  have HLO := hid (load_any (hdb9.tab HT.out) hdb9.bes.ins (hdb9.zero HT.out) xB (by decide))
                  rw [hst9.load.1, hdb9.bes.pp] at HLO
                  clear hdb9 hst9 harm9 HDB8 HLF
                  go_wp2_with fail
                  refine HLO.out.mono ?_
                  rintro e w10 ⟨hres, s6, hst10, habs6⟩
                  obtain ⟨v10, rfl, hva10⟩ := hres.val
                  have HDB10 := hid (HDB9.out.step hst10)
                  have HST10 := hid (show Stood s6.abs m' ∧ s6.armed = 0 from ⟨by rw [habs6]; exact HST9.out.loaded.1, by have h := congrArg DiskA.armed habs6; rw [HST9.out.loaded.2] at h; have h2 := HARM9.out; exact Eq.trans h h2⟩)
                  have HVA10 := hid hva10
                  obtain ⟨u1, j1, u2, j2, rfl, -, -⟩ := hva10
                  rw [← HMB2.out]
                  obtain ⟨NV, hNV⟩ : ∃ NV, NV = nowOf m' := ⟨_, rfl⟩
                  rw [← hNV] at HVA10 HDB10 HNW ⊢
                  obtain ⟨y1', hy1⟩ : ∃ k, k = NV.gen := ⟨_, rfl⟩
                  obtain ⟨y2', hy2⟩ : ∃ k, k = NV.flushed := ⟨_, rfl⟩
                  obtain ⟨y3', hy3⟩ : ∃ k, k = NV.next := ⟨_, rfl⟩
                  obtain ⟨y4', hy4⟩ : ∃ k, k = NV.low := ⟨_, rfl⟩
                  obtain ⟨y5', hy5⟩ : ∃ k, k = NV.clock := ⟨_, rfl⟩
                  obtain ⟨k1', hk1⟩ : ∃ k, k = NV.state.length := ⟨_, rfl⟩
                  obtain ⟨k2', hk2⟩ : ∃ k, k = NV.runs.length := ⟨_, rfl⟩
                  rw [← hy1, ← hy2, ← hy3, ← hy4, ← hy5, ← hk1, ← hk2] at HVA10 HDB10 HNW ⊢
                  have HNS := hid (show NV = nowOf m' ∧ y1' = NV.gen ∧ y2' = NV.flushed ∧ y3' = NV.next ∧ y4' = NV.low ∧ y5' = NV.clock ∧ k1' = NV.state.length ∧ k2' = NV.runs.length from ⟨hNV, hy1, hy2, hy3, hy4, hy5, hk1, hk2⟩)
                  have HRL := hid (show NV.runs.length ≤ 140737488351232 from by rw [hNV]; have := HST9.out.runs; omega)
                  clear hNV hy1 hy2 hy3 hy4 hy5 hk1 hk2 hst10 habs6 hres HLO HDB9 HARM9
                  go_upto_region 22 with fail
                  have hua := (Upd.refl (fun _ => False) w10).alloc (.cells #[.int .i64 y1', .int .i64 y2', .int .i64 y3', .int .i64 y4', .int .i64 y5', .slice u1 k1' j1, .slice u2 k2' j2] 25)
                  have HDB11 := hid (HDB10.out.quiet hua)
                  have HRN := hid (heap_alloc_new w10 (.cells #[.int .i64 y1', .int .i64 y2', .int .i64 y3', .int .i64 y4', .int .i64 y5', .slice u1 k1' j1, .slice u2 k2' j2] 25))
                  have HSV := hid (sameVer_any (HVA10.out.keep hua) (HNW.out.keep HDB11.out.upd) HRL.out)
                  rw [show sameVerB NV NV = true from sameVerB_iff.2 rfl] at HSV
                  obtain ⟨px, hpx⟩ : ∃ q, q = w10.heap.size := ⟨_, rfl⟩
                  rw [← hpx] at HRN ⊢
                  generalize w10.alloc (.cells #[.int .i64 y1', .int .i64 y2', .int .i64 y3', .int .i64 y4', .int .i64 y5', .slice u1 k1' j1, .slice u2 k2' j2] 25) = w11 at HDB11 HRN HSV ⊢
                  clear hua hpx
                  have hpn11 := HDB11.out.row (b := pn) (List.mem_cons_self ..)
                  obtain ⟨⟨z0, z1, z2, z3, z4, z5, z6⟩, -, hzl⟩ := verCells hpn11
                  obtain ⟨⟨h0, h1, h2, h3, h4, h5, h6⟩, -, hlS⟩ := verCells HRN.out
                  clear hpn11
                  go_wp2_with fail
                  refine (lawNum_any _ _ (by omega)).mono ?_
                  rintro e W ⟨rfl, hww⟩
                  obtain rfl := hww.symm
                  go_wp2_with fail
                  refine HSV.out.mono ?_
                  rintro e w12 ⟨rfl, hu12⟩
                  have HDB12 := hid (HDB11.out.quiet hu12)
                  clear hu12 z0 z1 z2 z3 z4 z5 z6 hzl h0 h1 h2 h3 h4 h5 h6 hlS HSV
                  go_wp2
                  go_roundw
                  case rel =>
                    obtain ⟨q0, q1, q2, q3, q4, q5, q6, q7⟩ := HNS.out
                    subst q1; subst q2; subst q3; subst q4; subst q5; subst q6; subst q7; subst q0
                    exact ⟨n + 1, by simp, by omega, by omega, s6, m', o1, r1, o2, r2, by rw [HMB2.out], ⟨HDB12.out, HST10.out.1, HST10.out.2, HGN.out.1, HGN.out.2, HNW.out⟩⟩
                  case measure => simp [intOf]; omega
      · have hvf : (decide (n < LV) && decide (n < 12)) = false := by
          by_cases h1 : n < LV
          · have h2 : ¬ n < 12 := fun h => hgo ⟨h1, h⟩
            simp [h2]
          · simp [h1]
        rw [hvf] at hv41
        subst hv41
        obtain ⟨g, hg⟩ : ∃ g, g = (nowOf m).gen := ⟨_, rfl⟩
        have hgr : 0 ≤ g ∧ g ≤ 12 := by
          rw [hg, nowOf_gen]
          have h1 := HST.out.gen; have h2 := HST.out.gen0
          omega
        have hrow := HST.out.db.row (List.mem_singleton.2 rfl)
        obtain ⟨⟨z0, -⟩, -, hpnl⟩ := verCells hrow
        rw [← hg] at z0
        have HG := hid hg; have HGR := hid hgr
        have hgi : IntKind.i64.wrap (g + 1) = g + 1 := by rw [IntKind.wrap_i64]; omega
        have HY := hid (show okA (followA firstA (g + 1)) = true ∧ (∀ r ∈ (followA firstA (g + 1)).runs, r.count ≤ 9223372036854775807) ∧ (followA firstA (g + 1)).gen = (m.map (·.gen)).getD 0 + 1 from ⟨followA_ok (by omega), followA_count (fun r hr => by cases hr), by rw [followA_gen, hg, nowOf_gen]⟩)
        clear hgo hvf hg hgr hrow
        go_upto_region 24 with fail
        have hHeld : (fun V => V.cell? ⟨pn, 0, none⟩ = some (.int .i64 g)) wo.drew := z0
        clear z0
        refine wp_region_l (fun V => V.cell? ⟨pn, 0, none⟩ = some (.int .i64 g)) 7 8 rfl (by kernel_rfl) ?_
        refine' wpAnyL_take 0 [6, 7] (v := _) rfl (by kernel_rfl) (by kernel_rfl) (by kernel_rfl) (by kernel_rfl) (by simp) (fun _ _ _ h => h) (Or.inl ⟨by rfl, ?hz0⟩) (by assumption) ?rem0
        case hz0 => (intro wS hSw; skip; go_simp; (try with_reducible rfl))
        (try simp only [Act.put, List.setIfInBounds_toArray, List.set_cons_zero, List.set_cons_succ])
        refine' wpAnyL_take 2 [3, 4, 5, 6, 7] (v := _) rfl (by kernel_rfl) (by kernel_rfl) (by kernel_rfl) (by kernel_rfl) (by simp) (fun _ _ _ h => h) (Or.inl ⟨by rfl, ?hz2⟩) (by assumption) ?rem2
        case hz2 => (intro wS hSw; skip; go_simp; (try with_reducible rfl))
        (try simp only [Act.put, List.setIfInBounds_toArray, List.set_cons_zero, List.set_cons_succ])
        refine' wpAnyL_take 3 [4, 5, 6, 7] (v := _) rfl (by kernel_rfl) (by kernel_rfl) (by kernel_rfl) (by kernel_rfl) (by simp) (fun _ _ _ h => h) (Or.inl ⟨by rfl, ?hz3⟩) (by assumption) ?rem3
        case hz3 => (intro wS hSw; (try dsimp only at hSw); go_simp; (try with_reducible rfl))
        (try simp only [Act.put, List.setIfInBounds_toArray, List.set_cons_zero, List.set_cons_succ])
        refine' wpAnyL_take 4 [5, 6, 7] (v := _) rfl (by kernel_rfl) (by kernel_rfl) (by kernel_rfl) (by kernel_rfl) (by simp) (fun _ _ _ h => h) (Or.inl ⟨by rfl, ?hz4⟩) (by assumption) ?rem4
        case hz4 => (intro wS hSw; skip; go_simp; (try with_reducible rfl))
        (try simp only [Act.put, List.setIfInBounds_toArray, List.set_cons_zero, List.set_cons_succ])
        refine wpAnyL_one 1 rfl (by kernel_rfl) (fun K hK => ?_)
        go_simp
        go_at_call 11
        refine (lawFirst_any _).mono ?_
        rintro e w5 ⟨rfl, hu5⟩
        have HDB5 := hid ((HST.out.db.quiet (Upd.refl (fun _ => False) wo).drew).quiet hu5)
        have hHeld5 : (fun V => V.cell? ⟨pn, 0, none⟩ = some (.int .i64 g)) w5 := hu5.cell hpnl hHeld
        clear hu5
        refine hK.out _ _ (fun _ => hHeld5) ?_
        clear hK K
        (try simp only [Act.put, List.setIfInBounds_toArray, List.set_cons_zero, List.set_cons_succ])
        refine wpAnyL_one 5 rfl (by kernel_rfl) (fun K hK => ?_)
        go_simp
        go_at_call 15
        refine (follow_any (w := w5) (g := g + 1) (firstAt w5) (fun r hr => by cases hr) (by have := HGR.out; omega)).mono ?_
        rintro e w6 ⟨v6, rfl, hva6, hu6⟩
        have HDB6 := hid (HDB5.out.quiet hu6)
        have HV6 := hid (hva6 w6 (firstAt w6))
        have hHeld6 : (fun V => V.cell? ⟨pn, 0, none⟩ = some (.int .i64 g)) w6 := hu6.cell (lt_of_heap (HDB5.out.row (List.mem_singleton.2 rfl))) hHeld5
        clear hu6 hva6
        refine hK.out _ _ (fun _ => hHeld6) ?_
        clear hK K
        (try simp only [Act.put, List.setIfInBounds_toArray, List.set_cons_zero, List.set_cons_succ])
        refine wpAnyL_one 6 rfl (by kernel_rfl) (fun K hK => ?_)
        go_simp
        go_at_call 14
        have HSWP := hid (swap_any (HDB6.out.tab HT.out) HDB6.out.bes.ins (HDB6.out.zero HT.out) xB (by decide) HV6.out (fun r hr => by have := (body_len HY.out.1).2 r hr; omega))
        rw [HDB6.out.bes.pp] at HSWP
        have hsw := HST.out.st.swap HY.out.1 HY.out.2.1 HY.out.2.2 0 (by decide)
        rw [show ({ s2.abs with armed := 0 } : DiskA) = s2.abs from by have h := HST.out.arm; show ({ s2.abs with armed := 0 } : DiskA) = s2.abs; rw [show (0 : Int) = s2.abs.armed from h.symm]] at hsw
        obtain ⟨hR0, -, -, hRF⟩ := hsw.resolve_right (fun h => h.1 rfl)
        rw [hR0] at HSWP
        have HRF := hid hRF
        clear hR0 hsw hRF
        refine HSWP.out.mono ?_
        rintro e w7 ⟨rfl, s7, hst7, habs7⟩
        have HDB7 := hid (HDB6.out.step hst7)
        have HFIL := hid (show s7.abs.files = mL (some (followA firstA (g + 1))) from by rw [habs7]; exact HRF.out)
        have hHeld7 : (fun V => V.cell? ⟨pn, 0, none⟩ = some (.int .i64 g)) w7 := (cell_of_row w7 pn 0 _ _ _ (HDB7.out.row (List.mem_singleton.2 rfl))).trans (by rw [← HG.out]; rfl)
        clear hst7 habs7
        refine hK.out _ _ (fun _ => hHeld7) ?_
        clear hK K
        (try simp only [Act.put, List.setIfInBounds_toArray, List.set_cons_zero, List.set_cons_succ])
        refine wpAnyL_one 7 rfl (by kernel_rfl) (fun K hK => ?_)
        go_simp
        refine hK.out _ _ (fun _ => hHeld7) ?_
        clear hK K
        (try simp only [Act.put, List.setIfInBounds_toArray, List.set_cons_zero, List.set_cons_succ])
        refine wpAnyL_done (by kernel_rfl) ?_ _
        clear hHeld hHeld5 hHeld6 hHeld7 HSWP
        have HLI := hid (list_any HDB7.out.bes.ins ⟨#[]⟩)
        rw [HDB7.out.bes.pp] at HLI
        have HLN := hid (show (listNames s7 ⟨#[]⟩).length = 1 from by
          have h1 : s7.names = [xN] := by
            have h := congrArg (List.map (·.name)) HFIL.out
            have h2 : s7.names = s7.abs.files.map (·.name) := by simp [DS.names, DS.abs, FRec.abs]
            rw [h2, h]
            rfl
          unfold listNames
          rw [h1, List.filter_eq_self.2 (fun n _ => by simp [hasPre, Lib.hasPrefix]), (sortNames_perm _).length_eq]
          rfl)
        go_wp2_with fail
        refine (lawNum_any _ _ (by omega)).mono ?_
        rintro e W ⟨rfl, hww⟩
        obtain rfl := hww.symm
        go_wp2_with fail
        refine HLI.out.mono ?_
        rintro e w8 ⟨v8, n8, rfl, hrow8, hu8⟩
        have HU8 := hid (HDB7.out.upd.trans hu8 (fun _ _ e => e))
        have hn8 : n8 = 1 := by have h := hrow8.1; rw [List.length_map, HLN.out] at h; simpa using h.symm
        subst hn8
        obtain ⟨o8, c8, rfl, -, -⟩ := owns_shape hrow8
        clear hrow8 hu8
        go_wp2
        go_ret
        exact ⟨rfl, HU8.out⟩

end Go.Proofs.YtgaidmohdhaonaaGreatDoor
