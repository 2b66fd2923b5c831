/-
  stratalaw10.VersionTells, walked.
-/
import Derived.Test.YtgaidmohdhaonaaDoorZH
namespace Go.Proofs.YtgaidmohdhaonaaDoor
set_option linter.unusedVariables false
set_option linter.unusedSimpArgs false
set_option linter.unnecessarySimpa false
set_option linter.unusedSectionVars false
open Go Go.RowKit

theorem zeroAtT (w : World) : VerAt w (.agg (verC 0 0 0 0 0 (.slice none 0 0) (.slice none 0 0))) zeroVer :=
  ⟨none, 0, none, 0, rfl, ⟨none, 0, rfl, by decide, by decide, fun _ => ⟨rfl, rfl⟩, fun j hj => absurd hj (by simp [zeroVer])⟩, ⟨none, 0, rfl, by decide, by decide, fun k hk => absurd hk (by simp [zeroVer])⟩⟩

/-- The text, some of its bits turned, in its row. -/
structure TxS (W3 W : World) (g N c : Nat) (E : List UInt8) (L : List Nat) : Prop where
  upd : Upd (fun k => k = g) W3 W
  data : DataIs W (.slice (some ⟨g, 0, none⟩) N c) (L.foldl flipB E)

theorem TxS.turn {W3 W : World} {g N c : Nat} {E : List UInt8} {L : List Nat} (h : TxS W3 W g N c E L) (hN : N = E.length) {k q m : Nat} {z : UInt8} (hk : q < N) (hq : q = k / 8) (hm : m = k % 8) (hz : (L.foldl flipB E)[q]? = some z) :
    TxS W3 (W.setCell ⟨g, q, none⟩ (.int .u8 (bits .xor .u8 (z.toNat : Int) (2 ^ m % 256)))).drew g N c E (L ++ [k]) := by
  refine ⟨(h.upd.setCell (p := ⟨g, q, none⟩) (fun _ => rfl) _).drew, ?_⟩
  have h1 := h.data.flip (by rw [flips_length]; exact hN) hk hq hm hz
  rw [List.foldl_append]
  exact h1.of_block (fun k hk => rfl)

set_option maxRecDepth 100000 in
set_option maxHeartbeats 12800000 in
theorem versionTells_walk {w : World} {va vm : Value} {x : VerA} {more : List UInt8} {i j k at' cut : Int} {burst : Bool} {pat : Nat} (hT : TabIn w) (hv : VerAt w va x) (hin : VerIn x) (hi : I64 i) (hj : I64 j) (hk : I64 k) (ha : I64 at') (hp : pat < 4294967296) (hm : BAt w vm more) (hml : more.length ≤ 1048576) (hc : I64 cut) :
    Calls Tryd.prog 3 #[va, .int .i64 i, .int .i64 j, .int .i64 k, .bool burst, .int .i64 at', .int .u32 pat, vm, .int .i64 cut] w fun e w' => e = .returned (.bool true) ∧ Upd (fun _ => False) w w' := by
  have HV := hid hv; have HT := hid hT; have HB := hid hm; have HIN := hid hin
  have HI := hid hi; have HJ := hid hj; have HK := hid hk; have HA := hid ha; have HC := hid hc; have HP := hid hp; have HML := hid hml
  obtain ⟨s1, d1, s2, d2, rfl, -, -⟩ := hv
  obtain ⟨m1, hm1⟩ : ∃ m, m = x.state.length := ⟨_, rfl⟩
  obtain ⟨m2, hm2⟩ : ∃ m, m = x.runs.length := ⟨_, rfl⟩
  rw [← hm1, ← hm2] at HV ⊢
  obtain ⟨mo, mcap, rfl, -, -, -, -⟩ := hm
  obtain ⟨M, hM⟩ : ∃ n, n = more.length := ⟨_, rfl⟩
  rw [← hM] at HB HML ⊢
  have HMN := hid hM; have HM1 := hid hm1; have HM2 := hid hm2
  have HU1 := hid ((Upd.refl (fun _ => False) w).alloc (.cells #[.int .i64 x.gen, .int .i64 x.flushed, .int .i64 x.next, .int .i64 x.low, .int .i64 x.clock, .slice s1 m1 d1, .slice s2 m2 d2] 25))
  have HROW := hid (heap_alloc_new w (.cells #[.int .i64 x.gen, .int .i64 x.flushed, .int .i64 x.next, .int .i64 x.low, .int .i64 x.clock, .slice s1 m1 d1, .slice s2 m2 d2] 25))
  have HLK := hid (show ∀ r ∈ x.runs, r.first.length ≤ 140737488351232 ∧ r.last.length ≤ 140737488351232 from fun r hr => (HIN.out.2.2.2.2.2.2.2 r hr).2.2.2.2.2.2)
  obtain ⟨p2, hp2⟩ : ∃ p, p = w.heap.size := ⟨_, rfl⟩
  rw [← hp2] at HROW
  have HP2 := hid hp2
  clear hT hin hm1 hm2 hM hp2 hi hj hk ha hp hml hc
  go_enter Tryd.func3, Tryd.ntmps3
  go_upto_region 1 with fail
  rw [← HP2.out]
  generalize w.alloc (.cells #[.int .i64 x.gen, .int .i64 x.flushed, .int .i64 x.next, .int .i64 x.low, .int .i64 x.clock, .slice s1 m1 d1, .slice s2 m2 d2] 25) = W1 at HU1 HROW ⊢
  obtain ⟨⟨z0, z1, z2, z3, z4, z5, z6⟩, -, hzl⟩ := verCells HROW.out
  have HCH := hid (refCheck10_any (HV.out.keep HU1.out) HLK.out)
  obtain ⟨R, hR⟩ : ∃ R, R = checkA x := ⟨_, rfl⟩
  rw [← hR] at HCH
  have HR := hid hR
  clear hR
  go_upto_if 36 with (go_at_call 4; refine HCH.out.mono ?_; rintro e W2 ⟨rfl, hu2⟩)
  have HU2 := hid (HU1.out.trans hu2 (fun _ _ e => e))
  have HRO2 := hid (hu2.get HROW.out (fun e => e))
  clear hu2 z0 z1 z2 z3 z4 z5 z6 hzl HCH
  go_cut [] (fun wx => ∃ (y : VerA) (a1 a2 : Option Addr) (n1 n2 b1 b2 : Nat), okA y = true ∧ (∀ r ∈ y.runs, r.count ≤ 9223372036854775807) ∧ Upd (fun _ => False) w wx ∧ wx.heap[p2]? = some (.cells #[.int .i64 y.gen, .int .i64 y.flushed, .int .i64 y.next, .int .i64 y.low, .int .i64 y.clock, .slice a1 n1 b1, .slice a2 n2 b2] 25 (0, 0)) ∧ VerAt wx (.agg #[.int .i64 y.gen, .int .i64 y.flushed, .int .i64 y.next, .int .i64 y.low, .int .i64 y.clock, .slice a1 n1 b1, .slice a2 n2 b2]) y)
  case first =>
    by_cases hok : okA x = true
    · have HOK := hid hok
      obtain rfl : R = 0 := by rw [HR.out]; unfold checkA; rw [if_pos hok]
      clear hok
      go_wp2
      go_meet
      exact ⟨x, s1, s2, m1, m2, d1, d2, HOK.out, fun r hr => (HIN.out.2.2.2.2.2.2.2 r hr).2.1.2, HU2.out, HRO2.out, HV.out.keep HU2.out⟩
    · have hok' : okA x = false := by simpa using hok
      obtain rfl : R = 101 := by rw [HR.out]; unfold checkA; rw [hok']; rfl
      clear hok hok'
      go_wp2_with fail
      refine (lawFirst_any _).mono ?_
      rintro e W3 ⟨rfl, hu3⟩
      have HU3 := hid (HU2.out.trans hu3 (fun _ _ e => e))
      have HRO3 := hid (hu3.get HRO2.out (fun e => e))
      clear hu3
      obtain ⟨⟨z0, z1, z2, z3, z4, z5, z6⟩, ⟨y0, y1, y2, y3, y4, y5, y6⟩, hzl⟩ := verCells HRO3.out
      have HOUT := hid (And.intro (verOut_at HRO3.out 1 0 1 0 1 (.slice none 0 0) (.slice none 0 0)) (verOut_upd HU3.out (p := p2) (fun e => by have := HP2.out; omega) 1 0 1 0 1 (.slice none 0 0) (.slice none 0 0)))
      go_wp2
      go_meet
      exact ⟨firstA, none, none, 0, 0, 0, 0, by kernel_rfl, (fun r hr => by cases hr), HOUT.out.2, HOUT.out.1, firstAt _⟩
  case rest =>
    obtain ⟨y, a1, a2, n1, n2, b1, b2, hok, hcnt, hu, hrow, hva⟩ := hcut
    have HOK := hid hok; have HCNT := hid hcnt; have HU := hid hu; have HROW2 := hid hrow; have HVA := hid hva
    obtain ⟨E, hE⟩ : ∃ E, E = encodeB y := ⟨_, rfl⟩
    have HE := hid hE
    have HEN := hid (encode_any (HT.out.keep hu) hva hok)
    rw [← hE] at HEN
    have HLE := hid (encOk_len hok)
    rw [← hE] at HLE
    obtain ⟨⟨z0, z1, z2, z3, z4, z5, z6⟩, -, hzl⟩ := verCells hrow
    clear hok hcnt hu hrow hva hE HROW HU1 HV
    go_wp2_with fail
    refine HEN.out.mono ?_
    rintro e W2 ⟨v5, rfl, hn5⟩
    obtain ⟨g, c, hv5, hcap, hcm⟩ : ∃ g c, v5 = .slice (some ⟨g, 0, none⟩) E.length c ∧ E.length ≤ c ∧ c ≤ 9223372036854775807 := by
      rcases hn5.data with ⟨-, h⟩ | ⟨g, c, cur, e, -, h1, -, h2, -⟩
      · have := HLE.out; rw [h] at this; simp at this
      · exact ⟨g, c, e, h1, by simpa [maxLen] using h2⟩
    subst hv5
    have HN5 := hid hn5
    obtain ⟨N, hN⟩ : ∃ N, N = E.length := ⟨_, rfl⟩
    have HN := hid hN
    rw [← hN] at HN5 HLE hcap ⊢
    have HU2 := hid (HU.out.trans hn5.upd (fun _ _ e => e))
    have hN20 : ¬ ((N : Int) < 20) := by have := HLE.out; omega
    have HNL := hid (show 20 ≤ N ∧ N ≤ 400000 from ⟨HLE.out.2, HLE.out.1⟩)
    have HPT := hid (refPart_any (b := E) (w := W2) (ao := some ⟨g, 0, none⟩) (cap := c) (by rw [← hN]; exact HN5.out.data.bat) (lo := 0) (hi := E.length) (by omega) (by omega) (by have := HNL.out; omega))
    rw [← hN] at HPT
    clear hn5 hN z0 z1 z2 z3 z4 z5 z6 hzl HEN
    go_wp2_with fail
    refine (lawNum_any _ _ (by omega)).mono ?_
    rintro e W ⟨rfl, hww⟩
    obtain rfl := hww.symm
    go_wp2_with fail
    refine HPT.out.mono ?_
    rintro e W3 ⟨vw, rfl, hnw⟩
    have hfull : (E.drop 0).take (N - 0) = E := by rw [List.drop_zero, Nat.sub_zero, HN.out, List.take_length]
    rw [hfull] at hnw
    obtain ⟨gw, cw, hvw, hcapw, hcmw⟩ : ∃ g c, vw = .slice (some ⟨g, 0, none⟩) E.length c ∧ E.length ≤ c ∧ c ≤ 9223372036854775807 := by
      rcases hnw.data with ⟨-, h⟩ | ⟨g, c, cur, e, -, h1, -, h2, -⟩
      · have := HNL.out; have h3 := HN.out; rw [h] at h3; simp at h3; omega
      · exact ⟨g, c, e, h1, by simpa [maxLen] using h2⟩
    subst hvw
    rw [← HN.out] at hnw hcapw ⊢
    have HNW := hid hnw
    have HU3 := hid (HU2.out.trans hnw.upd (fun _ _ e => e))
    clear hnw hfull HPT
    go_upto_region 8 with fail
    have HUB := hid ((Upd.refl (fun _ => False) W3).alloc (.cells #[.int .i64 i, .int .i64 j, .int .i64 k] 34))
    have HRB := hid (heap_alloc_new W3 (.cells #[.int .i64 i, .int .i64 j, .int .i64 k] 34))
    obtain ⟨pb, hpb⟩ : ∃ p, p = W3.heap.size := ⟨_, rfl⟩
    rw [← hpb] at HRB ⊢
    have HPB := hid hpb
    generalize W3.alloc (.cells #[.int .i64 i, .int .i64 j, .int .i64 k] 34) = W4 at HUB HRB ⊢
    clear hpb
    have HD4 := hid (show TxS W4 W4 g N c E [] from ⟨Upd.refl _ _, (HN5.out.data.upd HNW.out.upd (fun _ _ e => e)).upd HUB.out (fun _ _ e => e)⟩)
    have HGL := hid (show g < W2.heap.size from HN5.out.data.lt g rfl)
    have HGW := hid (show gw ≠ g from fun e => by have h1 := HNW.out.new gw rfl; have h2 := HGL.out; omega)
    have HGP := hid (show pb ≠ g from fun e => by have h1 := HPB.out; have h2 := HGL.out; have h3 := HNW.out.upd.size; omega)
    have HG0 := hid (show w.heap.size ≤ g from Nat.le_trans HU.out.size (HN5.out.new g rfl))
    have hN8 : ¬ (8 * (N : Int) = 0) := by have := HNL.out; omega
    have hNB : N ≤ 400000 := HNL.out.2
    have HHH := hid (show okA y = true ∧ N = (encodeB y).length ∧ E = encodeB y from ⟨HOK.out, by rw [HN.out, HE.out], HE.out⟩)
    go_wp2
    go_loopw [23] (fun nv wr => ∃ n : Nat, nv = .int .i64 n ∧ n ≤ 3 ∧ (burst = true → n = 0) ∧ TxS W4 wr g N c E (bitsL N ([i, j, k].take n))) (fun nv _ => 3 - (intOf nv).toNat)
    case atStart => exact ⟨0, rfl, by omega, fun _ => rfl, HD4.out⟩
    case round =>
      obtain ⟨n, rfl, hn, hbn, hts⟩ := hrel
      have HBN := hid hbn; have HTS := hid hts
      obtain ⟨wo, rfl⟩ : ∃ wo, wo = wr := ⟨_, rfl⟩
      clear hbn hts
      go_upto_region 9 with fail
      go_cut [64] (fun bv wx => bv = .bool (decide (n < 3) && !burst) ∧ wx = wo)
      case first =>
        by_cases h1 : (n : Int) < 3
        · have hkd : decide (n < 3) = true := by simp; omega
          cases burst
          · skip
            go_wp2
            go_meet
            case rel => exact ⟨by rw [hkd]; rfl, rfl⟩
          · skip
            go_wp2
            go_meet
            case rel => exact ⟨by rw [hkd]; rfl, rfl⟩
        · have hkd : decide (n < 3) = false := by simp; omega
          go_wp2
          go_meet
          case rel => exact ⟨by rw [hkd]; rfl, rfl⟩
      case rest =>
        obtain ⟨hv64, hww⟩ := hcut
        obtain rfl := hww.symm
        by_cases hgo : n < 3 ∧ burst = false
        · obtain ⟨hg1, hg2⟩ := hgo
          subst hg2
          rw [decide_eq_true hg1] at hv64
          simp only [Bool.not_false, Bool.and_true] at hv64
          subst hv64
          obtain ⟨z, hz⟩ : ∃ z, [i, j, k][n]? = some z := ⟨[i, j, k][n]'(by simpa using hg1), by simp⟩
          have hz64 : I64 z := by
            have h1 := List.mem_of_getElem? hz
            simp only [List.mem_cons, List.not_mem_nil, or_false] at h1
            rcases h1 with rfl | rfl | rfl
            · exact HI.out
            · exact HJ.out
            · exact HK.out
          have hcz : wo.cell? ⟨pb, n, none⟩ = some (.int .i64 z) := by
            rw [cell_of_row wo pb n _ _ _ (HTS.out.upd.get HRB.out HGP.out)]
            have : ([i, j, k].map (Value.int .i64))[n]? = some (.int .i64 z) := by rw [List.getElem?_map, hz]; rfl
            simpa using this
          have hpl : pb < wo.heap.size := lt_of_heap (HTS.out.upd.get HRB.out HGP.out)
          have hn3 : (n : Int) < 3 := by omega
          have HZ := hid hz; have HZ64 := hid hz64
          clear hz hz64
          by_cases hneg : 0 ≤ z
          · obtain ⟨a, ha⟩ : ∃ a, a = (z % ((8 * N : Nat) : Int)).toNat := ⟨_, rfl⟩
            have hN0 := HNL.out
            have hal : a < 8 * N := by
              have h1 := Int.emod_lt_of_pos z (show (0 : Int) < ((8 * N : Nat) : Int) by omega)
              omega
            have hza : z.tmod (8 * (N : Int)) = (a : Int) := by
              have h1 := Int.emod_nonneg z (show ((8 * N : Nat) : Int) ≠ 0 by omega)
              rw [Int.tmod_eq_emod_of_nonneg hneg, ha, Int.toNat_of_nonneg h1]
              push_cast
              rfl
            have HSU := hid (show bitsL N ([i, j, k].take (n + 1)) = bitsL N ([i, j, k].take n) ++ [a] from by rw [bitsL_succ N _ HZ.out, if_pos hneg, ha])
            obtain ⟨q, hq⟩ : ∃ q, q = a / 8 := ⟨_, rfl⟩
            obtain ⟨m, hm⟩ : ∃ m, m = a % 8 := ⟨_, rfl⟩
            have hq8 : (a : Int) / 8 = (q : Int) := by omega
            have hr8 : (a : Int) % 8 = (m : Int) := by omega
            have hqN : q < N := by omega
            have hm8 : m < 8 := by omega
            have HQ := hid hq; have HM := hid hm; have HAL := hid hal
            have hlen : N = ((bitsL N ([i, j, k].take n)).foldl flipB E).length := by rw [flips_length]; exact HN.out
            obtain ⟨y0, hy0⟩ : ∃ y0, ((bitsL N ([i, j, k].take n)).foldl flipB E)[q]? = some y0 := ⟨_, List.getElem?_eq_getElem (by omega)⟩
            obtain ⟨d0, dz, dl⟩ := HTS.out.data.at_b hlen (k := q) (by omega)
            rw [show ((bitsL N ([i, j, k].take n)).foldl flipB E)[q]'(by omega) = y0 from by rw [List.getElem?_eq_getElem (by omega)] at hy0; exact Option.some.inj hy0] at d0
            simp only [byteV] at d0
            have HT5 := hid (HTS.out.turn HN.out hqN HQ.out HM.out hy0)
            rw [← HSU.out] at HT5
            have hqi : (q : Int) < (N : Int) := by omega
            clear ha hq hm hal hlen hy0 hN0
            go_upto_region 13 with fail
            go_region
            all_goals
              go_wp2
              go_roundw
              case rel => exact ⟨n + 1, by simp, by omega, (fun h => by cases h), HT5.out⟩
              case measure => simp [intOf]; omega
          · have HSU := hid (show bitsL N ([i, j, k].take (n + 1)) = bitsL N ([i, j, k].take n) from by rw [bitsL_succ N _ HZ.out, if_neg hneg, List.append_nil])
            go_wp2
            go_roundw
            case rel => exact ⟨n + 1, by simp, by omega, (fun h => by cases h), by rw [HSU.out]; exact HTS.out⟩
            case measure => simp [intOf]; omega
        · have hvf : (decide (n < 3) && !burst) = false := by
            cases hb : burst with
            | true => simp
            | false => rw [hb] at hgo; simp at hgo ⊢; omega
          rw [hvf] at hv64
          subst hv64
          have hN0 := HNL.out
          obtain ⟨L1, hL1⟩ : ∃ L1, L1 = bitsL N ([i, j, k].take n) := ⟨_, rfl⟩
          have HL1 := hid (show (burst = false → L1 = bitsL N [i, j, k]) ∧ (burst = true → L1 = []) from by
            refine ⟨fun hb => ?_, fun hb => ?_⟩
            · obtain rfl : n = 3 := by rw [hb] at hgo; simp at hgo; omega
              exact hL1
            · have h0 := HBN.out hb
              subst h0
              exact hL1)
          rw [← hL1] at HTS
          obtain ⟨f, hf⟩ : ∃ f, f = (at' % ((8 * N : Nat) : Int)).toNat := ⟨_, rfl⟩
          have hfl : f < 8 * N := by
            have h1 := Int.emod_lt_of_pos at' (show (0 : Int) < ((8 * N : Nat) : Int) by omega)
            omega
          have HWH := hid (whole_any at' 0 (8 * (N : Int) - 1) (by omega) (by omega) (by omega) wo)
          rw [show (0 + at' % (8 * (N : Int) - 1 - 0 + 1)) = (f : Int) from by
            have h1 := Int.emod_nonneg at' (show ((8 * N : Nat) : Int) ≠ 0 by omega)
            rw [hf, Int.toNat_of_nonneg h1, show (8 * (N : Int) - 1 - 0 + 1) = ((8 * N : Nat) : Int) from by push_cast; omega]
            omega] at HWH
          have HFL := hid hfl
          clear hf hfl hvf hgo hL1 hN0 hn
          go_wp2_with fail
          refine HWH.out.mono ?_
          rintro e W ⟨rfl, hww⟩
          obtain rfl := hww.symm
          clear HWH
          go_wp2
          go_loopw [26] (fun nv wr => ∃ n : Nat, nv = .int .i64 n ∧ n ≤ 32 ∧ (burst = false → n = 0) ∧ TxS W4 wr g N c E (L1 ++ burstN N f pat n)) (fun nv _ => 32 - (intOf nv).toNat)
          case atStart => exact ⟨0, rfl, by omega, fun _ => rfl, by rw [show burstN N f pat 0 = [] from rfl, List.append_nil]; exact HTS.out⟩
          case round =>
            obtain ⟨n2, rfl, hn2, hbn2, hts2⟩ := hrel
            have HBN2 := hid hbn2; have HTS2 := hid hts2
            obtain ⟨wq, rfl⟩ : ∃ wq, wq = wr := ⟨_, rfl⟩
            clear hbn2 hts2
            go_upto_region 16 with fail
            go_cut [101] (fun bv wx => bv = .bool (decide (n2 < 32) && burst) ∧ wx = wq)
            case first =>
              by_cases h1 : (n2 : Int) < 32
              · have hkd : decide (n2 < 32) = true := by simp; omega
                cases burst
                · skip
                  go_wp2
                  go_meet
                  case rel => exact ⟨by rw [hkd]; rfl, rfl⟩
                · skip
                  go_wp2
                  go_meet
                  case rel => exact ⟨by rw [hkd]; rfl, rfl⟩
              · have hkd : decide (n2 < 32) = false := by simp; omega
                go_wp2
                go_meet
                case rel => exact ⟨by rw [hkd]; rfl, rfl⟩
            case rest =>
              obtain ⟨hv101, hww⟩ := hcut
              obtain rfl := hww.symm
              by_cases hgo : n2 < 32 ∧ burst = true
              · obtain ⟨hg1, hg2⟩ := hgo
                subst hg2
                rw [decide_eq_true hg1] at hv101
                simp only [Bool.and_true] at hv101
                subst hv101
                have hfN : f < 8 * N := HFL.out
                obtain ⟨bt, hbt⟩ : ∃ bt, bt = pat.testBit n2 := ⟨_, rfl⟩
                have hbi : (bits .and .u32 ((pat : Int) / 2 ^ n2) 1 == 1) = bt := by
                  rw [Nat.testBit_eq_decide_div_mod_eq] at hbt
                  have hpl := HP.out
                  have hdl : pat / 2 ^ n2 < 4294967296 := Nat.lt_of_le_of_lt (Nat.div_le_self _ _) hpl
                  have h2 : ((pat / 2 ^ n2 : Nat) : Int) = (pat : Int) / 2 ^ n2 := by push_cast; rfl
                  rw [← h2, show (1 : Int) = ((1 : Nat) : Int) from rfl, u32_and_nat _ _ hdl (by decide), Nat.and_one_is_mod, hbt]
                  by_cases h1 : pat / 2 ^ n2 % 2 = 1
                  · rw [h1]; rfl
                  · have h3 : pat / 2 ^ n2 % 2 = 0 := by omega
                    rw [h3]; rfl
                obtain ⟨a, ha⟩ : ∃ a, a = f + n2 := ⟨_, rfl⟩
                have hfa : (f : Int) + (n2 : Int) = (a : Int) := by omega
                have HSU := hid (show L1 ++ burstN N f pat (n2 + 1) = (L1 ++ burstN N f pat n2) ++ if a < 8 * N ∧ bt = true then [a] else [] from by rw [burstN_succ, List.append_assoc, ha, hbt])
                clear ha hbt
                go_upto_region 19 with fail
                go_cut [118] (fun bv wx => bv = .bool (decide (a < 8 * N) && bt) ∧ wx = wq)
                case first =>
                  by_cases h1 : (a : Int) < 8 * (N : Int)
                  · have hkd : decide (a < 8 * N) = true := by simp; omega
                    cases bt
                    · skip
                      go_wp2
                      go_meet
                      case rel => exact ⟨by rw [hkd]; rfl, rfl⟩
                    · skip
                      go_wp2
                      go_meet
                      case rel => exact ⟨by rw [hkd]; rfl, rfl⟩
                  · have hkd : decide (a < 8 * N) = false := by simp; omega
                    clear hbi
                    go_wp2
                    go_meet
                    case rel => exact ⟨by rw [hkd]; rfl, rfl⟩
                case rest =>
                  obtain ⟨hv118, hww⟩ := hcut
                  obtain rfl := hww.symm
                  clear hbi
                  by_cases hgb : a < 8 * N ∧ bt = true
                  · rw [if_pos hgb] at HSU
                    obtain ⟨hout, rfl⟩ := hgb
                    rw [decide_eq_true hout] at hv118
                    simp only [Bool.and_true] at hv118
                    subst hv118
                    have hai : (a : Int) < 8 * (N : Int) := by omega
                    obtain ⟨q, hq⟩ : ∃ q, q = a / 8 := ⟨_, rfl⟩
                    obtain ⟨m, hm⟩ : ∃ m, m = a % 8 := ⟨_, rfl⟩
                    have hq8 : (a : Int) / 8 = (q : Int) := by omega
                    have hr8 : (a : Int) % 8 = (m : Int) := by omega
                    have hqN : q < N := by omega
                    have hm8 : m < 8 := by omega
                    have HQ := hid hq; have HM := hid hm
                    have hlen : N = ((L1 ++ burstN N f pat n2).foldl flipB E).length := by rw [flips_length]; exact HN.out
                    obtain ⟨y0, hy0⟩ : ∃ y0, ((L1 ++ burstN N f pat n2).foldl flipB E)[q]? = some y0 := ⟨_, List.getElem?_eq_getElem (by omega)⟩
                    obtain ⟨d0, dz, dl⟩ := HTS2.out.data.at_b hlen (k := q) (by omega)
                    rw [show ((L1 ++ burstN N f pat n2).foldl flipB E)[q]'(by omega) = y0 from by rw [List.getElem?_eq_getElem (by omega)] at hy0; exact Option.some.inj hy0] at d0
                    simp only [byteV] at d0
                    have HT5 := hid (HTS2.out.turn HN.out hqN HQ.out HM.out hy0)
                    rw [← HSU.out] at HT5
                    have hqi : (q : Int) < (N : Int) := by omega
                    clear hq hm hlen hy0 hout
                    go_upto_region 20 with fail
                    go_region
                    all_goals
                      go_wp2
                      go_roundw
                      case rel => exact ⟨n2 + 1, by simp, by omega, (fun h => by cases h), HT5.out⟩
                      case measure => simp [intOf]; omega
                  · rw [if_neg hgb, List.append_nil] at HSU
                    have hvf : (decide (a < 8 * N) && bt) = false := by
                      cases hb : bt with
                      | false => simp
                      | true => rw [hb] at hgb; simp at hgb ⊢; omega
                    rw [hvf] at hv118
                    subst hv118
                    clear hgb hvf
                    go_wp2
                    go_roundw
                    case rel => exact ⟨n2 + 1, by simp, by omega, (fun h => by cases h), by rw [HSU.out]; exact HTS2.out⟩
                    case measure => simp [intOf]; omega
              · have hvf : (decide (n2 < 32) && burst) = false := by
                  cases hb : burst with
                  | false => simp
                  | true => rw [hb] at hgo; simp at hgo ⊢; omega
                rw [hvf] at hv101
                subst hv101
                obtain ⟨L, hL⟩ : ∃ L, L = L1 ++ burstN N f pat n2 := ⟨_, rfl⟩
                have hdec : L.foldl flipB E ≠ E → decodeA (L.foldl flipB E) = none := by
                  obtain ⟨o1, o2, o3⟩ := HHH.out
                  intro hne
                  cases hb : burst with
                  | false =>
                    have h0 := HBN2.out hb
                    have h1 := HL1.out.1 hb
                    rw [h0, h1, show burstN N f pat 0 = [] from rfl, List.append_nil] at hL
                    rw [hL, o3] at hne ⊢
                    rw [o2] at hne ⊢
                    exact three_none o1 (bitsL_length _ _) (bitsL_lt (by have := (encOk_len o1).2; omega) _) hne
                  | true =>
                    have h0 : n2 = 32 := by rw [hb] at hgo; simp at hgo; omega
                    have h1 := HL1.out.2 hb
                    rw [h0, h1, burstN_all, List.nil_append] at hL
                    have hfl := HFL.out
                    rw [hL, o3] at hne ⊢
                    rw [o2] at hne hfl ⊢
                    exact burst_none hfl hne
                have HDEC := hid hdec
                rw [← hL] at HTS2
                have hBl : (L.foldl flipB E).length = N := by rw [flips_length]; exact HN.out.symm
                obtain ⟨B, hB⟩ : ∃ B, B = L.foldl flipB E := ⟨_, rfl⟩
                have HBD := hid (show DataIs wq (.slice (some ⟨g, 0, none⟩) N c) B from by rw [hB]; exact HTS2.out.data)
                rw [← hB] at HDEC hBl
                have HBL := hid hBl
                have HUQ := hid (show Upd (fun _ => False) w wq from ((HU3.out.trans HUB.out (fun _ _ e => e)).trans HTS2.out.upd (fun kk hkk e => by have := HG0.out; subst e; omega)))
                have HWQ := hid (show DataIs wq (.slice (some ⟨gw, 0, none⟩) N cw) E from (HNW.out.data.upd HUB.out (fun _ _ e => e)).upd HTS2.out.upd (fun kk hkk e => by
                  have h1 : gw = kk := by simpa [Value.ownBlock] using hkk
                  have := HGW.out
                  omega))
                have HNWN := hid (show NewB w wq (.slice (some ⟨gw, 0, none⟩) N cw) E from ⟨HWQ.out, fun kk hkk => by
                  have h1 := HNW.out.new kk hkk
                  exact Nat.le_trans HU2.out.size h1, HUQ.out⟩)
                clear hvf hgo hL hdec hB hBl hn2 HL1 HBN2 HTS HTS2 HBN
                have HSM := hid (lawSame_any (w := wq) (a := .slice (some ⟨gw, 0, none⟩) N cw) (b := .slice (some ⟨g, 0, none⟩) N c) (xs := E) (bs := B) HWQ.out.bat HBD.out.bat)
                obtain ⟨sb, hsb⟩ : ∃ sb, sb = decide (E = B) := ⟨_, rfl⟩
                rw [← hsb] at HSM
                have HSB := hid hsb
                clear hsb
                go_upto_if 135 with (go_at_call 10; refine HSM.out.mono ?_; rintro e W ⟨rfl, hww⟩; obtain rfl := hww.symm)
                go_cut [] (fun wx => Upd (fun _ => False) wq wx)
                case first =>
                  cases sb
                  · have HDC := hid (decode_any (w := wq) (HT.out.keep HUQ.out) HBD.out.bat (by rw [HBL.out]; omega))
                    rw [HDEC.out (fun e => by have h1 := HSB.out; rw [e] at h1; simp at h1)] at HDC
                    skip
                    go_wp2_with fail
                    refine HDC.out.mono ?_
                    rintro e W6 ⟨hres, hu6⟩
                    obtain rfl := hres
                    have HU6 := hid (hu6.alloc (.cells (verC 0 0 0 0 0 (.slice none 0 0) (.slice none 0 0)) 25))
                    clear hu6
                    go_upto_region 23 with fail
                    generalize W6.alloc (.cells #[.int .i64 0, .int .i64 0, .int .i64 0, .int .i64 0, .int .i64 0, .slice none 0 0, .slice none 0 0] 25) = W7 at HU6 ⊢
                    go_wp2_with fail
                    refine (lawNum_any _ _ (by omega)).mono ?_
                    rintro e W ⟨rfl, hww⟩
                    obtain rfl := hww.symm
                    go_wp2
                    go_meet
                    exact HU6.out
                  · skip
                    go_wp2
                    go_meet
                    exact Upd.refl _ _
                case rest =>
                  have HUC := hid (show Upd (fun _ => False) w wc from HUQ.out.trans hcut (fun _ _ e => e))
                  have HNC := hid (show NewB w wc (.slice (some ⟨gw, 0, none⟩) N cw) E from ⟨HWQ.out.upd hcut (fun _ _ e => e), HNWN.out.new, HUC.out⟩)
                  clear hcut
                  have hN0 := HNL.out
                  obtain ⟨c0, hc0⟩ : ∃ c0, c0 = (cut % (N : Int)).toNat := ⟨_, rfl⟩
                  have hc0l : c0 < N := by
                    have h1 := Int.emod_lt_of_pos cut (show (0 : Int) < (N : Int) by omega)
                    omega
                  have HWH := hid (whole_any cut 0 ((N : Int) - 1) (by omega) (by omega) (by omega) wc)
                  rw [show (0 + cut % ((N : Int) - 1 - 0 + 1)) = (c0 : Int) from by
                    have h1 := Int.emod_nonneg cut (show (N : Int) ≠ 0 by omega)
                    rw [hc0, Int.toNat_of_nonneg h1, show ((N : Int) - 1 - 0 + 1) = (N : Int) from by omega]
                    omega] at HWH
                  have hcw0 : ¬ cw = 0 := by omega
                  have hc0c : (c0 : Int) ≤ (cw : Int) := by omega
                  have HSL := hid (show BAt wc (.slice (some ⟨gw, 0, none⟩) c0 cw) (E.take c0) from by
                    have hb := HNC.out.data.bat
                    rw [HN.out] at hb
                    have hs := hb.sub (lo := 0) (n := c0) (by have := HN.out; omega)
                    rw [Nat.add_zero, Nat.sub_zero, List.drop_zero] at hs
                    exact hs)
                  have HDC := hid (decode_any (w := wc) (HT.out.keep HUC.out) HSL.out (by rw [List.length_take]; omega))
                  rw [show decodeA (E.take c0) = none from by
                    obtain ⟨o1, o2, o3⟩ := HHH.out
                    rw [o3]
                    exact cut_none o1 (by omega)] at HDC
                  clear hc0 hc0l hN0
                  go_wp2_with fail
                  refine HWH.out.mono ?_
                  rintro e W ⟨rfl, hww⟩
                  obtain rfl := hww.symm
                  go_wp2_with fail
                  refine HDC.out.mono ?_
                  rintro e W6 ⟨hres, hu6⟩
                  obtain rfl := hres
                  have HU6 := hid (hu6.alloc (.cells (verC 0 0 0 0 0 (.slice none 0 0) (.slice none 0 0)) 25))
                  clear hu6 HWH HDC
                  go_upto_region 26 with fail
                  generalize W6.alloc (.cells #[.int .i64 0, .int .i64 0, .int .i64 0, .int .i64 0, .int .i64 0, .slice none 0 0, .slice none 0 0] 25) = W7 at HU6 ⊢
                  have HU7 := hid (HUC.out.trans HU6.out (fun _ _ e => e))
                  have hNC7 : NewB w W7 (.slice (some ⟨gw, 0, none⟩) N cw) E := ⟨HNC.out.data.upd HU6.out (fun _ _ e => e), HNC.out.new, HU7.out⟩
                  obtain ⟨ao9, L9, cap9, W9, hr9, hn9⟩ := hNC7.glue (HB.out.keep HU7.out) (by have h1 := HML.out; have h2 := HMN.out; have h3 := HN.out; omega)
                  have HR9 := hid hr9; have HN9 := hid hn9
                  have HD9 := hid (decode_any (w := W9) (HT.out.keep hn9.upd) hn9.data.bat (by have h1 := HML.out; have h2 := HMN.out; have h3 := HN.out; rw [List.length_append]; omega))
                  clear hNC7 hr9 hn9
                  have HMO := hid (show (M = 0 ↔ more = []) from by have h := HMN.out; rw [h]; exact List.length_eq_zero_iff)
                  go_wp2_with (at_builtin; refine wpList_append_run rfl _ _ _ rfl rfl rfl HR9.out ?_)
                  refine HD9.out.mono ?_
                  rintro e W10 ⟨hres, hu10⟩
                  have HU10 := hid (HN9.out.upd.trans hu10 (fun _ _ e => e))
                  clear hu10 HD9
                  by_cases hM0 : M = 0
                  · have hmore : more = [] := HMO.out.1 hM0
                    obtain ⟨o1, o2, o3⟩ := HHH.out
                    rw [hmore, List.append_nil, o3, decode_encode o1 HCNT.out] at hres
                    obtain ⟨v10, rfl, hown⟩ := hres
                    obtain ⟨t1, e1, t2, e2, rfl, -, -⟩ := hown.at
                    obtain ⟨m1', hm1'⟩ : ∃ m, m = y.state.length := ⟨_, rfl⟩
                    obtain ⟨m2', hm2'⟩ : ∃ m, m = y.runs.length := ⟨_, rfl⟩
                    rw [← hm1', ← hm2']
                    have HU11 := hid (HU10.out.alloc (.cells #[.int .i64 y.gen, .int .i64 y.flushed, .int .i64 y.next, .int .i64 y.low, .int .i64 y.clock, .slice t1 m1' e1, .slice t2 m2' e2] 25))
                    have hMi : ¬ ((0 : Int) < (M : Int)) := by omega
                    have HM0 := hid hM0
                    clear hown hm1' hm2' hmore o1 o2 o3 hM0 HMO
                    go_upto_region 27 with fail
                    generalize W10.alloc (.cells #[.int .i64 y.gen, .int .i64 y.flushed, .int .i64 y.next, .int .i64 y.low, .int .i64 y.clock, .slice t1 m1' e1, .slice t2 m2' e2] 25) = W11 at HU11 ⊢
                    go_wp2_with fail
                    refine (started_any (HT.out.keep HU11.out)).mono ?_
                    rintro e W12 ⟨rfl, hu12⟩
                    have HU12 := hid (HU11.out.trans hu12 (fun _ _ e => e))
                    clear hu12
                    go_wp2_with fail
                    refine (lawNum_any _ _ (by omega)).mono ?_
                    rintro e W ⟨rfl, hww⟩
                    obtain rfl := hww.symm
                    go_wp2_with fail
                    refine (lawNum_any _ _ (by omega)).mono ?_
                    rintro e W ⟨rfl, hww⟩
                    obtain rfl := hww.symm
                    go_wp2
                    go_ret
                    refine ⟨?_, HU12.out⟩
                    show Ending.returned (Value.bool (!decide (0 < M))) = _
                    rw [HM0.out]
                    rfl
                  · obtain ⟨o1, o2, o3⟩ := HHH.out
                    rw [o3, more_none (fun e => hM0 (HMO.out.2 e))] at hres
                    obtain rfl := hres
                    have HU11 := hid (HU10.out.alloc (.cells (verC 0 0 0 0 0 (.slice none 0 0) (.slice none 0 0)) 25))
                    have hMi : (0 : Int) < (M : Int) := by omega
                    have HMP := hid (show 0 < M from by omega)
                    clear o1 o2 o3 hM0 HMO
                    go_upto_region 27 with fail
                    generalize W10.alloc (.cells #[.int .i64 0, .int .i64 0, .int .i64 0, .int .i64 0, .int .i64 0, .slice none 0 0, .slice none 0 0] 25) = W11 at HU11 ⊢
                    go_wp2_with fail
                    refine (started_any (HT.out.keep HU11.out)).mono ?_
                    rintro e W12 ⟨rfl, hu12⟩
                    have HU12 := hid (HU11.out.trans hu12 (fun _ _ e => e))
                    clear hu12
                    go_wp2_with fail
                    refine (lawNum_any _ _ (by omega)).mono ?_
                    rintro e W ⟨rfl, hww⟩
                    obtain rfl := hww.symm
                    go_wp2_with fail
                    refine (lawNum_any _ _ (by omega)).mono ?_
                    rintro e W ⟨rfl, hww⟩
                    obtain rfl := hww.symm
                    go_wp2
                    go_ret
                    refine ⟨?_, HU12.out⟩
                    show Ending.returned (Value.bool (decide (0 < M))) = _
                    rw [decide_eq_true HMP.out]

end Go.Proofs.YtgaidmohdhaonaaDoor
