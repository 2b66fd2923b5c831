/-
  The walk of DiskNames.
-/
import Derived.Test.YtohpgmeflmppaaaLawH
import Derived.Deep.DeepCutAuto
import Derived.Laws.Cover1
namespace Go.Proofs.Ytohpgmeflmppaaa
set_option linter.unusedVariables false
set_option linter.unusedSimpArgs false
set_option linter.unnecessarySimpa false
set_option linter.unusedSectionVars false
open Go Go.RowKit

/-- v is a slice of strings. -/
def StrsAt (w : World) (v : Value) (l : List ByteArray) : Prop :=
  ∃ ao cap, v = .slice ao l.length cap ∧ l.length ≤ cap ∧ cap ≤ 9223372036854775807 ∧ ∀ k (hk : k < l.length), ∃ b o, ao = some ⟨b, o, none⟩ ∧ b < w.heap.size ∧ w.cell? ⟨b, o + k, none⟩ = some (.string l[k])

theorem strs_shape {w : World} {base : Nat} {v : Value} {n : Nat} {l : List ByteArray} (h : w.ownsRow base 9 1 v n (l.map Value.string)) : ∃ ao cap, v = .slice ao l.length cap ∧ n = l.length ∧ l.length ≤ cap ∧
    (0 < l.length → ∃ g, ao = some ⟨g, 0, none⟩ ∧ base ≤ g ∧ g < w.heap.size ∧ ∀ j (hj : j < l.length), w.cell? ⟨g, j, none⟩ = some (.string l[j])) := by
  obtain ⟨hl, h⟩ := h
  have hn : n = l.length := by simpa using hl.symm
  subst hn
  rcases h with ⟨rfl, he⟩ | ⟨g, cap, cur, rfl, hb, hg, h2, h3, h4, h5⟩
  · have : l = [] := by simpa using he
    subst this
    exact ⟨none, 0, rfl, rfl, by simp, fun h => absurd h (by simp)⟩
  · refine ⟨some ⟨g, 0, none⟩, cap, rfl, rfl, by omega, fun _ => ⟨g, rfl, hb, lt_of_heap hg, fun j hj => ?_⟩⟩
    rw [cell_of_row w g j cur _ _ hg, ← Array.getElem?_toList]
    have := congrArg (fun l => l[j]?) h5
    simp only [List.getElem?_take, Nat.mul_one, List.getElem?_map, List.getElem?_eq_getElem hj, Option.map_some] at this
    rw [if_pos (by omega)] at this
    exact this

theorem filter_at {f : ByteArray → Bool} : ∀ (l : List ByteArray) (k : Nat) (hk : k < l.length), f l[k] = true → (l.filter f)[((l.take k).filter f).length]? = some l[k]
  | a :: t, 0, _, h => by simp only [List.getElem_cons_zero] at h; simp [List.filter_cons, h]
  | a :: t, k + 1, hk, h => by
    have ih := filter_at t k (by simpa using hk) (by simpa using h)
    by_cases ha : f a = true
    · simpa [List.filter_cons, ha] using ih
    · simpa [List.filter_cons, ha] using ih

theorem wrong_step (s : ByteArray) (k : Nat) (h : k < s.size) : wrongTill s (k + 1) = (wrongTill s k || (decide (s[k] ≤ 32) || decide (126 < s[k]))) := by
  have hl : k < s.data.toList.length := by simpa using h
  unfold wrongTill
  rw [List.take_succ_eq_append_getElem hl, List.any_append]
  simp [ByteArray.getElem_eq_getElem_data, Bool.or_assoc]

set_option maxRecDepth 100000 in
set_option maxHeartbeats 4000000 in
theorem names_walk {nv : Value} {names : List ByteArray} {pre bad : ByteArray} {w : World} (hd : StrsAt w nv names) (hpre : pre.size ≤ maxLen) (hbad : bad.size ≤ maxLen) :
    Calls Try.prog 7 #[nv, .string pre, .string bad] w fun e w' => e = .returned (.bool true) ∧ Below w.heap.size w w' := by
  obtain ⟨ao, cap, rfl, hl1, hl2, hcells⟩ := hd
  have HCE := hid hcells
  have HBAD := hid hbad
  clear hcells hpre
  go_enter Try.func7, Try.ntmps7
  go_wp2_with fail
  refine (made_any w 64 (by decide) (by decide)).mono ?_
  rintro e w1 ⟨s0, rfl, hfr⟩
  obtain ⟨hdi, -, -, hddn, hdarm, hdlow, hdupd⟩ := hfr
  have ON0 := hid (show On w w1 s0.p s0 from ⟨hdi, rfl, hdlow, hdupd⟩)
  have F1 := hid hddn; have F2 := hid hdarm
  obtain ⟨p, hp⟩ : ∃ p, p = s0.p := ⟨_, rfl⟩
  rw [← hp] at ON0
  rw [← hp]
  clear hdi hddn hdarm hdlow hdupd hp
  go_wp2
  go_loopw [8] (fun i wr => ∃ k : Nat, k ≤ names.length ∧ i = .int .i64 k ∧ ∃ s, On w wr p s ∧ s.down = false ∧ s.armed = 0) (fun i _ => names.length - (intOf i).toNat)
  case atStart => exact ⟨0, Nat.zero_le _, rfl, _, ON0.out, F1.out, F2.out⟩
  case round =>
    obtain ⟨k, hk, rfl, s, hon, hdn, har⟩ := hrel
    have HON := hid hon; have HDN := hid hdn; have HAR := hid har
    clear hon hdn har
    by_cases hlt : k < names.length
    · obtain ⟨b, o, rfl, hb, c0⟩ := HCE.out k hlt
      have d0 : wr.cell? ⟨b, o + k, none⟩ = some (.string names[k]) := by rw [World.cell?_of_block (w := w) (HON.out.upd.block b hb (fun h => h)), c0]
      have hcr := create_any HON.out.ins names[k]
      rw [HON.out.p] at hcr
      have HCR := hid hcr
      clear c0 hb hcr
      go_wp2_with fail
      refine HCR.out.mono ?_
      rintro e w3 ⟨rfl, s2, hst, habs⟩
      have ON2 := hid (HON.out.step hst)
      have HC := hid (createA_calm HDN.out HAR.out habs)
      clear hst habs
      go_wp2
      go_roundw
      case rel => exact ⟨k + 1, by omega, by go_num, _, ON2.out, HC.out.1, HC.out.2⟩
      case measure => simp [intOf]; omega
    · obtain rfl : k = names.length := by omega
      clear hlt HCE
      have hli := list_any HON.out.ins ⟨#[]⟩
      rw [HON.out.p] at hli
      have HLI := hid hli
      clear hli
      go_wp2_with fail
      refine HLI.out.mono ?_
      rintro e w3 ⟨v1, n1, rfl, hown1, hu1⟩
      rw [show listNames s ⟨#[]⟩ = sortNames s.names from listNames_all s] at hown1
      have ON1 := hid (HON.out.more hu1)
      have hnd : s.names.Nodup := HON.out.ins.names
      have HND := hid hnd
      obtain ⟨L, hL⟩ : ∃ L, L = sortNames s.names := ⟨_, rfl⟩
      rw [← hL] at hown1
      have HL := hid hL
      have HOWN1 := hid hown1
      have hli := list_any ON1.out.ins pre
      rw [ON1.out.p] at hli
      have HLI2 := hid hli
      clear hown1 hu1 hnd hL hli
      obtain ⟨ao1, cap1, rfl, rfl, -, -⟩ := strs_shape HOWN1.out
      go_wp2_with fail
      refine HLI2.out.mono ?_
      rintro e w4 ⟨v2, n2, rfl, hown2, hu2⟩
      have ON2 := hid (ON1.out.more hu2)
      have hown1 := owns_upd HOWN1.out hu2 (fun _ _ h => h)
      obtain ⟨M, hM⟩ : ∃ M, M = L.filter (hasPre pre) := ⟨_, rfl⟩
      rw [show listNames s pre = M from by rw [hM, HL.out]; rfl] at hown2
      have HM := hid hM
      obtain ⟨ao1', cap1', e1, -, -, hc1⟩ := strs_shape hown1
      injection e1 with e1 _ e3
      subst e1 e3
      obtain ⟨ao2, cap2, rfl, rfl, hcap2, hc2⟩ := strs_shape hown2
      have C1 := hid hc1; have C2 := hid hc2
      have hML : M.length ≤ L.length := by rw [hM]; exact List.length_filter_le _ _
      have HML := hid hML
      have hL256 : L.length ≤ 256 := by
        have h1 := HL.out
        have h2 := (sortNames_perm s.names).length_eq
        have h3 := HON.out.ins.count
        have h4 : s.names.length = s.recs.length := by simp [DS.names]
        rw [h1]; omega
      clear hown1 hown2 hu2 hM hc1 hc2
      go_wp2
      go_loopw [10, 11] (fun mv i wr => ∃ k : Nat, k ≤ L.length ∧ i = .int .i64 k ∧ (∃ mo mc, mv = .slice mo (M.length - ((L.take k).filter (hasPre pre)).length) mc ∧ M.length - ((L.take k).filter (hasPre pre)).length ≤ mc ∧
        (((L.take k).filter (hasPre pre)).length < M.length → ∃ g, mo = some ⟨g, ((L.take k).filter (hasPre pre)).length, none⟩ ∧ g < w4.heap.size ∧ ∀ j (hj : j < M.length), w4.cell? ⟨g, j, none⟩ = some (.string M[j]))) ∧ Upd (fun _ => False) w4 wr) (fun _ i _ => L.length - (intOf i).toNat)
      case atStart =>
        refine ⟨0, Nat.zero_le _, rfl, ⟨ao2, cap2, by simp, by simpa using hcap2, fun h => ?_⟩, Upd.refl _ _⟩
        obtain ⟨g, h1, -, h2, h3⟩ := C2.out (by simpa using h)
        exact ⟨g, by simpa using h1, h2, h3⟩
      case round =>
        obtain ⟨k, hk, rfl, ⟨mo, mc, rfl, hmc, hmo⟩, hup⟩ := hrel
        obtain ⟨j, hj⟩ : ∃ j, j = ((L.take k).filter (hasPre pre)).length := ⟨_, rfl⟩
        rw [← hj] at hmc hmo ⊢
        have HJ := hid hj; have HMO := hid hmo; have HUP := hid hup
        clear hj hmo hup
        by_cases hlt : k < L.length
        · obtain ⟨g1, rfl, -, hg1, hcl⟩ := C1.out (by omega)
          have HCL := hid (show ∀ W, Upd (fun _ => False) w4 W → g1 < W.heap.size ∧ ∀ i (hi : i < L.length), W.cell? ⟨g1, i, none⟩ = some (.string L[i]) from fun W hW => ⟨Nat.lt_of_lt_of_le hg1 hW.size, fun i hi => by
            rw [World.cell?_of_block (w := w4) (a := ⟨g1, i, none⟩) (hW.block g1 hg1 (fun h => h))]
            exact hcl i hi⟩)
          clear hcl hg1
          go_upto_region 13 with fail
          go_cut [57] (fun t wx => t = .bool false ∧ ∃ n, wx = wr.drewN n)
          case first =>
            obtain ⟨hg, hc⟩ := HCL.out wr HUP.out
            rcases Nat.eq_zero_or_pos k with rfl | hk0
            · clear hc hg hlt
              go_quiet (fail)
              go_wp2
              go_meet
              case rel => exact ⟨rfl, _, rfl⟩
            · obtain ⟨k', hkk⟩ : ∃ k', k = k' + 1 := ⟨k - 1, by omega⟩
              have d0 := hc k' (by omega)
              have d1 := hc k hlt
              have hls : Op.bytesLess (L[k']'(by omega)).toList (L[k]).toList = true := by
                subst hkk
                have hls := sorted_step HND.out (i := k') (by rw [← HL.out]; exact hlt)
                simp only [← HL.out] at hls
                exact hls
              obtain ⟨x0, hx0⟩ : ∃ x, x = L[k']'(by omega) := ⟨_, rfl⟩
              obtain ⟨x1, hx1⟩ : ∃ x, x = L[k] := ⟨_, rfl⟩
              rw [← hx0] at d0 hls
              rw [← hx1] at d1 hls
              have hlt' : k' < L.length := by omega
              have hwr : IntKind.i64.wrap (k' : Int) = (k' : Int) := by rw [IntKind.wrap_i64]; omega
              have hk1 : (k : Int) - 1 = (k' : Int) := by omega
              clear hc hx0 hx1 hkk
              go_quiet (fail)
              go_wp2
              go_meet
              case rel => exact ⟨rfl, _, rfl⟩
          case rest =>
          obtain ⟨rfl, m, hwc⟩ := hcut
          have HUP2 := hid (show Upd (fun _ => False) w4 wc from by rw [hwc]; exact HUP.out.drewN m)
          clear hwc
          obtain ⟨hg, hc⟩ := HCL.out wc HUP2.out
          have d0 := hc k hlt
          obtain ⟨x, hx⟩ : ∃ x, x = L[k] := ⟨_, rfl⟩
          rw [← hx] at d0
          have HX := hid hx
          obtain ⟨cap5, W5, hcv5, hby5, hcp5, hup5, hsz5⟩ := str_bytes wc pre
          have d5 : W5.cell? ⟨g1, k, none⟩ = some (.string x) := by rw [World.cell?_of_block (w := wc) (a := ⟨g1, k, none⟩) (hup5.block g1 hg (fun h => h))]; exact d0
          have hg5 : g1 < W5.heap.size := Nat.lt_of_lt_of_le hg hup5.size
          obtain ⟨cap6, W6, hcv6, hby6, hcp6, hup6, hsz6⟩ := str_bytes W5 x
          have hby5' := hby5.upd hup6 (fun a l c e _ => ⟨fun h => h, by injection e with e _ _; injection e with e; subst e; simp only; omega⟩)
          have HBG := hid (begins_any hby5' hby6 (fun o l c e => by injection e with _ h2 h3; omega))
          have HPRE := hid (hasPre_begins pre x)
          have HU6 := hid (HUP2.out.trans (hup5.trans hup6 (fun _ _ h => h)) (fun _ _ h => h))
          clear hc hx hby5 hby6 hby5' hcp5 hcp6 hup5 hup6 hsz5 hsz6
          go_wp2_with fail
          refine HBG.out.mono ?_
          rintro e w' ⟨rfl, hww⟩
          obtain rfl := hww.symm
          rw [← HPRE.out]
          have HSTEP := hid (filter_take_step (hasPre pre) L k hlt)
          cases hpx : hasPre pre x with
          | false =>
            have hnx : ((L.take (k + 1)).filter (hasPre pre)).length = j := by rw [HSTEP.out, ← HX.out, hpx, HJ.out]; simp
            have HNX := hid hnx
            clear hnx hpx
            go_wp2
            go_roundw
            case rel => exact ⟨k + 1, by omega, by go_num, ⟨mo, mc, by rw [HNX.out], by rw [HNX.out]; exact hmc, by rw [HNX.out]; exact HMO.out⟩, HU6.out⟩
            case measure => simp [intOf]; omega
          | true =>
            have hnx : ((L.take (k + 1)).filter (hasPre pre)).length = j + 1 := by rw [HSTEP.out, ← HX.out, hpx, HJ.out]; simp
            have HNX := hid hnx
            have hat := filter_at (f := hasPre pre) L k hlt (by rw [← HX.out]; exact hpx)
            rw [← HJ.out, ← HM.out] at hat
            have hjM : j < M.length := by
              rcases Nat.lt_or_ge j M.length with h | h
              · exact h
              · rw [List.getElem?_eq_none h] at hat; cases hat
            obtain ⟨g2, rfl, hg2, hc2⟩ := HMO.out hjM
            have HC2 := hid hc2
            have HG2 := hid hg2
            have hg26 : g2 < W6.heap.size := Nat.lt_of_lt_of_le hg2 HU6.out.size
            have d2 : W6.cell? ⟨g2, j, none⟩ = some (.string x) := by
              rw [World.cell?_of_block (w := w4) (a := ⟨g2, j, none⟩) (HU6.out.block g2 hg2 (fun h => h)), hc2 j hjM]
              rw [List.getElem?_eq_getElem hjM] at hat
              injection hat with hat
              rw [hat, HX.out]
            obtain ⟨hg6, hc6⟩ := HCL.out W6 HU6.out
            have d6 := hc6 k hlt
            rw [← HX.out] at d6
            have hm0 : ¬ (M.length - j = 0) := by omega
            have hm1 : (((M.length - j : Nat) : Int) == 0) = false := by simp; omega
            clear hnx hat hc2 hg2 hc6 hpx
            go_wp2_with fail
            go_quiet (fail)
            go_wp2
            go_roundw
            case rel => exact ⟨k + 1, by omega, by go_num, ⟨_, mc - 1, by rw [HNX.out, Nat.sub_sub], by rw [HNX.out]; omega, fun h => ⟨g2, by rw [HNX.out] at h ⊢; rw [if_neg (by omega)], HG2.out, HC2.out⟩⟩, HU6.out.drewN _⟩
            case measure => simp [intOf]; omega
        · obtain rfl : k = L.length := by omega
          have hjl : j = M.length := by rw [HJ.out, List.take_length, HM.out]
          obtain rfl := hjl
          have hz : M.length - M.length = 0 := by omega
          have ON3 := hid (ON2.out.more HUP.out)
          clear hlt hmc hcap2 hML HOWN1 C1 C2 HMO
          go_upto_region 21 with fail
          go_cut [12] (fun t wx => t = .bool (wrongTill bad 0) ∧ wx = wr)
          case first =>
            by_cases b0 : bad = ByteArray.empty
            · have HR := hid (show wrongTill bad 0 = true by rw [b0]; rfl)
              have b0' : ((bad.size : Int) == 0) = true := by rw [b0]; rfl
              clear b0
              go_wp2
              go_meet
              case rel => exact ⟨by rw [HR.out]; first | done | rfl | exact congrArg Value.bool (decide_eq_true (by omega)) | exact congrArg Value.bool (decide_eq_false (by omega)), rfl⟩
            · have b0' : ¬ bad.size = 0 := fun h => b0 (ByteArray.size_eq_zero_iff.1 h)
              have b2 : ((bad.size : Int) == 0) = false := by simp; exact b0
              by_cases b1 : 64 < bad.size
              · have HR := hid (show wrongTill bad 0 = true by simp [wrongTill, b1])
                go_wp2
                go_meet
                case rel => exact ⟨by rw [HR.out]; first | done | rfl | exact congrArg Value.bool (decide_eq_true (by omega)) | exact congrArg Value.bool (decide_eq_false (by omega)), rfl⟩
              · have HR := hid (show wrongTill bad 0 = false by unfold wrongTill; rw [decide_eq_false b0', decide_eq_false b1]; simp)
                go_wp2
                go_meet
                case rel => exact ⟨by rw [HR.out]; first | done | rfl | exact congrArg Value.bool (decide_eq_true (by omega)) | exact congrArg Value.bool (decide_eq_false (by omega)), rfl⟩
          case rest =>
          obtain ⟨rfl, hwc⟩ := hcut
          obtain rfl := hwc.symm
          have hbs : bad.size ≤ 9223372036854775807 := by simpa [maxLen] using HBAD.out
          go_wp2
          go_loopw [12, 13] (fun t i wy => ∃ k : Nat, k ≤ bad.size ∧ i = .int .i64 k ∧ t = .bool (wrongTill bad k) ∧ wy = wr) (fun _ i _ => bad.size - (intOf i).toNat)
          case atStart => exact ⟨0, Nat.zero_le _, rfl, rfl, rfl⟩
          case round =>
            obtain ⟨k, hk, rfl, rfl, hwy⟩ := hrel
            obtain rfl := hwy.symm
            by_cases hlt : k < bad.size
            · have HWS := hid (wrong_step bad k hlt)
              cases hwt : wrongTill bad k with
              | true =>
                have hr : wrongTill bad (k + 1) = true := by rw [HWS.out, hwt]; rfl
                have HR := hid hr
                clear hr hwt
                go_wp2
                go_roundw
                case rel => exact ⟨k + 1, by omega, by go_num, by rw [HR.out], by first | rfl | trivial⟩
                case measure => simp [intOf]; omega
              | false =>
                have hr : wrongTill bad (k + 1) = (decide (bad[k].toNat ≤ 32) || decide (126 < bad[k].toNat)) := by
                  rw [HWS.out, hwt, Bool.false_or]
                  congr 1 <;> simp [UInt8.le_iff_toNat_le, UInt8.lt_iff_toNat_lt]
                have HR := hid hr
                clear hr hwt
                by_cases c1 : bad[k].toNat ≤ 32
                · have c1' : ((bad[k].toNat : Nat) : Int) ≤ 32 := by omega
                  go_wp2
                  go_roundw
                  case rel => exact ⟨k + 1, by omega, by go_num, by rw [HR.out]; simp [c1], by first | rfl | trivial⟩
                  case measure => simp [intOf]; omega
                · have c1' : ¬ ((bad[k].toNat : Nat) : Int) ≤ 32 := by omega
                  by_cases c2 : 126 < bad[k].toNat
                  · have c2' : (126 : Int) < ((bad[k].toNat : Nat) : Int) := by omega
                    go_wp2
                    go_roundw
                    case rel => exact ⟨k + 1, by omega, by go_num, by rw [HR.out]; simp [c1, c2], by first | rfl | trivial⟩
                    case measure => simp [intOf]; omega
                  · have c2' : ¬ (126 : Int) < ((bad[k].toNat : Nat) : Int) := by omega
                    go_wp2
                    go_roundw
                    case rel => exact ⟨k + 1, by omega, by go_num, by rw [HR.out]; simp [c1, c2], by first | rfl | trivial⟩
                    case measure => simp [intOf]; omega
            · obtain rfl : k = bad.size := by omega
              cases hwt : wrongTill bad bad.size with
              | false =>
                go_wp2
                go_ret
                exact ⟨rfl, ON3.out.upd.below (Nat.le_refl _) (fun _ h => h.elim)⟩
              | true =>
                have BAD := hid (wrong_bad hwt)
                have hrd := read_bad ON3.out.ins bad (-1) (-1) (by rw [bad_res HDN.out BAD.out]; decide)
                rw [bad_res HDN.out BAD.out, ON3.out.p] at hrd
                have HRD := hid hrd
                have hsz := size_any ON3.out.ins bad
                rw [bad_res HDN.out BAD.out, ON3.out.p] at hsz
                have HSZ := hid hsz
                clear hrd hsz hwt hlt hk
                go_wp2_with fail
                refine HRD.out.mono ?_
                rintro e w' ⟨rfl, hww⟩
                obtain rfl := hww.symm
                go_wp2_with fail
                refine HSZ.out.mono ?_
                rintro e w' ⟨rfl, hww⟩
                obtain rfl := hww.symm
                have hcr := create_any ON3.out.ins bad
                rw [ON3.out.p, createA_bad HDN.out BAD.out] at hcr
                have HCR8 := hid hcr
                clear hcr
                go_wp2_with (go_at_call 13; refine (num_any _ _).mono ?_; rintro e w' ⟨rfl, hww⟩; obtain rfl := hww.symm)
                refine HCR8.out.mono ?_
                rintro e w8 ⟨rfl, s8, hst, habs⟩
                have ON8 := hid (ON3.out.step hst)
                have DN8 := hid ((congrArg DiskA.down habs).trans HDN.out)
                clear hst habs
                have hcr := append_any ON8.out.ins bad (v := .slice none 0 0) (bs := []) ⟨none, 0, rfl, fun _ => ⟨rfl, rfl⟩, fun a h => by cases h⟩ (fun a l c h => by cases h)
                rw [ON8.out.p, appendA_bad DN8.out BAD.out] at hcr
                have HCR9 := hid hcr
                clear hcr
                go_wp2_with (go_at_call 13; refine (num_any _ _).mono ?_; rintro e w' ⟨rfl, hww⟩; obtain rfl := hww.symm)
                refine HCR9.out.mono ?_
                rintro e w9 ⟨rfl, s9, hst, habs⟩
                have ON9 := hid (ON8.out.step hst)
                have DN9 := hid ((congrArg DiskA.down habs).trans DN8.out)
                clear hst habs
                have hcr := sync_any ON9.out.ins bad
                rw [ON9.out.p, syncA_bad DN9.out BAD.out] at hcr
                have HCR10 := hid hcr
                clear hcr
                go_wp2_with (go_at_call 13; refine (num_any _ _).mono ?_; rintro e w' ⟨rfl, hww⟩; obtain rfl := hww.symm)
                refine HCR10.out.mono ?_
                rintro e w10 ⟨rfl, s10, hst, habs⟩
                have ON10 := hid (ON9.out.step hst)
                have DN10 := hid ((congrArg DiskA.down habs).trans DN9.out)
                clear hst habs
                have hcr := rename_any ON10.out.ins bad ⟨#[120]⟩
                rw [ON10.out.p, renameA_bad DN10.out BAD.out] at hcr
                have HCR11 := hid hcr
                clear hcr
                go_wp2_with (go_at_call 13; refine (num_any _ _).mono ?_; rintro e w' ⟨rfl, hww⟩; obtain rfl := hww.symm)
                refine HCR11.out.mono ?_
                rintro e w11 ⟨rfl, s11, hst, habs⟩
                have ON11 := hid (ON10.out.step hst)
                have DN11 := hid ((congrArg DiskA.down habs).trans DN10.out)
                clear hst habs
                have hcr := rename_any ON11.out.ins ⟨#[120]⟩ bad
                rw [ON11.out.p, renameA_bad2 DN11.out (by decide) BAD.out] at hcr
                have HCR12 := hid hcr
                clear hcr
                go_wp2_with (go_at_call 13; refine (num_any _ _).mono ?_; rintro e w' ⟨rfl, hww⟩; obtain rfl := hww.symm)
                refine HCR12.out.mono ?_
                rintro e w12 ⟨rfl, s12, hst, habs⟩
                have ON12 := hid (ON11.out.step hst)
                have DN12 := hid ((congrArg DiskA.down habs).trans DN11.out)
                clear hst habs
                have hcr := delete_any ON12.out.ins bad
                rw [ON12.out.p, deleteA_bad DN12.out BAD.out] at hcr
                have HCR13 := hid hcr
                clear hcr
                go_wp2_with (go_at_call 13; refine (num_any _ _).mono ?_; rintro e w' ⟨rfl, hww⟩; obtain rfl := hww.symm)
                refine HCR13.out.mono ?_
                rintro e w13 ⟨rfl, s13, hst, habs⟩
                have ON13 := hid (ON12.out.step hst)
                have DN13 := hid ((congrArg DiskA.down habs).trans DN12.out)
                clear hst habs
                have hfl := flip_bad ON13.out.ins bad 0 BAD.out
                rw [ON13.out.p] at hfl
                have HFL := hid hfl
                clear hfl
                go_wp2_with (go_at_call 13; refine (num_any _ _).mono ?_; rintro e w' ⟨rfl, hww⟩; obtain rfl := hww.symm)
                refine HFL.out.mono ?_
                rintro e w20 ⟨rfl, m20, hww⟩
                have ON20 := hid (show On w w20 p s13 from ON13.out.more (by rw [hww]; exact (Upd.refl _ _).drewN m20))
                clear hww
                go_wp2_with (go_at_call 13; refine (num_any _ _).mono ?_; rintro e w' ⟨rfl, hww⟩; obtain rfl := hww.symm)
                go_ret
                exact ⟨rfl, ON20.out.upd.below (Nat.le_refl _) (fun _ h => h.elim)⟩

end Go.Proofs.Ytohpgmeflmppaaa
