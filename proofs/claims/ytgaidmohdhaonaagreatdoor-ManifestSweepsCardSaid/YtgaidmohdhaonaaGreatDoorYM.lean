/-
  Package strataref1, walked: Ordered, ReadOrdered.
  Package strataref1, walked: Rising, Falling, ReadRising, ReadFalling.
  Package strataref2, walked: out, Check.
-/
import Derived.Test.YtgaidmohdhaonaaGreatDoorYL
namespace Go.Proofs.YtgaidmohdhaonaaGreatDoor
set_option linter.unusedVariables false
set_option linter.unusedSimpArgs false
set_option linter.unnecessarySimpa false
set_option linter.unusedSectionVars false
open Go Go.RowKit

set_option maxRecDepth 100000 in
set_option maxHeartbeats 3200000 in
theorem refOrdered_any {w : World} {v : Value} {b : List UInt8} (hv : BAt w v b) (hl : b.length ≤ 100000000) :
    Calls Tryz.prog 221 #[v] w fun e w' => ∃ v', e = .returned v' ∧ NewB w w' v' (ordB b) := by
  have HV := hid hv
  obtain ⟨ao0, cap0, rfl, h1, h2, -, -⟩ := hv
  obtain ⟨n, hn⟩ : ∃ n, n = b.length := ⟨_, rfl⟩
  rw [← hn] at h1 hl ⊢
  have HN := hid hn
  clear hn
  go_enter Tryz.func221, Tryz.ntmps221
  go_wp2
  go_loopw [3, 4] (fun ov iv wr => ∃ k : Nat, k ≤ n ∧ iv = .int .i64 k ∧ ∃ ao L cap, ov = .slice ao L cap ∧ NewB w wr (.slice ao L cap) (ordT (b.take k))) (fun _ iv _ => n - (intOf iv).toNat)
  case atStart => exact ⟨0, Nat.zero_le _, rfl, _, _, _, rfl, NewB.nil w⟩
  case round =>
    obtain ⟨k, hk, rfl, ao, L, cap, rfl, hnew⟩ := hrel
    have hol := ordT_len (b.take k)
    have htl : (b.take k).length ≤ k := by simp; omega
    by_cases hlt : k < n
    · have hkb : k < b.length := by rw [← HN.out]; exact hlt
      obtain ⟨g, o, rfl, hg, d0⟩ := (HV.out.keep hnew.upd).cell hkb
      have hstep := ordT_step b k hkb
      generalize hcb : b[k] = c at d0 hstep
      have hc8 := c.toNat_lt
      obtain ⟨ao1, L1, cap1, w1, hr1, hn1⟩ := hnew.put [c] #[.int .u8 (c.toNat : Int)] 1 rfl rfl (by omega)
      obtain ⟨g', o', eg, hg', d1⟩ := (HV.out.keep hn1.upd).cell hkb
      injection eg with eg
      injection eg with eg1 eg2
      subst eg1 eg2
      rw [hcb] at d1
      clear hcb
      by_cases hz : c.toNat = 0
      · rw [if_pos hz] at hstep
        have hzi : ((c.toNat : Int) == 0) = true := by simp; omega
        obtain ⟨ao2, L2, cap2, w2, hr2, hn2⟩ := hn1.put [255] #[.int .u8 255] 1 rfl rfl (by simp; omega)
        have HR1 := hid hr1; have HR2 := hid hr2; have HN2 := hid hn2; have HST := hid hstep
        clear hr1 hr2 hn1 hn2 hnew hstep hol htl hz
        go_upto_region 6 with (at_builtin; refine wpList_append_run rfl _ _ _ rfl rfl rfl HR1.out ?_)
        go_wp2_with (at_builtin; refine wpList_append_run rfl _ _ _ rfl rfl rfl HR2.out ?_)
        go_roundw
        case rel =>
          refine ⟨k + 1, by omega, by go_num, ao2, L2, cap2, rfl, ?_⟩
          have h := HN2.out
          rw [HST.out]
          rw [List.append_assoc] at h
          exact h
        case measure => simp [intOf]; omega
      · rw [if_neg hz] at hstep
        have hzi : ((c.toNat : Int) == 0) = false := by simp; omega
        have HR1 := hid hr1; have HN1 := hid hn1; have HST := hid hstep
        clear hr1 hn1 hnew hstep hol htl hz
        go_wp2_with (at_builtin; refine wpList_append_run rfl _ _ _ rfl rfl rfl HR1.out ?_)
        go_roundw
        case rel =>
          refine ⟨k + 1, by omega, by go_num, ao1, L1, cap1, rfl, ?_⟩
          rw [HST.out]
          exact HN1.out
        case measure => simp [intOf]; omega
    · obtain rfl : k = n := by omega
      obtain ⟨ao1, L1, cap1, w1, hr1, hn1⟩ := hnew.put [0, 1] #[.int .u8 0, .int .u8 1] 2 rfl rfl (by omega)
      have hfin : NewB w w1 (.slice ao1 L1 cap1) (ordB b) := by
        unfold ordB
        rw [show b = b.take k from by rw [HN.out, List.take_length]]
        exact hn1
      have HR1 := hid hr1; have HF := hid hfin
      clear hr1 hn1 hnew hfin hol htl
      go_wp2_with (at_builtin; refine wpList_append_run rfl _ _ _ rfl rfl rfl HR1.out ?_)
      go_ret
      exact ⟨_, rfl, HF.out⟩

set_option maxRecDepth 100000 in
set_option maxHeartbeats 3200000 in
theorem refReadOrdered_any {w : World} {v : Value} {b : List UInt8} (hv : BAt w v b) {a : Nat} (ha : a ≤ b.length) (hl : b.length ≤ 140737488351232) :
    Calls Tryz.prog 183 #[v, .int .i64 a] w fun e w' => ∃ v', e = .returned (.tuple #[v', .int .i64 ((readO b a).2.1 : Nat), .int .i64 (readO b a).2.2]) ∧ NewB w w' v' (readO b a).1 := by
  have HV := hid hv
  have HOUT := hid (refOutside_in hv ha)
  obtain ⟨R, hR⟩ : ∃ R, R = readO b a := ⟨_, rfl⟩
  rw [← hR]
  have HR := hid hR
  clear hR
  obtain ⟨ao0, cap0, rfl, h1, h2, -, -⟩ := hv
  go_enter Tryz.func183, Tryz.ntmps183
  go_wp2_with fail
  refine HOUT.out.mono ?_
  rintro e w' ⟨rfl, hww⟩
  obtain rfl := hww.symm
  go_wp2
  go_loopw [7, 8] (fun ov av wr => ∃ p : Nat, p ≤ b.length ∧ av = .int .i64 p ∧ ∃ acc ao L cap, ov = .slice ao L cap ∧ NewB w wr (.slice ao L cap) acc ∧ acc.length ≤ p ∧ R = ro (b.drop p) p acc) (fun _ av _ => b.length - (intOf av).toNat)
  case atStart => exact ⟨a, ha, rfl, [], _, _, _, rfl, NewB.nil _, Nat.zero_le _, HR.out⟩
  case round =>
    obtain ⟨p, hp, rfl, acc, ao, L, cap, rfl, hnew, hal, he⟩ := hrel
    by_cases hend : p < b.length
    · obtain ⟨g, o, rfl, hg, d0⟩ := (HV.out.keep hnew.upd).cell hend
      have hdrop : b.drop p = b[p]'hend :: b.drop (p + 1) := List.drop_eq_getElem_cons hend
      rw [hdrop] at he
      generalize b[p]'hend = c at d0 he
      have hc8 := c.toNat_lt
      clear hdrop
      by_cases hz : c.toNat = 0
      · have hzi : ((c.toNat : Int) != 0) = false := by simp; omega
        by_cases hend2 : p + 1 < b.length
        · obtain ⟨g', o', eg, -, d1⟩ := (HV.out.keep hnew.upd).cell hend2
          injection eg with eg
          injection eg with eg1 eg2
          subst eg1 eg2
          have hdrop : b.drop (p + 1) = b[p + 1]'hend2 :: b.drop (p + 1 + 1) := List.drop_eq_getElem_cons hend2
          rw [hdrop] at he
          generalize b[p + 1]'hend2 = d at d1 he
          have hd8 := d.toNat_lt
          rw [ro, if_neg (by simpa using hz)] at he
          have hne : ((p : Int) + 1 == (b.length : Int)) = false := by simp; omega
          clear hdrop
          by_cases h1d : d.toNat = 1
          · rw [if_pos h1d] at he
            have h1i : ((d.toNat : Int) == 1) = true := by simp; omega
            have HF := hid he; have HNEW := hid hnew
            clear he hnew hz h1d
            go_wp2
            go_ret3
            exact ⟨.slice ao L cap, by rw [HF.out]; rfl, by rw [HF.out]; exact HNEW.out⟩
          · rw [if_neg h1d] at he
            have h1i : ((d.toNat : Int) == 1) = false := by simp; omega
            by_cases h255 : d.toNat = 255
            · rw [if_pos h255] at he
              have h255i : ((d.toNat : Int) != 255) = false := by simp; omega
              obtain ⟨ao1, L1, cap1, w1, hr1, hn1⟩ := hnew.put [c] #[.int .u8 0] 1 (by simp [byteV, hz]) rfl (by omega)
              have HE := hid he; have HR1 := hid hr1; have HN1 := hid hn1
              clear he hnew hz h1d h255 hr1 hn1
              go_wp2_with (at_builtin; refine wpList_append_run rfl _ _ _ rfl rfl rfl HR1.out ?_)
              go_roundw
              case rel => exact ⟨p + 2, by omega, by go_num, acc ++ [c], ao1, L1, cap1, rfl, HN1.out, by simp; omega, HE.out⟩
              case measure => simp [intOf]; omega
            · rw [if_neg h255] at he
              have h255i : ((d.toNat : Int) != 255) = true := by simp; omega
              have HF := hid he; have HU := hid hnew.upd
              clear he hnew hz h1d h255
              go_wp2
              go_ret3
              exact ⟨.slice none 0 0, by rw [HF.out]; rfl, by rw [HF.out]; exact (NewB.nil _).keep HU.out⟩
        · have hdn : b.drop (p + 1) = [] := List.drop_eq_nil_of_le (by omega)
          rw [hdn] at he
          have hnei : ((p : Int) + 1 == (b.length : Int)) = true := by simp; omega
          have HF := hid he; have HU := hid hnew.upd
          clear he hnew hz hdn
          go_wp2
          go_ret3
          exact ⟨.slice none 0 0, by rw [HF.out]; rfl, by rw [HF.out]; exact (NewB.nil _).keep HU.out⟩
      · have hzi : ((c.toNat : Int) != 0) = true := by simp; omega
        have hnx : R = ro (b.drop (p + 1)) (p + 1) (acc ++ [c]) := by
          rw [he]
          cases hq : b.drop (p + 1) with
          | nil => rfl
          | cons d ds => rw [ro, if_pos hz]
        obtain ⟨ao1, L1, cap1, w1, hr1, hn1⟩ := hnew.put [c] #[.int .u8 (c.toNat : Int)] 1 rfl rfl (by omega)
        have HE := hid hnx; have HR1 := hid hr1; have HN1 := hid hn1
        clear he hnx hnew hz hr1 hn1
        go_wp2_with (at_builtin; refine wpList_append_run rfl _ _ _ rfl rfl rfl HR1.out ?_)
        go_roundw
        case rel => exact ⟨p + 1, by omega, by go_num, acc ++ [c], ao1, L1, cap1, rfl, HN1.out, by simp; omega, HE.out⟩
        case measure => simp [intOf]; omega
    · have hdn : b.drop p = [] := List.drop_eq_nil_of_le (by omega)
      rw [hdn] at he
      have hge : ¬ (p : Int) < (b.length : Int) := by omega
      have HF := hid he; have HU := hid hnew.upd
      clear he hnew hdn
      go_wp2
      go_ret3
      exact ⟨.slice none 0 0, by rw [HF.out]; rfl, by rw [HF.out]; exact (NewB.nil _).keep HU.out⟩

end Go.Proofs.YtgaidmohdhaonaaGreatDoor

namespace Go.Proofs.YtgaidmohdhaonaaGreatDoor
set_option linter.unusedVariables false
set_option linter.unusedSimpArgs false
set_option linter.unnecessarySimpa false
set_option linter.unusedSectionVars false
open Go Go.RowKit

theorem numB_ge (l : List UInt8) : ∀ n, n * 256 ^ l.length ≤ l.foldl (fun n c => 256 * n + c.toNat) n := by
  induction l with
  | nil => intro n; simp
  | cons c l ih =>
    intro n
    refine Nat.le_trans ?_ (ih (256 * n + c.toNat))
    rw [List.length_cons, Nat.pow_succ, Nat.mul_comm (256 ^ l.length), ← Nat.mul_assoc]
    exact Nat.mul_le_mul_right _ (by omega)
theorem numB_big {l : List UInt8} (hl : l.length = 8) (h : 127 < (l.getD 0 0).toNat) : 9223372036854775808 ≤ numB l := by
  match l, hl with
  | c :: cs, hl =>
    have h' : 127 < c.toNat := h
    have h2 : numB (c :: cs) = cs.foldl (fun n c => 256 * n + c.toNat) c.toNat := by simp [numB]
    rw [h2]
    refine Nat.le_trans ?_ (numB_ge cs c.toNat)
    have h3 : cs.length = 7 := by simpa using hl
    rw [h3]
    omega

set_option maxRecDepth 100000 in
theorem refRising_any {w : World} {n : Nat} (hn : n < 9223372036854775808) :
    Calls Tryz.prog 232 #[.int .i64 n] w fun e w' => ∃ v', e = .returned (.tuple #[v', .int .i64 0]) ∧ NewB w w' v' (eightB n) := by
  have HE := hid (refEight_any (w := w) (n := n) (by omega))
  have h0 : ¬ (n : Int) < 0 := by omega
  go_enter Tryz.func232, Tryz.ntmps232
  go_wp2_with fail
  refine HE.out.mono ?_
  rintro e w' ⟨v', rfl, hn2⟩
  have HN := hid hn2
  clear hn2
  go_wp2
  go_ret2
  exact ⟨_, rfl, HN.out⟩

set_option maxRecDepth 100000 in
theorem refFalling_any {w : World} {n : Nat} (hn : n ≤ 9223372036854775807) :
    Calls Tryz.prog 222 #[.int .i64 n] w fun e w' => ∃ v', e = .returned (.tuple #[v', .int .i64 0]) ∧ NewB w w' v' (eightB (9223372036854775807 - n)) := by
  have HR := hid (refRising_any (w := w) (n := 9223372036854775807 - n) (by omega))
  have h0 : ¬ (n : Int) < 0 := by omega
  have e1 : (((9223372036854775807 - n : Nat)) : Int) = 9223372036854775807 - (n : Int) := by omega
  rw [e1] at HR
  clear e1
  go_enter Tryz.func222, Tryz.ntmps222
  go_wp2_with fail
  refine HR.out.mono ?_
  rintro e w' ⟨v', rfl, hn2⟩
  have HN := hid hn2
  clear hn2
  go_wp2
  go_ret2
  exact ⟨_, rfl, HN.out⟩

set_option maxRecDepth 100000 in
theorem refReadRising_any {w : World} {v : Value} {b : List UInt8} (hv : BAt w v b) {a : Nat} (ha : a ≤ b.length) (hl : b.length ≤ 140737488351232) :
    Calls Tryz.prog 204 #[v, .int .i64 a] w fun e w' => e = .returned (.tuple #[.int .i64 ((readR b a).1 : Nat), .int .i64 ((readR b a).2.1 : Nat), .int .i64 (readR b a).2.2]) ∧ w' = w := by
  have HV := hid hv
  have HOUT := hid (refOutside_in hv ha)
  obtain ⟨R, hR⟩ : ∃ R, R = readR b a := ⟨_, rfl⟩
  rw [← hR]
  unfold readR at hR
  have HR := hid hR
  clear hR
  obtain ⟨ao, cap, rfl, h1, h2, -, -⟩ := hv
  go_enter Tryz.func204, Tryz.ntmps204
  go_wp2_with fail
  refine HOUT.out.mono ?_
  rintro e w' ⟨rfl, hww⟩
  obtain rfl := hww.symm
  by_cases h8 : b.length - a < 8
  · have hR := HR.out
    rw [if_pos h8] at hR
    have HF := hid hR
    have h8i : (b.length : Int) - (a : Int) < 8 := by omega
    clear hR h8
    go_wp2
    go_ret3
    exact ⟨by rw [HF.out]; rfl, rfl⟩
  · have hR := HR.out
    rw [if_neg h8] at hR
    have h8i : ¬ (b.length : Int) - (a : Int) < 8 := by omega
    have HNUM := hid (refNumber_any HV.out (a := a) (n := 8) (by omega) (by omega) hl)
    have hgl : ((b.drop a).take 8).getD 0 0 = b.getD a 0 := by
      rw [List.getD_eq_getElem?_getD, List.getD_eq_getElem?_getD, List.getElem?_take, if_pos (by omega), List.getElem?_drop]; rfl
    have hl8 : ((b.drop a).take 8).length = 8 := by simp; omega
    by_cases hbig : 127 < (b.getD a 0).toNat
    · rw [if_pos hbig] at hR
      have hge := numB_big hl8 (by rw [hgl]; exact hbig)
      generalize numB ((b.drop a).take 8) = m at HNUM hge
      have hml : (9223372036854775807 : Int) < (m : Int) := by omega
      have HF := hid hR
      clear hR h8 hbig hgl hl8 hge
      go_wp2_with fail
      refine HNUM.out.mono ?_
      rintro e w' ⟨rfl, hww⟩
      obtain rfl := hww.symm
      go_wp2
      go_ret3
      exact ⟨by rw [HF.out]; rfl, rfl⟩
    · rw [if_neg hbig] at hR
      have hlt := numB_head (l := (b.drop a).take 8) (k := 8) hl8 (by rw [hgl]; omega) (by omega)
      rw [List.take_take, Nat.min_self] at hlt
      generalize numB ((b.drop a).take 8) = m at HNUM hlt hR
      have hml : ¬ (9223372036854775807 : Int) < (m : Int) := by omega
      have hmw : IntKind.i64.wrap (m : Int) = (m : Int) := by rw [IntKind.wrap_i64]; omega
      have HF := hid hR
      clear hR h8 hbig hgl hl8
      go_wp2_with fail
      refine HNUM.out.mono ?_
      rintro e w' ⟨rfl, hww⟩
      obtain rfl := hww.symm
      go_wp2
      go_ret3
      exact ⟨by rw [HF.out]; rfl, rfl⟩

set_option maxRecDepth 100000 in
theorem refReadFalling_any {w : World} {v : Value} {b : List UInt8} (hv : BAt w v b) {a : Nat} (ha : a ≤ b.length) (hl : b.length ≤ 140737488351232) :
    Calls Tryz.prog 184 #[v, .int .i64 a] w fun e w' => e = .returned (.tuple #[.int .i64 ((readF b a).1 : Nat), .int .i64 ((readF b a).2.1 : Nat), .int .i64 (readF b a).2.2]) ∧ w' = w := by
  have HC := hid (refReadRising_any hv ha hl)
  obtain ⟨n, p, e, hn, hf, hx, he⟩ : ∃ (n p : Nat) (e : Int), readR b a = (n, p, e) ∧ readF b a = (if e = 0 then 9223372036854775807 - n else 0, p, e) ∧ (e = 0 → n ≤ 9223372036854775807) ∧ (e ≠ 0 → p = 0) := by
    unfold readR readF
    split
    · exact ⟨_, _, _, rfl, rfl, by decide, by simp⟩
    · split
      · exact ⟨_, _, _, rfl, rfl, by decide, by simp⟩
      · rename_i h1 h2
        refine ⟨_, _, _, rfl, rfl, fun _ => ?_, by simp⟩
        have hgl : ((b.drop a).take 8).getD 0 0 = b.getD a 0 := by
          rw [List.getD_eq_getElem?_getD, List.getD_eq_getElem?_getD, List.getElem?_take, if_pos (by omega), List.getElem?_drop]; rfl
        have := numB_head (l := (b.drop a).take 8) (k := 8) (by simp; omega) (by rw [hgl]; omega) (by omega)
        rw [List.take_take, Nat.min_self] at this
        omega
  rw [hn] at HC
  rw [hf]
  obtain ⟨n2, hn2⟩ : ∃ n2, n2 = if e = 0 then 9223372036854775807 - n else 0 := ⟨_, rfl⟩
  rw [← hn2]
  have HN2 := hid hn2
  clear hn2 hf hn
  go_enter Tryz.func184, Tryz.ntmps184
  go_wp2_with fail
  refine HC.out.mono ?_
  rintro e' w' ⟨rfl, hww⟩
  obtain rfl := hww.symm
  by_cases h0 : e = 0
  · have hx2 := hx h0
    have e1 : (n2 : Int) = 9223372036854775807 - (n : Int) := by have := HN2.out; rw [if_pos h0] at this; omega
    subst h0
    have HE1 := hid e1
    clear hx he e1
    go_wp2
    go_ret3
    exact ⟨by rw [HE1.out]; rfl, by trivial⟩
  · have h0i : (e != 0) = true := by simp; exact h0
    have HP := hid (he h0)
    have hz : n2 = 0 := by have := HN2.out; rwa [if_neg h0] at this
    have HZ := hid hz
    clear hx he hz h0
    go_wp2
    go_ret3
    exact ⟨by rw [HZ.out, HP.out]; rfl, by trivial⟩

end Go.Proofs.YtgaidmohdhaonaaGreatDoor

namespace Go.Proofs.YtgaidmohdhaonaaGreatDoor
set_option linter.unusedVariables false
set_option linter.unusedSimpArgs false
set_option linter.unnecessarySimpa false
set_option linter.unusedSectionVars false
open Go Go.RowKit

set_option maxRecDepth 100000 in
theorem ref2_out {w : World} {n lo hi : Int} (h : n < lo ∨ hi < n) : Calls Tryz.prog 220 #[.int .i64 n, .int .i64 lo, .int .i64 hi] w fun e w' => e = .returned (.bool true) ∧ w' = w := by
  by_cases h1 : n < lo
  · clear h
    go_enter Tryz.func220, Tryz.ntmps220
    go_wp2
    go_ret
    exact ⟨rfl, rfl⟩
  · have h2 : hi < n := h.resolve_left h1
    clear h
    go_enter Tryz.func220, Tryz.ntmps220
    go_wp2
    go_ret
    exact ⟨rfl, rfl⟩

set_option maxRecDepth 100000 in
theorem ref2_in {w : World} {n lo hi : Int} (h : ¬ (n < lo ∨ hi < n)) : Calls Tryz.prog 220 #[.int .i64 n, .int .i64 lo, .int .i64 hi] w fun e w' => e = .returned (.bool false) ∧ w' = w := by
  have h1 : ¬ n < lo := fun e => h (.inl e)
  have h2 : ¬ hi < n := fun e => h (.inr e)
  clear h
  go_enter Tryz.func220, Tryz.ntmps220
  go_wp2
  go_ret
  exact ⟨rfl, rfl⟩

set_option maxRecDepth 100000 in
set_option maxHeartbeats 3200000 in
theorem refCheck2_any {w : World} {v : Value} {e : EntA} (hv : EntIs v e) :
    Calls Tryz.prog 205 #[v] w fun x w' => x = .returned (.int .i64 e.bad) ∧ Upd (fun _ => False) w w' := by
  obtain ⟨a1, c1, a2, c2, rfl⟩ := hv
  have HU := hid ((Upd.refl (fun _ => False) w).alloc (.cells #[.slice a1 e.row.length c1, .int .i64 e.fam, .slice a2 e.qual.length c2, .int .i64 e.ts, .int .i64 e.seq, .int .i64 e.kind, .slice none 0 0] 215))
  obtain ⟨R, hR⟩ : ∃ R, R = e.bad := ⟨_, rfl⟩
  rw [← hR]
  unfold EntA.bad at hR
  obtain ⟨row, fam, qual, ts, seq, kind⟩ := e
  simp only at hR HU ⊢
  generalize row.length = nr at hR HU ⊢
  generalize qual.length = nq at hR HU ⊢
  
  
  by_cases h1 : nr < 1 ∨ 256 < nr
  · rw [if_pos h1] at hR
    have HC0 := hid (ref2_out (w := (w.alloc (.cells #[.slice a1 nr c1, .int .i64 fam, .slice a2 nq c2, .int .i64 ts, .int .i64 seq, .int .i64 kind, .slice none 0 0] 215))) (n := (nr : Int)) (lo := 1) (hi := 256) (by omega))
    have HF := hid hR
    clear hR
    go_enter Tryz.func205, Tryz.ntmps205
    go_wp2_with fail
    refine HC0.out.mono ?_
    rintro x w' ⟨rfl, hww⟩
    subst hww
    go_wp2
    go_ret
    exact ⟨by rw [HF.out]; rfl, HU.out⟩
  · rw [if_neg h1] at hR
    by_cases h2 : fam < 0 ∨ 7 < fam
    · rw [if_pos h2] at hR
      have HC0 := hid (ref2_in (w := (w.alloc (.cells #[.slice a1 nr c1, .int .i64 fam, .slice a2 nq c2, .int .i64 ts, .int .i64 seq, .int .i64 kind, .slice none 0 0] 215))) (n := (nr : Int)) (lo := 1) (hi := 256) (by omega))
      have HC1 := hid (ref2_out (w := (w.alloc (.cells #[.slice a1 nr c1, .int .i64 fam, .slice a2 nq c2, .int .i64 ts, .int .i64 seq, .int .i64 kind, .slice none 0 0] 215))) (n := fam) (lo := 0) (hi := 7) (by omega))
      have HF := hid hR
      clear hR
      go_enter Tryz.func205, Tryz.ntmps205
      go_wp2_with fail
      refine HC0.out.mono ?_
      rintro x w' ⟨rfl, hww⟩
      subst hww
      go_wp2_with fail
      refine HC1.out.mono ?_
      rintro x w' ⟨rfl, hww⟩
      subst hww
      go_wp2
      go_ret
      exact ⟨by rw [HF.out]; rfl, HU.out⟩
    · rw [if_neg h2] at hR
      by_cases h3 : 256 < nq ∨ (kind = 5 ∧ 0 < nq)
      · rw [if_pos h3] at hR
        by_cases g1 : 256 < nq
        · have g1i : (256 : Int) < (nq : Int) := by omega
          have HC0 := hid (ref2_in (w := (w.alloc (.cells #[.slice a1 nr c1, .int .i64 fam, .slice a2 nq c2, .int .i64 ts, .int .i64 seq, .int .i64 kind, .slice none 0 0] 215))) (n := (nr : Int)) (lo := 1) (hi := 256) (by omega))
          have HC1 := hid (ref2_in (w := (w.alloc (.cells #[.slice a1 nr c1, .int .i64 fam, .slice a2 nq c2, .int .i64 ts, .int .i64 seq, .int .i64 kind, .slice none 0 0] 215))) (n := fam) (lo := 0) (hi := 7) (by omega))
          have HF := hid hR
          clear hR
          go_enter Tryz.func205, Tryz.ntmps205
          go_wp2_with fail
          refine HC0.out.mono ?_
          rintro x w' ⟨rfl, hww⟩
          subst hww
          go_wp2_with fail
          refine HC1.out.mono ?_
          rintro x w' ⟨rfl, hww⟩
          subst hww
          go_wp2
          go_ret
          exact ⟨by rw [HF.out]; rfl, HU.out⟩
        · have g1i : ¬ (256 : Int) < (nq : Int) := by omega
          obtain ⟨g2, g3⟩ := h3.resolve_left g1
          have g3i : (0 : Int) < (nq : Int) := by omega
          subst g2
          have HC0 := hid (ref2_in (w := (w.alloc (.cells #[.slice a1 nr c1, .int .i64 fam, .slice a2 nq c2, .int .i64 ts, .int .i64 seq, .int .i64 5, .slice none 0 0] 215))) (n := (nr : Int)) (lo := 1) (hi := 256) (by omega))
          have HC1 := hid (ref2_in (w := (w.alloc (.cells #[.slice a1 nr c1, .int .i64 fam, .slice a2 nq c2, .int .i64 ts, .int .i64 seq, .int .i64 5, .slice none 0 0] 215))) (n := fam) (lo := 0) (hi := 7) (by omega))
          clear h3
          have HF := hid hR
          clear hR
          go_enter Tryz.func205, Tryz.ntmps205
          go_wp2_with fail
          refine HC0.out.mono ?_
          rintro x w' ⟨rfl, hww⟩
          subst hww
          go_wp2_with fail
          refine HC1.out.mono ?_
          rintro x w' ⟨rfl, hww⟩
          subst hww
          go_wp2
          go_ret
          exact ⟨by rw [HF.out]; rfl, HU.out⟩
      · rw [if_neg h3] at hR
        have g1i : ¬ (256 : Int) < (nq : Int) := by omega
        by_cases g2 : kind = 5
        · subst g2
          have g3 : nq = 0 := by omega
          have g3i : ¬ (0 : Int) < (nq : Int) := by omega
          clear h3
          by_cases h4 : ts < 1 ∨ 1099511627776 < ts
          · rw [if_pos h4] at hR
            have HC0 := hid (ref2_in (w := (w.alloc (.cells #[.slice a1 nr c1, .int .i64 fam, .slice a2 nq c2, .int .i64 ts, .int .i64 seq, .int .i64 5, .slice none 0 0] 215))) (n := (nr : Int)) (lo := 1) (hi := 256) (by omega))
            have HC1 := hid (ref2_in (w := (w.alloc (.cells #[.slice a1 nr c1, .int .i64 fam, .slice a2 nq c2, .int .i64 ts, .int .i64 seq, .int .i64 5, .slice none 0 0] 215))) (n := fam) (lo := 0) (hi := 7) (by omega))
            have HC2 := hid (ref2_out (w := (w.alloc (.cells #[.slice a1 nr c1, .int .i64 fam, .slice a2 nq c2, .int .i64 ts, .int .i64 seq, .int .i64 5, .slice none 0 0] 215))) (n := ts) (lo := 1) (hi := 1099511627776) (by omega))
            try subst g3
            have HF := hid hR
            clear hR
            go_enter Tryz.func205, Tryz.ntmps205
            go_wp2_with fail
            refine HC0.out.mono ?_
            rintro x w' ⟨rfl, hww⟩
            subst hww
            go_wp2_with fail
            refine HC1.out.mono ?_
            rintro x w' ⟨rfl, hww⟩
            subst hww
            go_wp2_with fail
            refine HC2.out.mono ?_
            rintro x w' ⟨rfl, hww⟩
            subst hww
            go_wp2
            go_ret
            exact ⟨by rw [HF.out]; rfl, HU.out⟩
          · rw [if_neg h4] at hR
            by_cases h5 : seq < 0 ∨ 17592186044431 < seq
            · rw [if_pos h5] at hR
              have HC0 := hid (ref2_in (w := (w.alloc (.cells #[.slice a1 nr c1, .int .i64 fam, .slice a2 nq c2, .int .i64 ts, .int .i64 seq, .int .i64 5, .slice none 0 0] 215))) (n := (nr : Int)) (lo := 1) (hi := 256) (by omega))
              have HC1 := hid (ref2_in (w := (w.alloc (.cells #[.slice a1 nr c1, .int .i64 fam, .slice a2 nq c2, .int .i64 ts, .int .i64 seq, .int .i64 5, .slice none 0 0] 215))) (n := fam) (lo := 0) (hi := 7) (by omega))
              have HC2 := hid (ref2_in (w := (w.alloc (.cells #[.slice a1 nr c1, .int .i64 fam, .slice a2 nq c2, .int .i64 ts, .int .i64 seq, .int .i64 5, .slice none 0 0] 215))) (n := ts) (lo := 1) (hi := 1099511627776) (by omega))
              have HC3 := hid (ref2_out (w := (w.alloc (.cells #[.slice a1 nr c1, .int .i64 fam, .slice a2 nq c2, .int .i64 ts, .int .i64 seq, .int .i64 5, .slice none 0 0] 215))) (n := seq) (lo := 0) (hi := 17592186044431) (by omega))
              try subst g3
              have HF := hid hR
              clear hR
              go_enter Tryz.func205, Tryz.ntmps205
              go_wp2_with fail
              refine HC0.out.mono ?_
              rintro x w' ⟨rfl, hww⟩
              subst hww
              go_wp2_with fail
              refine HC1.out.mono ?_
              rintro x w' ⟨rfl, hww⟩
              subst hww
              go_wp2_with fail
              refine HC2.out.mono ?_
              rintro x w' ⟨rfl, hww⟩
              subst hww
              go_wp2_with fail
              refine HC3.out.mono ?_
              rintro x w' ⟨rfl, hww⟩
              subst hww
              go_wp2
              go_ret
              exact ⟨by rw [HF.out]; rfl, HU.out⟩
            · rw [if_neg h5] at hR
              by_cases h6 : (5 : Int) < 1 ∨ (5 : Int) < 5
              · rw [if_pos h6] at hR
                omega
              · rw [if_neg h6] at hR
                have HC0 := hid (ref2_in (w := (w.alloc (.cells #[.slice a1 nr c1, .int .i64 fam, .slice a2 nq c2, .int .i64 ts, .int .i64 seq, .int .i64 5, .slice none 0 0] 215))) (n := (nr : Int)) (lo := 1) (hi := 256) (by omega))
                have HC1 := hid (ref2_in (w := (w.alloc (.cells #[.slice a1 nr c1, .int .i64 fam, .slice a2 nq c2, .int .i64 ts, .int .i64 seq, .int .i64 5, .slice none 0 0] 215))) (n := fam) (lo := 0) (hi := 7) (by omega))
                have HC2 := hid (ref2_in (w := (w.alloc (.cells #[.slice a1 nr c1, .int .i64 fam, .slice a2 nq c2, .int .i64 ts, .int .i64 seq, .int .i64 5, .slice none 0 0] 215))) (n := ts) (lo := 1) (hi := 1099511627776) (by omega))
                have HC3 := hid (ref2_in (w := (w.alloc (.cells #[.slice a1 nr c1, .int .i64 fam, .slice a2 nq c2, .int .i64 ts, .int .i64 seq, .int .i64 5, .slice none 0 0] 215))) (n := seq) (lo := 0) (hi := 17592186044431) (by omega))
                have HC4 := hid (ref2_in (w := (w.alloc (.cells #[.slice a1 nr c1, .int .i64 fam, .slice a2 nq c2, .int .i64 ts, .int .i64 seq, .int .i64 5, .slice none 0 0] 215))) (n := 5) (lo := 1) (hi := 5) (by omega))
                try subst g3
                have HF := hid hR
                clear hR
                go_enter Tryz.func205, Tryz.ntmps205
                go_wp2_with fail
                refine HC0.out.mono ?_
                rintro x w' ⟨rfl, hww⟩
                subst hww
                go_wp2_with fail
                refine HC1.out.mono ?_
                rintro x w' ⟨rfl, hww⟩
                subst hww
                go_wp2_with fail
                refine HC2.out.mono ?_
                rintro x w' ⟨rfl, hww⟩
                subst hww
                go_wp2_with fail
                refine HC3.out.mono ?_
                rintro x w' ⟨rfl, hww⟩
                subst hww
                go_wp2_with fail
                refine HC4.out.mono ?_
                rintro x w' ⟨rfl, hww⟩
                subst hww
                go_wp2
                go_ret
                exact ⟨by rw [HF.out]; rfl, HU.out⟩
        · have g2i : (kind == 5) = false := by simp; exact g2
          clear h3
          by_cases h4 : ts < 1 ∨ 1099511627776 < ts
          · rw [if_pos h4] at hR
            have HC0 := hid (ref2_in (w := (w.alloc (.cells #[.slice a1 nr c1, .int .i64 fam, .slice a2 nq c2, .int .i64 ts, .int .i64 seq, .int .i64 kind, .slice none 0 0] 215))) (n := (nr : Int)) (lo := 1) (hi := 256) (by omega))
            have HC1 := hid (ref2_in (w := (w.alloc (.cells #[.slice a1 nr c1, .int .i64 fam, .slice a2 nq c2, .int .i64 ts, .int .i64 seq, .int .i64 kind, .slice none 0 0] 215))) (n := fam) (lo := 0) (hi := 7) (by omega))
            have HC2 := hid (ref2_out (w := (w.alloc (.cells #[.slice a1 nr c1, .int .i64 fam, .slice a2 nq c2, .int .i64 ts, .int .i64 seq, .int .i64 kind, .slice none 0 0] 215))) (n := ts) (lo := 1) (hi := 1099511627776) (by omega))
            try subst g3
            have HF := hid hR
            clear hR
            go_enter Tryz.func205, Tryz.ntmps205
            go_wp2_with fail
            refine HC0.out.mono ?_
            rintro x w' ⟨rfl, hww⟩
            subst hww
            go_wp2_with fail
            refine HC1.out.mono ?_
            rintro x w' ⟨rfl, hww⟩
            subst hww
            go_wp2_with fail
            refine HC2.out.mono ?_
            rintro x w' ⟨rfl, hww⟩
            subst hww
            go_wp2
            go_ret
            exact ⟨by rw [HF.out]; rfl, HU.out⟩
          · rw [if_neg h4] at hR
            by_cases h5 : seq < 0 ∨ 17592186044431 < seq
            · rw [if_pos h5] at hR
              have HC0 := hid (ref2_in (w := (w.alloc (.cells #[.slice a1 nr c1, .int .i64 fam, .slice a2 nq c2, .int .i64 ts, .int .i64 seq, .int .i64 kind, .slice none 0 0] 215))) (n := (nr : Int)) (lo := 1) (hi := 256) (by omega))
              have HC1 := hid (ref2_in (w := (w.alloc (.cells #[.slice a1 nr c1, .int .i64 fam, .slice a2 nq c2, .int .i64 ts, .int .i64 seq, .int .i64 kind, .slice none 0 0] 215))) (n := fam) (lo := 0) (hi := 7) (by omega))
              have HC2 := hid (ref2_in (w := (w.alloc (.cells #[.slice a1 nr c1, .int .i64 fam, .slice a2 nq c2, .int .i64 ts, .int .i64 seq, .int .i64 kind, .slice none 0 0] 215))) (n := ts) (lo := 1) (hi := 1099511627776) (by omega))
              have HC3 := hid (ref2_out (w := (w.alloc (.cells #[.slice a1 nr c1, .int .i64 fam, .slice a2 nq c2, .int .i64 ts, .int .i64 seq, .int .i64 kind, .slice none 0 0] 215))) (n := seq) (lo := 0) (hi := 17592186044431) (by omega))
              try subst g3
              have HF := hid hR
              clear hR
              go_enter Tryz.func205, Tryz.ntmps205
              go_wp2_with fail
              refine HC0.out.mono ?_
              rintro x w' ⟨rfl, hww⟩
              subst hww
              go_wp2_with fail
              refine HC1.out.mono ?_
              rintro x w' ⟨rfl, hww⟩
              subst hww
              go_wp2_with fail
              refine HC2.out.mono ?_
              rintro x w' ⟨rfl, hww⟩
              subst hww
              go_wp2_with fail
              refine HC3.out.mono ?_
              rintro x w' ⟨rfl, hww⟩
              subst hww
              go_wp2
              go_ret
              exact ⟨by rw [HF.out]; rfl, HU.out⟩
            · rw [if_neg h5] at hR
              by_cases h6 : kind < 1 ∨ 5 < kind
              · rw [if_pos h6] at hR
                have HC0 := hid (ref2_in (w := (w.alloc (.cells #[.slice a1 nr c1, .int .i64 fam, .slice a2 nq c2, .int .i64 ts, .int .i64 seq, .int .i64 kind, .slice none 0 0] 215))) (n := (nr : Int)) (lo := 1) (hi := 256) (by omega))
                have HC1 := hid (ref2_in (w := (w.alloc (.cells #[.slice a1 nr c1, .int .i64 fam, .slice a2 nq c2, .int .i64 ts, .int .i64 seq, .int .i64 kind, .slice none 0 0] 215))) (n := fam) (lo := 0) (hi := 7) (by omega))
                have HC2 := hid (ref2_in (w := (w.alloc (.cells #[.slice a1 nr c1, .int .i64 fam, .slice a2 nq c2, .int .i64 ts, .int .i64 seq, .int .i64 kind, .slice none 0 0] 215))) (n := ts) (lo := 1) (hi := 1099511627776) (by omega))
                have HC3 := hid (ref2_in (w := (w.alloc (.cells #[.slice a1 nr c1, .int .i64 fam, .slice a2 nq c2, .int .i64 ts, .int .i64 seq, .int .i64 kind, .slice none 0 0] 215))) (n := seq) (lo := 0) (hi := 17592186044431) (by omega))
                have HC4 := hid (ref2_out (w := (w.alloc (.cells #[.slice a1 nr c1, .int .i64 fam, .slice a2 nq c2, .int .i64 ts, .int .i64 seq, .int .i64 kind, .slice none 0 0] 215))) (n := kind) (lo := 1) (hi := 5) (by omega))
                have HF := hid hR
                clear hR
                go_enter Tryz.func205, Tryz.ntmps205
                go_wp2_with fail
                refine HC0.out.mono ?_
                rintro x w' ⟨rfl, hww⟩
                subst hww
                go_wp2_with fail
                refine HC1.out.mono ?_
                rintro x w' ⟨rfl, hww⟩
                subst hww
                go_wp2_with fail
                refine HC2.out.mono ?_
                rintro x w' ⟨rfl, hww⟩
                subst hww
                go_wp2_with fail
                refine HC3.out.mono ?_
                rintro x w' ⟨rfl, hww⟩
                subst hww
                go_wp2_with fail
                refine HC4.out.mono ?_
                rintro x w' ⟨rfl, hww⟩
                subst hww
                go_wp2
                go_ret
                exact ⟨by rw [HF.out]; rfl, HU.out⟩
              · rw [if_neg h6] at hR
                by_cases g4 : kind = 1
                · have HC4 := hid (ref2_in (w := (w.alloc (.cells #[.slice a1 nr c1, .int .i64 fam, .slice a2 nq c2, .int .i64 ts, .int .i64 seq, .int .i64 kind, .slice none 0 0] 215))) (n := kind) (lo := 1) (hi := 5) (by omega))
                  have HC0 := hid (ref2_in (w := (w.alloc (.cells #[.slice a1 nr c1, .int .i64 fam, .slice a2 nq c2, .int .i64 ts, .int .i64 seq, .int .i64 kind, .slice none 0 0] 215))) (n := (nr : Int)) (lo := 1) (hi := 256) (by omega))
                  have HC1 := hid (ref2_in (w := (w.alloc (.cells #[.slice a1 nr c1, .int .i64 fam, .slice a2 nq c2, .int .i64 ts, .int .i64 seq, .int .i64 kind, .slice none 0 0] 215))) (n := fam) (lo := 0) (hi := 7) (by omega))
                  have HC2 := hid (ref2_in (w := (w.alloc (.cells #[.slice a1 nr c1, .int .i64 fam, .slice a2 nq c2, .int .i64 ts, .int .i64 seq, .int .i64 kind, .slice none 0 0] 215))) (n := ts) (lo := 1) (hi := 1099511627776) (by omega))
                  have HC3 := hid (ref2_in (w := (w.alloc (.cells #[.slice a1 nr c1, .int .i64 fam, .slice a2 nq c2, .int .i64 ts, .int .i64 seq, .int .i64 kind, .slice none 0 0] 215))) (n := seq) (lo := 0) (hi := 17592186044431) (by omega))
                  have HC4 := hid (ref2_in (w := (w.alloc (.cells #[.slice a1 nr c1, .int .i64 fam, .slice a2 nq c2, .int .i64 ts, .int .i64 seq, .int .i64 kind, .slice none 0 0] 215))) (n := kind) (lo := 1) (hi := 5) (by omega))
                  subst g4
                  have HF := hid hR
                  clear hR
                  go_enter Tryz.func205, Tryz.ntmps205
                  go_wp2_with fail
                  refine HC0.out.mono ?_
                  rintro x w' ⟨rfl, hww⟩
                  subst hww
                  go_wp2_with fail
                  refine HC1.out.mono ?_
                  rintro x w' ⟨rfl, hww⟩
                  subst hww
                  go_wp2_with fail
                  refine HC2.out.mono ?_
                  rintro x w' ⟨rfl, hww⟩
                  subst hww
                  go_wp2_with fail
                  refine HC3.out.mono ?_
                  rintro x w' ⟨rfl, hww⟩
                  subst hww
                  go_wp2_with fail
                  refine HC4.out.mono ?_
                  rintro x w' ⟨rfl, hww⟩
                  subst hww
                  go_wp2
                  go_ret
                  exact ⟨by rw [HF.out]; rfl, HU.out⟩
                · have g4i : (kind == 1) = false := by simp; exact g4
                  have HC0 := hid (ref2_in (w := (w.alloc (.cells #[.slice a1 nr c1, .int .i64 fam, .slice a2 nq c2, .int .i64 ts, .int .i64 seq, .int .i64 kind, .slice none 0 0] 215))) (n := (nr : Int)) (lo := 1) (hi := 256) (by omega))
                  have HC1 := hid (ref2_in (w := (w.alloc (.cells #[.slice a1 nr c1, .int .i64 fam, .slice a2 nq c2, .int .i64 ts, .int .i64 seq, .int .i64 kind, .slice none 0 0] 215))) (n := fam) (lo := 0) (hi := 7) (by omega))
                  have HC2 := hid (ref2_in (w := (w.alloc (.cells #[.slice a1 nr c1, .int .i64 fam, .slice a2 nq c2, .int .i64 ts, .int .i64 seq, .int .i64 kind, .slice none 0 0] 215))) (n := ts) (lo := 1) (hi := 1099511627776) (by omega))
                  have HC3 := hid (ref2_in (w := (w.alloc (.cells #[.slice a1 nr c1, .int .i64 fam, .slice a2 nq c2, .int .i64 ts, .int .i64 seq, .int .i64 kind, .slice none 0 0] 215))) (n := seq) (lo := 0) (hi := 17592186044431) (by omega))
                  have HC4 := hid (ref2_in (w := (w.alloc (.cells #[.slice a1 nr c1, .int .i64 fam, .slice a2 nq c2, .int .i64 ts, .int .i64 seq, .int .i64 kind, .slice none 0 0] 215))) (n := kind) (lo := 1) (hi := 5) (by omega))
                  have HF := hid hR
                  clear hR
                  go_enter Tryz.func205, Tryz.ntmps205
                  go_wp2_with fail
                  refine HC0.out.mono ?_
                  rintro x w' ⟨rfl, hww⟩
                  subst hww
                  go_wp2_with fail
                  refine HC1.out.mono ?_
                  rintro x w' ⟨rfl, hww⟩
                  subst hww
                  go_wp2_with fail
                  refine HC2.out.mono ?_
                  rintro x w' ⟨rfl, hww⟩
                  subst hww
                  go_wp2_with fail
                  refine HC3.out.mono ?_
                  rintro x w' ⟨rfl, hww⟩
                  subst hww
                  go_wp2_with fail
                  refine HC4.out.mono ?_
                  rintro x w' ⟨rfl, hww⟩
                  subst hww
                  go_wp2
                  go_ret
                  exact ⟨by rw [HF.out]; rfl, HU.out⟩

end Go.Proofs.YtgaidmohdhaonaaGreatDoor
