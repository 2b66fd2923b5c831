/-
  Package strataref1, walked: Same, Part, outside, Uint, Bytes.
  Package strataref1, walked: ReadUint, ReadBytes.
  Package strataref1, walked: Sum, Sealed.
  Package strataref1, walked: eight, number, Frame, ReadFrame.
  Package strataref1, walked: ReadFrame.
-/
import Derived.Test.YtgaidmohdhaonaaGreatDoorYC
import Derived.Handy
import Derived.Laws.ResultCell
import Derived.Deep.RegionLaw
namespace Go.Proofs.YtgaidmohdhaonaaGreatDoor
set_option linter.unusedVariables false
set_option linter.unusedSimpArgs false
set_option linter.unnecessarySimpa false
set_option linter.unusedSectionVars false
open Go Go.RowKit

/-- 'string(b)'. -/
theorem run_string_of {w : World} {v : Value} {bs : List UInt8} (h : BytesAt w v bs) : (convert 22 9 v).run Tryz.prog w = .ok (.string (toBA bs)) w := by
  obtain ⟨ao, cap, rfl, hn, hs⟩ := h
  cases ao with
  | none =>
    obtain ⟨rfl, rfl⟩ := hn rfl
    exact run_convert_bytes_nil w 22 5 Tryz.underlying22 Tryz.underlying5 _ _ 9 Tryz.underlying9
  | some a =>
    exact run_convert_bytes_back w 22 9 5 a cap bs Tryz.underlying22 Tryz.underlying5 Tryz.underlying9 (fun j hj => hs a rfl j _ (by rw [List.getElem?_map, List.getElem?_eq_getElem hj]; rfl))

theorem beq_toBA (a b : List UInt8) : ((toBA a).toList == (toBA b).toList) = decide (a = b) := by
  rw [beq_toList]
  congr 1
  apply propext
  constructor
  · intro h
    have := congrArg (fun x : ByteArray => x.data.toList) h
    simpa [toBA] using this
  · rintro rfl; rfl

set_option maxRecDepth 100000 in
theorem refSame_any {w : World} {a b : Value} {xs bs : List UInt8} (ha : BAt w a xs) (hb : BAt w b bs) :
    Calls Tryz.prog 79 #[a, b] w fun e w' => e = .returned (.bool (decide (xs = bs))) ∧ w' = w := by
  have h1 := run_string_of ha.bytes
  have h2 := run_string_of hb.bytes
  have hq := beq_toBA xs bs
  obtain ⟨ao, ca, rfl, -, -⟩ := ha
  obtain ⟨bo, cb, rfl, -, -⟩ := hb
  go_enter Tryz.func79, Tryz.ntmps79
  go_wp2
  go_ret
  exact ⟨rfl, rfl⟩

set_option maxRecDepth 100000 in
theorem refOutside_in {w : World} {v : Value} {bs : List UInt8} (hv : BAt w v bs) {a : Nat} (ha : a ≤ bs.length) :
    Calls Tryz.prog 140 #[v, .int .i64 a] w fun e w' => e = .returned (.bool false) ∧ w' = w := by
  obtain ⟨ao, cap, rfl, -, -⟩ := hv
  have h0 : ¬ (a : Int) < 0 := by omega
  have h1 : ¬ (bs.length : Int) < (a : Int) := by omega
  go_enter Tryz.func140, Tryz.ntmps140
  go_wp2
  go_ret
  exact ⟨rfl, rfl⟩

set_option maxRecDepth 100000 in
theorem refPart_any {w : World} {ao : Option Addr} {cap : Nat} {b : List UInt8} (hv : BAt w (.slice ao b.length cap) b) {lo hi : Nat} (h1 : lo ≤ hi) (h2 : hi ≤ b.length) (hl : b.length ≤ 140737488351232) :
    Calls Tryz.prog 18 #[.slice ao b.length cap, .int .i64 lo, .int .i64 hi] w fun e w' => ∃ v', e = .returned v' ∧ NewB w w' v' ((b.drop lo).take (hi - lo)) := by
  obtain ⟨ao', cap', e, hc1, hc2, hc3, hc4⟩ := id hv
  injection e with e1 e2 e3
  subst e1
  subst e3
  clear e2
  obtain ⟨n, hn⟩ : ∃ n, n = hi - lo := ⟨_, rfl⟩
  rw [← hn]
  have hlo : (lo : Int) ≤ (hi : Int) := by omega
  have hhi : (hi : Int) ≤ (cap : Int) := by omega
  have hsub : (hi : Int) - (lo : Int) = (n : Int) := by omega
  have hn2 : hi - lo = n := hn.symm
  have hcl : ((b.drop lo).take n).length = n := by simp; omega
  have hcapm : cap ≤ 9223372036854775807 := hc2
  by_cases hcap : cap = lo
  · have h0 : n = 0 := by omega
    subst hcap
    subst h0
    have hs : BAt w (.slice ao 0 0) [] := ⟨ao, 0, rfl, by simp, by simp, fun _ => ⟨rfl, rfl⟩, fun j hj => by simp at hj⟩
    obtain ⟨v', w2, hr, hn2⟩ := (NewB.nil w).join hs (by simp) 22
    have HR := hid hr
    have HN := hid (show NewB w w2 v' ((b.drop cap).take 0) from hn2)
    clear hr hn2 hs hv hc3 hc4 hcl hn
    go_enter Tryz.func18, Tryz.ntmps18
    go_wp2_with (at_builtin; refine wpList_append_run rfl _ _ _ rfl rfl rfl HR.out ?_)
    go_ret
    exact ⟨_, rfl, HN.out⟩
  · cases ao with
    | none => exact absurd (hc3 rfl).2 (by have := (hc3 rfl).2; omega)
    | some a =>
      have hs : BAt w (.slice (some (a.add lo)) n (cap - lo)) ((b.drop lo).take n) := by
        by_cases h0 : n = 0
        · subst h0
          exact ⟨some (a.add lo), cap - lo, rfl, by simp, by omega, (fun h => by cases h), fun j hj => by simp at hj⟩
        · obtain ⟨g', o', e, -, -⟩ := hc4 lo (by omega)
          injection e with e
          subst e
          rw [show (Addr.add ⟨g', o', none⟩ lo : Addr) = ⟨g', o' + lo, none⟩ from by simp [Addr.add_lit]]
          exact hv.sub (by omega)
      obtain ⟨v', w2, hr, hn2⟩ := (NewB.nil w).join hs (by rw [hcl]; simp; omega) 22
      have HR := hid hr
      have HN := hid (show NewB w w2 v' ((b.drop lo).take n) from hn2)
      clear hr hn2 hs hv hc3 hc4 hcl hn
      go_enter Tryz.func18, Tryz.ntmps18
      go_wp2_with (at_builtin; refine wpList_append_run rfl _ _ _ rfl rfl rfl HR.out ?_)
      go_ret
      exact ⟨_, rfl, HN.out⟩

theorem NewB.lit0 {w W : World} (hu : Upd (fun _ => False) w W) (ms : List UInt8) (h0 : 0 < ms.length) (hl : ms.length ≤ 1000) : NewB w (W.alloc (.cells (ms.map byteV).toArray 5)) (.slice (some ⟨W.heap.size, 0, none⟩) ms.length ms.length) ms :=
  ⟨.inr ⟨W.heap.size, _, _, rfl, heap_alloc_new _ _, Nat.le_refl _, by simp, by unfold maxLen; omega, by rw [List.take_of_length_le (by simp)]⟩, fun k e => by simp only [Value.ownBlock, Option.some.injEq] at e; have := hu.size; omega, hu.alloc _⟩

set_option maxRecDepth 100000 in
set_option maxHeartbeats 1600000 in
theorem refUint_any {w : World} {n : Nat} (hn : n < 18446744073709551616) :
    Calls Tryz.prog 171 #[.int .u64 n] w fun e w' => ∃ v, e = .returned v ∧ NewB w w' v (uintB n) := by
  have hlen := uintB_len 9 n (by omega)
  go_enter Tryz.func171, Tryz.ntmps171
  go_wp2
  go_loopw [0, 3] (fun nv bv wr => ∃ m : Nat, nv = .int .u64 m ∧ m < 18446744073709551616 ∧ ∃ pre ao cap, bv = .slice ao pre.length cap ∧ NewB w wr (.slice ao pre.length cap) pre ∧ uintB n = pre ++ uintB m) (fun nv _ _ => (intOf nv).toNat)
  case atStart => exact ⟨n, rfl, hn, [], none, 0, rfl, NewB.nil w, rfl⟩
  case round =>
    obtain ⟨m, rfl, hm, pre, ao, cap, rfl, hnew, he⟩ := hrel
    have hpl : pre.length ≤ 10 := by have := congrArg List.length he; rw [List.length_append] at this; omega
    have HE := hid he
    obtain ⟨L, hL⟩ : ∃ L, L = pre.length := ⟨_, rfl⟩
    by_cases hb : 128 ≤ m
    · have hbig : (127 : Int) < (m : Int) := by omega
      have hor : 128 + (m : Int) % 128 = (((UInt8.ofNat (128 + m % 128)).toNat : Nat) : Int) := by rw [UInt8.toNat_ofNat']; omega
      obtain ⟨v', w2, hr, hn2⟩ := hnew.push [UInt8.ofNat (128 + m % 128)] (by simp; omega) 22
      obtain ⟨ao2, cap2, hv2, -, -⟩ := hn2.shape
      rw [List.length_append, List.length_singleton] at hv2
      subst hv2
      have hr' : (Builtin.append_ #[22, 22] 22 #[.slice ao pre.length cap, .slice (some ⟨wr.heap.size, 0, none⟩) 1 1]).run Tryz.prog (wr.alloc (.cells #[.int .u8 ((UInt8.ofNat (128 + m % 128)).toNat : Int)] 5)) = .ok (.slice ao2 (pre.length + 1) cap2) w2 := hr
      rw [← hor] at hr'
      rw [← hL] at hr' ⊢
      obtain ⟨L2, hL2⟩ : ∃ L2, L2 = L + 1 := ⟨_, rfl⟩
      rw [← hL2] at hr'
      have HR := hid hr'; have HN := hid hn2; have HLL := hid hL; have HL2 := hid hL2
      clear hr hr' hn2 hor hnew he hL hL2 hlen
      go_wp2_with (at_builtin; refine wpList_append_run rfl _ _ _ rfl rfl rfl HR.out ?_)
      go_roundw
      case rel =>
        refine ⟨m / 128, by simp, by omega, pre ++ [UInt8.ofNat (128 + m % 128)], ao2, cap2, by rw [HL2.out, HLL.out]; simp, ?_, ?_⟩
        · have h := HN.out
          simpa using h
        · rw [HE.out, uintB_big (by omega : ¬ m < 128)]
          simp
      case measure => simp [intOf]; omega
    · have hsm : ¬ (127 : Int) < (m : Int) := by omega
      have hw8 : (((UInt8.ofNat m).toNat : Nat) : Int) = (m : Int) := by rw [UInt8.toNat_ofNat']; omega
      obtain ⟨v', w2, hr, hn2⟩ := hnew.push [UInt8.ofNat m] (by simp; omega) 22
      obtain ⟨ao2, cap2, hv2, -, -⟩ := hn2.shape
      have hr' : (Builtin.append_ #[22, 22] 22 #[.slice ao pre.length cap, .slice (some ⟨wr.heap.size, 0, none⟩) 1 1]).run Tryz.prog (wr.alloc (.cells #[.int .u8 ((UInt8.ofNat m).toNat : Int)] 5)) = .ok v' w2 := hr
      rw [hw8] at hr'
      have hfin : NewB w w2 v' (uintB n) := by rw [he, uintB_small (by omega)]; exact hn2
      rw [← hL] at hr' ⊢
      rw [hv2] at hr' hfin
      obtain ⟨L2, hL2⟩ : ∃ L2, L2 = (pre ++ [UInt8.ofNat m]).length := ⟨_, rfl⟩
      rw [← hL2] at hr' hfin
      have HR := hid hr'; have HF := hid hfin
      clear hr hr' hn2 hnew he hL hL2 hv2 hfin hlen hw8
      go_wp2_with (at_builtin; refine wpList_append_run rfl _ _ _ rfl rfl rfl HR.out ?_)
      go_ret
      exact ⟨_, rfl, HF.out⟩

set_option maxRecDepth 100000 in
theorem refBytes_any {w : World} {v : Value} {b : List UInt8} (hv : BAt w v b) (hl : b.length ≤ 140737488351232) :
    Calls Tryz.prog 138 #[v] w fun e w' => ∃ v', e = .returned v' ∧ NewB w w' v' (bytesB b) := by
  have HV := hid hv
  have HU := hid (refUint_any (w := w) (n := b.length) (by omega))
  have hul := uintB_len 9 b.length (by omega)
  obtain ⟨ao, cap, rfl, h1, h2, -, -⟩ := hv
  go_enter Tryz.func138, Tryz.ntmps138
  go_wp2_with fail
  refine HU.out.mono ?_
  rintro e w1 ⟨v1, rfl, hn⟩
  obtain ⟨v2, w2, hr, hn2⟩ := hn.join (HV.out.keep hn.upd) (by omega) 22
  obtain ⟨a1, c1, hv1, -, -⟩ := hn.shape
  obtain ⟨a2, c2, hv2, -, -⟩ := hn2.shape
  rw [hv1, hv2] at hr
  rw [hv1]
  rw [hv2] at hn2
  obtain ⟨L1, hL1⟩ : ∃ L, L = (uintB b.length).length := ⟨_, rfl⟩
  obtain ⟨L2, hL2⟩ : ∃ L, L = (uintB b.length ++ b).length := ⟨_, rfl⟩
  rw [← hL2] at hr hn2
  rw [← hL1] at hr ⊢
  have HR := hid hr; have HN := hid hn2
  clear hr hn2 hn hv1 hv2 hL1 hL2 hul
  go_wp2_with (at_builtin; refine wpList_append_run rfl _ _ _ rfl rfl rfl HR.out ?_)
  go_ret
  exact ⟨_, rfl, HN.out⟩

end Go.Proofs.YtgaidmohdhaonaaGreatDoor

namespace Go.Proofs.YtgaidmohdhaonaaGreatDoor
set_option linter.unusedVariables false
set_option linter.unusedSimpArgs false
set_option linter.unnecessarySimpa false
set_option linter.unusedSectionVars false
open Go Go.RowKit

set_option maxRecDepth 100000 in
set_option maxHeartbeats 3200000 in
theorem refReadUint_any {w : World} {v : Value} {b : List UInt8} (hv : BAt w v b) {a : Nat} (ha : a ≤ b.length) (hl : b.length ≤ 4611686018427387904) :
    Calls Tryz.prog 143 #[v, .int .i64 a] w fun e w' => e = .returned (.tuple #[.int .u64 ((readU b a).1 : Nat), .int .i64 ((readU b a).2.1 : Nat), .int .i64 (readU b a).2.2]) ∧ w' = w := by
  have HV := hid hv
  obtain ⟨R, hR⟩ : ∃ R, R = readU b a := ⟨_, rfl⟩
  rw [← hR]
  have HR0 := hid hR
  clear hR
  obtain ⟨ao, cap, rfl, h1, h2, -, hcell⟩ := hv
  have HC := hid hcell
  clear hcell
  go_enter Tryz.func143, Tryz.ntmps143
  go_wp2_with fail
  refine (refOutside_in HV.out ha).mono ?_
  rintro e w' ⟨rfl, hww⟩
  obtain rfl := hww.symm
  go_wp2
  go_loopw [7, 8, 9] (fun vv uv iv wr => ∃ i : Nat, i ≤ 9 ∧ iv = .int .i64 i ∧ ∃ x un : Nat, vv = .int .u64 x ∧ uv = .int .u64 un ∧ un = 128 ^ i ∧ x < 128 ^ i ∧ a + i ≤ b.length ∧ R = ru (b.drop (a + i)) (a + i) i x ∧ wr = w) (fun _ _ iv _ => 10 - (intOf iv).toNat)
  case atStart => exact ⟨0, by omega, rfl, 0, 1, rfl, rfl, rfl, by simp, ha, HR0.out, rfl⟩
  case round =>
    obtain ⟨i, hi, rfl, x, un, rfl, rfl, hun, hx, hai, he, hww⟩ := hrel
    obtain rfl := hww.symm
    have HUN := hid hun
    clear hun
    by_cases hend : b.length ≤ a + i
    · have hr : R = (0, 0, 10) := by rw [he, List.drop_eq_nil_of_le hend]; rfl
      have HF := hid hr
      have hendi : (b.length : Int) ≤ (a : Int) + (i : Int) := by omega
      clear he hr
      go_wp2
      go_ret3
      exact ⟨by rw [HF.out]; rfl, rfl⟩
    · have hendi : ¬ (b.length : Int) ≤ (a : Int) + (i : Int) := by omega
      obtain ⟨g, o, rfl, hg, d0⟩ := HC.out (a + i) (by omega)
      have hdrop : b.drop (a + i) = b[a + i]'(by omega) :: b.drop (a + i + 1) := List.drop_eq_getElem_cons (by omega)
      rw [hdrop] at he
      generalize b[a + i]'(by omega) = c at d0 he
      rw [ru] at he
      have hc8 := c.toNat_lt
      simp only [byteV] at d0
      clear hdrop
      by_cases h9 : i = 9 ∧ 1 < c.toNat
      · rw [if_pos h9] at he
        have HF := hid he
        obtain ⟨h91, h92⟩ := h9
        subst h91
        have h92i : (1 : Int) < (c.toNat : Int) := by omega
        clear he
        go_wp2
        go_ret3
        exact ⟨by rw [HF.out]; rfl, rfl⟩
      · rw [if_neg h9] at he
        have h9' : ¬ (i = 9 ∧ (1 : Int) < (c.toNat : Int)) := by omega
        have HE := hid he; have H9 := hid h9
        clear he h9
        go_upto_region 11 with fail
        go_cut [36] (fun bv wx => bv = .bool false ∧ wx = w)
        case first =>
          by_cases hi9 : i = 9
          · subst hi9
            have hle : ¬ (1 : Int) < (c.toNat : Int) := by omega
            go_wp2
            go_meet
            case rel => exact ⟨rfl, rfl⟩
          · have hne : ((i : Int) == 9) = false := by simp; omega
            go_wp2
            go_meet
            case rel => exact ⟨rfl, rfl⟩
        case rest =>
          obtain ⟨rfl, hcw⟩ := hcut
          obtain rfl := hcw.symm
          obtain ⟨mm, hmm⟩ : ∃ mm : Nat, mm = 128 ^ i * (c.toNat % 128) := ⟨_, rfl⟩
          obtain ⟨x2, hx2⟩ : ∃ x2 : Nat, x2 = x + 128 ^ i * (c.toNat % 128) := ⟨_, rfl⟩
          obtain ⟨un2, hun2⟩ : ∃ un2 : Nat, un2 = un * 128 % 18446744073709551616 := ⟨_, rfl⟩
          have hx3 : x2 < 128 ^ (i + 1) := by
            rw [hx2, Nat.pow_succ]
            have h1 : 128 ^ i * (c.toNat % 128) ≤ 128 ^ i * 127 := Nat.mul_le_mul_left _ (by omega)
            omega
          have hx4 : x2 < 18446744073709551616 := by
            by_cases e : i = 9
            · subst e
              have h1 : c.toNat ≤ 1 := by have := H9.out; omega
              have h2 : c.toNat % 128 = c.toNat := by omega
              rw [hx2, h2]
              have h3 : (128 : Nat) ^ 9 * c.toNat ≤ 128 ^ 9 * 1 := Nat.mul_le_mul_left _ h1
              omega
            · have h1 : (128 : Nat) ^ (i + 1) ≤ 128 ^ 9 := Nat.pow_le_pow_right (by decide) (by omega)
              omega
          have hmul : (un : Int) * ((c.toNat : Int) % 128) = (mm : Int) := by rw [hmm, HUN.out]; push_cast; rfl
          have hmm4 : mm < 18446744073709551616 := by omega
          have hmulw : IntKind.u64.wrap (mm : Int) = (mm : Int) := by rw [IntKind.wrap_u64]; omega
          have hadd : (x : Int) + (mm : Int) = (x2 : Int) := by omega
          have haddw : IntKind.u64.wrap (x2 : Int) = (x2 : Int) := by rw [IntKind.wrap_u64]; omega
          have hunw : IntKind.u64.wrap ((un : Int) * 128) = (un2 : Int) := by rw [IntKind.wrap_u64, hun2]; omega
          have HX2 := hid hx2; have HX3 := hid hx3; have HUN2 := hid hun2
          have hx8 : x < 18446744073709551616 := by omega
          clear hx2 hx3 hmm hun2 hx
          go_upto_region 15 with fail
          clear hmul hmulw hadd haddw hunw h9'
          by_cases hc : c.toNat < 128
          · have hci : (c.toNat : Int) < 128 := by omega
            have HE2 := HE.out
            rw [if_pos hc] at HE2
            by_cases hz : c.toNat = 0 ∧ 0 < i
            · rw [if_pos hz] at HE2
              have HF := hid HE2
              obtain ⟨hz1, hz2⟩ := hz
              have hz1i : ((c.toNat : Int) == 0) = true := by simp [hz1]
              have hz2i : (0 : Int) < (i : Int) := by omega
              clear HE2 hz1
              go_wp2
              go_ret3
              exact ⟨by rw [HF.out]; rfl, rfl⟩
            · rw [if_neg hz] at HE2
              have hxe : x + 128 ^ i * c.toNat = x2 := by rw [HX2.out, Nat.mod_eq_of_lt hc]
              rw [hxe] at HE2
              have HF := hid HE2
              clear HE2 hxe
              by_cases hz0 : c.toNat = 0
              · have hz1i : ((c.toNat : Int) == 0) = true := by simp [hz0]
                have hz2i : ¬ (0 : Int) < (i : Int) := by omega
                clear hz hz0
                go_wp2
                go_ret3
                exact ⟨by rw [HF.out]; rfl, rfl⟩
              · have hz1i : ((c.toNat : Int) == 0) = false := by simp [hz0]
                clear hz hz0
                go_wp2
                go_ret3
                exact ⟨by rw [HF.out]; rfl, rfl⟩
          · have hci : ¬ (c.toNat : Int) < 128 := by omega
            have HE2 := HE.out
            rw [if_neg hc] at HE2
            have hxe : x + 128 ^ i * (c.toNat - 128) = x2 := by rw [HX2.out]; congr 2; omega
            rw [hxe] at HE2
            have hlt9 : i < 9 := by
              by_cases e : i = 9
              · have := H9.out; omega
              · omega
            have H2 := hid HE2
            have hai2 : a + i + 1 ≤ b.length := by omega
            clear HE2 hxe
            go_wp2
            go_roundw
            case rel => exact ⟨i + 1, by omega, by go_num, x2, un2, rfl, rfl, by have h := HUN2.out; rw [h, HUN.out]; have h1 : (128 : Nat) ^ (i + 1) ≤ 128 ^ 9 := Nat.pow_le_pow_right (by decide) (by omega); rw [Nat.pow_succ] at h1 ⊢; omega, HX3.out, by omega, by have h := H2.out; rw [show a + (i + 1) = a + i + 1 from by omega]; exact h, by trivial⟩
            case measure => simp [intOf]; omega

set_option maxRecDepth 100000 in
set_option maxHeartbeats 1600000 in
theorem refReadBytes_any {w : World} {v : Value} {b : List UInt8} (hv : BAt w v b) {a : Nat} (ha : a ≤ b.length) (hl : b.length ≤ 140737488351232) {most : Nat} (hm : most ≤ 140737488351232) :
    Calls Tryz.prog 144 #[v, .int .i64 a, .int .i64 most] w fun e w' => ∃ v', e = .returned (.tuple #[v', .int .i64 ((readB b a most).2.1 : Nat), .int .i64 (readB b a most).2.2]) ∧ NewB w w' v' (readB b a most).1 := by
  have HV := hid hv
  have HOUT := hid (refOutside_in hv ha)
  have HRU := hid (refReadUint_any hv ha (by omega))
  obtain ⟨R, hR⟩ : ∃ R, R = readB b a most := ⟨_, rfl⟩
  obtain ⟨U, hU⟩ : ∃ U, U = readU b a := ⟨_, rfl⟩
  rw [← hR]
  rw [← hU] at HRU
  have hok : U.2.2 = 0 → U.1 < 18446744073709551616 ∧ a < U.2.1 ∧ U.2.1 ≤ b.length := fun h => by rw [hU] at h ⊢; exact readU_ok h ha
  unfold readB at hR
  simp only [← hU] at hR
  obtain ⟨u1, u2, u3⟩ := U
  simp only at hR hok HRU
  have HR := hid hR; have HOK := hid hok
  obtain ⟨ao, cap, rfl, h1, h2, h3, h4⟩ := hv
  have HC := hid h4; have HN := hid h3
  clear hR hok hU h3 h4
  have hm0 : ¬ (most : Int) < 0 := by omega
  go_enter Tryz.func144, Tryz.ntmps144
  go_wp2_with fail
  refine HOUT.out.mono ?_
  rintro e w' ⟨rfl, hww⟩
  obtain rfl := hww.symm
  go_wp2_with fail
  refine HRU.out.mono ?_
  rintro e w' ⟨rfl, hww⟩
  obtain rfl := hww.symm
  by_cases he : u3 = 0
  · subst he
    obtain ⟨k1, k2, k3⟩ := HOK.out rfl
    have hR := HR.out
    rw [if_neg (by simp)] at hR
    by_cases hb : most < u1
    · rw [if_pos hb] at hR
      have HF := hid hR
      have hbi : (most : Int) < (u1 : Int) := by omega
      clear hR hb
      go_wp2
      go_ret3
      exact ⟨.slice none 0 0, by rw [HF.out]; rfl, by rw [HF.out]; exact NewB.nil _⟩
    · rw [if_neg hb] at hR
      have hbi : ¬ (most : Int) < (u1 : Int) := by omega
      by_cases ht : b.length - u2 < u1
      · rw [if_pos ht] at hR
        have HF := hid hR
        have hti : (b.length : Int) - (u2 : Int) < (u1 : Int) := by omega
        clear hR hb ht
        go_wp2
        go_ret3
        exact ⟨.slice none 0 0, by rw [HF.out]; rfl, by rw [HF.out]; exact NewB.nil _⟩
      · rw [if_neg ht] at hR
        have HF := hid hR
        have hti : ¬ (b.length : Int) - (u2 : Int) < (u1 : Int) := by omega
        have hlo : u2 + u1 ≤ b.length := by omega
        have hsumi : (u2 : Int) + (u1 : Int) = ((u2 + u1 : Nat) : Int) := by omega
        have hsumw : IntKind.i64.wrap ((u2 : Int) + (u1 : Int)) = ((u2 + u1 : Nat) : Int) := by rw [IntKind.wrap_i64]; omega
        have HPT := hid (refPart_any HV.out (lo := u2) (hi := u2 + u1) (by omega) hlo hl)
        rw [show u2 + u1 - u2 = u1 from by omega] at HPT
        obtain ⟨u5, hu5⟩ : ∃ u5, u5 = u2 + u1 := ⟨_, rfl⟩
        rw [← hu5] at hsumi hsumw HPT hlo
        have hu15 : u1 ≤ b.length := by omega
        have HU5 := hid hu5
        clear hR hb ht hu5
        go_wp2_with fail
        refine HPT.out.mono ?_
        rintro e w2 ⟨v2, rfl, hn2⟩
        have HN2 := hid (show NewB w w2 v2 R.1 from by rw [HF.out]; exact hn2)
        clear hn2
        go_wp2
        go_ret3
        exact ⟨v2, by rw [HF.out, HU5.out]; rfl, HN2.out⟩
  · have hR := HR.out
    rw [if_pos he] at hR
    have HF := hid hR
    have hei : (u3 != 0) = true := by simpa using he
    clear hR he
    go_wp2
    go_ret3
    exact ⟨.slice none 0 0, by rw [HF.out]; rfl, by rw [HF.out]; exact NewB.nil _⟩

end Go.Proofs.YtgaidmohdhaonaaGreatDoor

namespace Go.Proofs.YtgaidmohdhaonaaGreatDoor
set_option linter.unusedVariables false
set_option linter.unusedSimpArgs false
set_option linter.unnecessarySimpa false
set_option linter.unusedSectionVars false
open Go Go.RowKit

set_option maxRecDepth 100000 in
set_option maxHeartbeats 3200000 in
theorem refSum_any {w : World} {v : Value} {bs : List UInt8} {q : Nat} (hq : w.heap[q]? = some (.cells #[v] 22 (0, 0))) (hv : BAt w v bs) (hl : bs.length ≤ 140737488351232) :
    Calls Tryz.prog 173 #[.slice (some ⟨q, 0, none⟩) 1 1] w fun e w' => e = .returned (.int .u32 (crc bs : Nat)) ∧ w' = w := by
  have HV := hid hv
  have hql := lt_of_heap hq
  have hq0 : w.cell? ⟨q, 0, none⟩ = some v := by rw [cell_of_row w q 0 _ _ _ hq]; rfl
  obtain ⟨ao, cap, rfl, h1, h2, -, h4⟩ := hv
  have HC := hid h4
  clear hq h4
  go_enter Tryz.func173, Tryz.ntmps173
  go_wp2
  go_loopw [3, 4] (fun cv iv wr => wr = w ∧ ∃ n : Nat, n ≤ 1 ∧ iv = .int .i64 n ∧ cv = .int .u32 ((creg 4294967295 (if n = 0 then [] else bs) : Nat) : Int)) (fun _ iv _ => 1 - (intOf iv).toNat)
  case atStart => exact ⟨rfl, 0, by omega, rfl, rfl⟩
  case round =>
    obtain ⟨hww, n, hn, rfl, rfl⟩ := hrel
    obtain rfl := hww.symm
    by_cases hn0 : n = 0
    · subst hn0
      rw [if_pos rfl]
      go_wp2
      go_loopw [3, 5] (fun cv iv wr => wr = w ∧ ∃ k : Nat, k ≤ bs.length ∧ iv = .int .i64 k ∧ ∃ r : Nat, r < 4294967296 ∧ r = creg 4294967295 (bs.take k) ∧ cv = .int .u32 (r : Int)) (fun _ iv _ => bs.length - (intOf iv).toNat)
      case atStart => exact ⟨rfl, 0, Nat.zero_le _, rfl, 4294967295, by decide, rfl, rfl⟩
      case round =>
        obtain ⟨hww2, k, hk, rfl, r, hr, hre, rfl⟩ := hrel
        obtain rfl := hww2.symm
        by_cases hlt : k < bs.length
        · obtain ⟨g, o, rfl, hg, d0⟩ := HC.out k hlt
          have hstep := creg_step 4294967295 bs k hlt
          rw [← hre] at hstep
          generalize bs[k] = c at d0 hstep
          simp only [byteV] at d0
          have hc8 : c.toNat < 256 := c.toNat_lt
          have HST := hid hstep
          have hR2 : cbits 8 r c.toNat < 4294967296 := cbits_lt 8 hr
          obtain ⟨R2, hR2e⟩ : ∃ R2, R2 = cbits 8 r c.toNat := ⟨_, rfl⟩
          rw [← hR2e] at hR2
          have HR2L := hid hR2
          have HR2E := hid hR2e
          have HR := hid hr
          have HC8 := hid hc8
          obtain ⟨cn, hcn⟩ : ∃ cn, cn = c.toNat := ⟨_, rfl⟩
          rw [← hcn] at d0 HR2E HC8
          have HCN := hid hcn
          clear hre hstep hR2 hR2e hcn hc8 hr
          go_wp2
          go_loopw [3, 6, 7] (fun rv cv jv wr => wr = w ∧ ∃ j : Nat, j ≤ 8 ∧ jv = .int .i64 j ∧ ∃ r1 c1 : Nat, rv = .int .u32 (r1 : Int) ∧ cv = .int .u8 (c1 : Int) ∧ r1 < 4294967296 ∧ c1 < 256 ∧ cbits (8 - j) r1 c1 = R2) (fun _ _ jv _ => 8 - (intOf jv).toNat)
          case atStart => exact ⟨rfl, 0, by omega, rfl, r, cn, rfl, rfl, HR.out, HC8.out, HR2E.out.symm⟩
          case round =>
            obtain ⟨hww3, j, hj, rfl, r1, c1, rfl, rfl, hr1, hc1, hcb⟩ := hrel
            obtain rfl := hww3.symm
            have HCB := hid hcb
            clear hcb
            by_cases hj8 : j < 8
            · have HS := hid (show cbits (8 - (j + 1)) (cbit r1 c1) (c1 / 2) = R2 from by rw [← HCB.out, show 8 - j = (8 - (j + 1)) + 1 from by omega]; rfl)
              have HBL := hid (cbit_lt (c := c1) hr1)
              by_cases hodd : r1 % 2 ≠ c1 % 2
              · have hb : (((r1 : Int) % 2) != ((c1 : Int) % 2)) = true := by simp; omega
                have hx : bits .xor .u32 ((r1 : Int) / 2) 2197175160 = ((cbit r1 c1 : Nat) : Int) := by
                  rw [show ((r1 : Int) / 2) = ((r1 / 2 : Nat) : Int) from by omega, show (2197175160 : Int) = ((2197175160 : Nat) : Int) from rfl, u32_xor_nat _ _ (by omega) (by decide)]
                  unfold cbit
                  rw [if_pos hodd]
                obtain ⟨r2, hr2⟩ : ∃ r2, r2 = cbit r1 c1 := ⟨_, rfl⟩
                rw [← hr2] at hx HS HBL
                clear hodd hr2
                go_wp2
                go_roundw
                case rel => exact ⟨by trivial, j + 1, by omega, by go_num, r2, c1 / 2, rfl, by go_num, HBL.out, by omega, HS.out⟩
                case measure => simp [intOf]; omega
              · have hb : (((r1 : Int) % 2) != ((c1 : Int) % 2)) = false := by simp; omega
                have hx : cbit r1 c1 = r1 / 2 := by unfold cbit; rw [if_neg hodd]
                rw [hx] at HS
                clear hodd hx
                go_wp2
                go_roundw
                case rel => exact ⟨by trivial, j + 1, by omega, by go_num, r1 / 2, c1 / 2, by go_num, by go_num, by omega, by omega, HS.out⟩
                case measure => simp [intOf]; omega
            · obtain rfl : j = 8 := by omega
              have HE := hid (show r1 = creg 4294967295 (bs.take (k + 1)) from by rw [HST.out]; unfold cbyte; rw [← HCN.out, ← HR2E.out, ← HCB.out]; rfl)
              go_wp2
              go_roundw
              case rel => exact ⟨by trivial, k + 1, by omega, by go_num, r1, hr1, HE.out, rfl⟩
              case measure => simp [intOf]; omega
        · obtain rfl : k = bs.length := by omega
          have HRE := hid (show r = creg 4294967295 bs from by rw [hre, List.take_length])
          clear hre
          go_wp2
          go_roundw
          case rel => exact ⟨by trivial, 1, by omega, by go_num, by rw [if_neg (by decide), ← HRE.out]⟩
          case measure => simp [intOf]
    · obtain rfl : n = 1 := by omega
      rw [if_neg (by decide)]
      have hcl := creg_lt bs (r := 4294967295) (by decide)
      have HCR := hid (show crc bs = 4294967295 - creg 4294967295 bs from rfl)
      generalize creg 4294967295 bs = r at hcl HCR
      have hsub : (4294967295 : Int) - (r : Int) = ((4294967295 - r : Nat) : Int) := by omega
      have HSUB := hid hsub
      clear hsub
      go_wp2
      go_ret
      refine ⟨?_, rfl⟩
      rw [HCR.out, ← HSUB.out]
      rfl

set_option maxRecDepth 100000 in
theorem refSealed_any {w : World} {v : Value} {bs : List UInt8} (hv : BAt w v bs) (hl : bs.length ≤ 140737488351232) :
    Calls Tryz.prog 141 #[v] w fun e w' => ∃ v', e = .returned v' ∧ NewB w w' v' (lowB (crc bs)) := by
  have hu : Upd (fun _ => False) w (w.alloc (.cells #[v] 22)) := (Upd.refl _ _).alloc _
  have HS := hid (refSum_any (heap_alloc_new w (.cells #[v] 22)) (hv.keep hu) hl)
  have HCL := hid (crc_lt bs)
  obtain ⟨c, hc⟩ : ∃ c, c = crc bs := ⟨_, rfl⟩
  rw [← hc] at HS HCL
  have HCC := hid hc
  obtain ⟨ao, cap, rfl, -, -⟩ := hv
  have e0 : (((UInt8.ofNat c).toNat : Nat) : Int) = (c : Int) % 256 := by rw [UInt8.toNat_ofNat']; omega
  have e1 : (((UInt8.ofNat (c / 256)).toNat : Nat) : Int) = (c : Int) / 256 % 256 := by rw [UInt8.toNat_ofNat']; omega
  have e2 : (((UInt8.ofNat (c / 65536)).toNat : Nat) : Int) = (c : Int) / 65536 % 256 := by rw [UInt8.toNat_ofNat']; omega
  have e3 : (((UInt8.ofNat (c / 16777216)).toNat : Nat) : Int) = (c : Int) / 16777216 % 256 := by rw [UInt8.toNat_ofNat']; have := HCL.out; omega
  have HN := hid (fun (W : World) (hW : Upd (fun _ => False) w W) => NewB.lit0 hW (lowB c) (by simp [lowB]) (by simp [lowB]))
  have HE := hid (And.intro e0 (And.intro e1 (And.intro e2 e3)))
  clear hc e0 e1 e2 e3
  go_enter Tryz.func141, Tryz.ntmps141
  go_wp2_with fail
  refine HS.out.mono ?_
  rintro e w2 ⟨rfl, rfl⟩
  have hf := HN.out _ hu
  have hsz : (w.alloc (.cells #[.slice ao bs.length cap] 22)).heap.size = w.heap.size + 1 := by simp
  rw [hsz] at hf
  have HF := hid hf
  clear hu hf hsz
  go_wp2
  go_ret
  rw [← HCC.out, ← HE.out.1, ← HE.out.2.1, ← HE.out.2.2.1, ← HE.out.2.2.2]
  exact ⟨_, rfl, HF.out⟩

end Go.Proofs.YtgaidmohdhaonaaGreatDoor

namespace Go.Proofs.YtgaidmohdhaonaaGreatDoor
set_option linter.unusedVariables false
set_option linter.unusedSimpArgs false
set_option linter.unnecessarySimpa false
set_option linter.unusedSectionVars false
open Go Go.RowKit

theorem eight_step (n k : Nat) (hk : k < 8) : (eightB n).drop (8 - (k + 1)) = UInt8.ofNat (n / 256 ^ k) :: (eightB n).drop (8 - k) := by
  match k, hk with
  | 0, _ => simp [eightB]
  | 1, _ => simp [eightB]
  | 2, _ => simp [eightB]
  | 3, _ => simp [eightB]
  | 4, _ => simp [eightB]
  | 5, _ => simp [eightB]
  | 6, _ => simp [eightB]
  | 7, _ => simp [eightB]

set_option maxRecDepth 100000 in
set_option maxHeartbeats 3200000 in
theorem refEight_any {w : World} {n : Nat} (hn : n < 18446744073709551616) :
    Calls Tryz.prog 172 #[.int .u64 n] w fun e w' => ∃ v, e = .returned v ∧ NewB w w' v (eightB n) := by
  go_enter Tryz.func172, Tryz.ntmps172
  go_wp2
  go_loopw [0, 3, 4] (fun nv bv iv wr => ∃ k : Nat, k ≤ 8 ∧ iv = .int .i64 k ∧ ∃ m : Nat, nv = .int .u64 m ∧ m < 18446744073709551616 ∧ m = n / 256 ^ k ∧ ∃ ao cap, bv = .slice ao k cap ∧ NewB w wr (.slice ao k cap) ((eightB n).drop (8 - k))) (fun _ _ iv _ => 8 - (intOf iv).toNat)
  case atStart => exact ⟨0, by omega, rfl, n, rfl, hn, by simp, none, 0, rfl, NewB.nil w⟩
  case round =>
    obtain ⟨k, hk, rfl, m, rfl, hm, hme, ao, cap, rfl, hnew⟩ := hrel
    by_cases hk8 : k < 8
    · have hb : (((UInt8.ofNat m).toNat : Nat) : Int) = (m : Int) % 256 := by rw [UInt8.toNat_ofNat']; omega
      have hst := eight_step n k hk8
      rw [← hme] at hst
      have hlit := NewB.lit0 (w := wr) (Upd.refl (fun _ => False) wr) [UInt8.ofNat m] (by simp) (by simp)
      have hlit' := hlit.rebase hnew.upd
      have hkl : ((eightB n).drop (8 - k)).length = k := by simp [eightB_len]; omega
      obtain ⟨ao2, L2, cap2, w2, hr, hn2⟩ := hlit'.glue (hnew.data.bat.keep hlit.upd) (by rw [hkl]; simp; omega)
      obtain ⟨ao3, cap3, hv3, -, -⟩ := hn2.shape
      injection hv3 with e1 e2 e3
      subst e1
      subst e3
      have hL : L2 = k + 1 := by rw [e2, List.length_append, hkl]; simp; omega
      clear e2
      rw [List.singleton_append, ← hst] at hn2
      have hr' : (Builtin.append_ #[22, 22] 22 #[.slice (some ⟨wr.heap.size, 0, none⟩) 1 1, .slice ao k cap]).run Tryz.prog (wr.alloc (.cells #[.int .u8 (((UInt8.ofNat m).toNat : Nat) : Int)] 5)) = .ok (.slice ao2 L2 cap2) w2 := hr
      rw [hb] at hr'
      have HR := hid hr'; have HN := hid hn2; have HL := hid hL; have HME := hid hme
      clear hr hr' hn2 hst hlit hlit' hnew hb hkl hL hme
      go_wp2_with (at_builtin; refine wpList_append_run rfl _ _ _ rfl rfl rfl HR.out ?_)
      go_roundw
      case rel =>
        refine ⟨k + 1, by omega, by go_num, m / 256, by go_num, by omega, by rw [HME.out, Nat.div_div_eq_div_mul, Nat.pow_succ], ao2, cap2, by rw [HL.out], ?_⟩
        have h := HN.out
        rw [HL.out] at h
        exact h
      case measure => simp [intOf]; omega
    · obtain rfl : k = 8 := by omega
      have HN := hid hnew
      clear hnew
      go_wp2
      go_ret
      exact ⟨_, rfl, HN.out⟩

theorem numB_take (b : List UInt8) (a k : Nat) (h : a + k < b.length) : numB ((b.drop a).take (k + 1)) = 256 * numB ((b.drop a).take k) + (b[a + k]'h).toNat := by
  rw [List.take_succ_eq_append_getElem (by simp; omega), numB_snoc]
  simp

set_option maxRecDepth 100000 in
set_option maxHeartbeats 3200000 in
theorem refNumber_any {w : World} {v : Value} {b : List UInt8} (hv : BAt w v b) {a n : Nat} (hn : n ≤ 8) (ha : a + n ≤ b.length) (hl : b.length ≤ 140737488351232) :
    Calls Tryz.prog 142 #[v, .int .i64 a, .int .i64 n] w fun e w' => e = .returned (.int .u64 (numB ((b.drop a).take n) : Nat)) ∧ w' = w := by
  obtain ⟨ao, cap, rfl, h1, h2, h3, h4⟩ := hv
  have HC := hid h4
  clear h3 h4
  go_enter Tryz.func142, Tryz.ntmps142
  go_wp2
  go_loopw [7, 8] (fun nv iv wr => wr = w ∧ ∃ k : Nat, k ≤ n ∧ iv = .int .i64 k ∧ ∃ m : Nat, nv = .int .u64 m ∧ m = numB ((b.drop a).take k)) (fun _ iv _ => n - (intOf iv).toNat)
  case atStart => exact ⟨rfl, 0, Nat.zero_le _, rfl, 0, rfl, rfl⟩
  case round =>
    obtain ⟨hww, k, hk, rfl, m, rfl, hme⟩ := hrel
    obtain rfl := hww.symm
    by_cases hlt : k < n
    · obtain ⟨g, o, rfl, hg, d0⟩ := HC.out (a + k) (by omega)
      have hst := numB_take b a k (by omega)
      have hml := numB_lt ((b.drop a).take k)
      have hkl : ((b.drop a).take k).length = k := by simp; omega
      rw [hkl, ← hme] at hml
      have hm7 : m < 256 ^ 7 := Nat.lt_of_lt_of_le hml (Nat.pow_le_pow_right (by decide) (by omega))
      rw [← hme] at hst
      generalize b[a + k] = c at d0 hst
      simp only [byteV] at d0
      have hc8 := c.toNat_lt
      have hm56 : m < 72057594037927936 := by omega
      obtain ⟨m2, hm2⟩ : ∃ m2, m2 = 256 * m + c.toNat := ⟨_, rfl⟩
      rw [← hm2] at hst
      have hadd : 256 * (m : Int) + (c.toNat : Int) = (m2 : Int) := by omega
      have HST := hid hst.symm; have hm64 : m2 < 18446744073709551616 := by omega
      clear hst hme hml hkl hm7 hm2
      go_wp2
      go_roundw
      case rel => exact ⟨by trivial, k + 1, by omega, by go_num, m2, by go_num, HST.out⟩
      case measure => simp [intOf]; omega
    · obtain rfl : k = n := by omega
      have HM := hid hme
      clear hme
      go_wp2
      go_ret
      exact ⟨by rw [HM.out]; rfl, rfl⟩

end Go.Proofs.YtgaidmohdhaonaaGreatDoor

namespace Go.Proofs.YtgaidmohdhaonaaGreatDoor
set_option linter.unusedVariables false
set_option linter.unusedSimpArgs false
set_option linter.unnecessarySimpa false
set_option linter.unusedSectionVars false
open Go Go.RowKit

/-- The sum of bytes, held against bytes. -/
theorem refSealSame {w : World} {v1 v2 : Value} {xs ys : List UInt8} (h1 : BAt w v1 xs) (h2 : BAt w v2 ys) (hl : xs.length ≤ 140737488351232) :
    Calls Tryz.prog 141 #[v1] w fun e W1 => ∃ x y, e = .returned (.slice x 4 y) ∧ Hid (Upd (fun _ => False) w W1) ∧
      Hid (Calls Tryz.prog 79 #[.slice x 4 y, v2] W1 fun e W2 => e = .returned (.bool (decide (ys = lowB (crc xs)))) ∧ W2 = W1) := by
  refine (refSealed_any h1 hl).mono ?_
  rintro e W1 ⟨v, rfl, hn⟩
  obtain ⟨x, y, hv, -, -⟩ := hn.shape
  have h4 : (lowB (crc xs)).length = 4 := rfl
  rw [h4] at hv
  subst hv
  refine ⟨x, y, rfl, hn.upd, ?_⟩
  refine (refSame_any hn.data.bat (h2.keep hn.upd)).mono ?_
  rintro e W2 ⟨rfl, rfl⟩
  refine ⟨?_, rfl⟩
  congr 2
  rw [Bool.eq_iff_iff]
  simp only [decide_eq_true_eq]
  exact eq_comm

set_option maxRecDepth 100000 in
set_option maxHeartbeats 6400000 in
theorem refReadFrame_any {w : World} {v : Value} {b : List UInt8} (hv : BAt w v b) {a : Nat} (ha : a ≤ b.length) (hl : b.length ≤ 140737488351232) :
    Calls Tryz.prog 85 #[v, .int .i64 a] w fun e w' => ∃ v', e = .returned (.tuple #[v', .int .i64 ((readFr b a).2.1 : Nat), .int .i64 (readFr b a).2.2]) ∧ NewB w w' v' (readFr b a).1 := by
  have HV := hid hv
  have HOUT := hid (refOutside_in hv ha)
  obtain ⟨R, hR⟩ : ∃ R, R = readFr b a := ⟨_, rfl⟩
  rw [← hR]
  unfold readFr at hR
  obtain ⟨ao, cap, rfl, h1, h2, h3, h4⟩ := hv
  have HC := hid h4
  have HR := hid hR
  clear hR h3 h4
  go_enter Tryz.func85, Tryz.ntmps85
  go_wp2_with fail
  refine HOUT.out.mono ?_
  rintro e w' ⟨rfl, hww⟩
  obtain rfl := hww.symm
  by_cases h8 : b.length - a < 8
  · have hR := HR.out
    rw [if_pos h8] at hR
    have HF := hid hR
    have h8i : (b.length : Int) - (a : Int) < 8 := by omega
    clear hR h8
    go_wp2
    go_ret3
    exact ⟨.slice none 0 0, by rw [HF.out]; rfl, by rw [HF.out]; exact NewB.nil _⟩
  · have hR := HR.out
    rw [if_neg h8] at hR
    have HR2 := hid hR
    have h8i : ¬ (b.length : Int) - (a : Int) < 8 := by omega
    have ha8 : a + 8 ≤ b.length := by omega
    obtain ⟨g, o, rfl⟩ : ∃ g o, ao = some ⟨g, o, none⟩ := by
      obtain ⟨g, o, e, -⟩ := HC.out a (by omega)
      exact ⟨g, o, e⟩
    have hud : Upd (fun _ => False) w w.drew := (Upd.refl _ _).drew
    have HSE := hid (refSealSame ((HV.out.sub (lo := a) (n := 4) (by omega)).keep hud) ((HV.out.sub (lo := a + 4) (n := 4) (by omega)).keep hud) (by simp; omega))
    have i0 : (0 : Int) ≤ (a : Int) := by omega
    have i1 : (a : Int) ≤ (a : Int) + 4 := by omega
    have i2 : (a : Int) + 4 ≤ (cap : Int) := by omega
    have i3 : (a : Int) + 4 ≤ (a : Int) + 8 := by omega
    have i33 : (a : Int) + 8 ≤ (cap : Int) := by omega
    have i4 : ¬ cap = a := by omega
    have i44 : ¬ cap = a + 4 := by omega
    have i6 : a + 4 - a = 4 := by omega
    have i66 : a + 8 - (a + 4) = 4 := by omega
    have i8 : ¬ cap - a = 0 := by omega
    have i88 : ¬ cap - (a + 4) = 0 := by omega
    have iw4 : IntKind.i64.wrap ((a : Int) + 4) = (a : Int) + 4 := by rw [IntKind.wrap_i64]; omega
    have iw8 : IntKind.i64.wrap ((a : Int) + 8) = (a : Int) + 8 := by rw [IntKind.wrap_i64]; omega
    have it4 : ((a : Int) + 4).toNat = a + 4 := by omega
    have it8 : ((a : Int) + 8).toNat = a + 8 := by omega
    have iz4 : (0 : Int) ≤ (a : Int) + 4 := by omega
    have iz8 : (0 : Int) ≤ (a : Int) + 8 := by omega
    clear hR h8 hud
    go_wp2_with fail
    go_region_law (first | (go_simp; go_at_call 141; refine HSE.out.mono ?_; rintro e w1 ⟨x1, y1, rfl, hu1, hsame1⟩) | (go_simp; go_at_call 79; refine hsame1.out.mono ?_; rintro e w2 ⟨rfl, hww⟩; obtain rfl := hww.symm))
    all_goals
      have HU1 := hid ((Upd.refl (fun _ => False) w).drew.trans hu1.out (fun _ _ e => e))
      clear it4 it8 iz4 iz8 i1 i2 i3 i33 i4 i44 i6 i66 i8 i88 iw4 hu1 hsame1
      have HNUM := hid (refNumber_any (HV.out.keep HU1.out) (a := a) (n := 4) (by omega) (by omega) hl)
      by_cases hs : (b.drop (a + 4)).take 4 = lowB (crc ((b.drop a).take 4))
      · have hsd : decide ((b.drop (a + 4)).take 4 = lowB (crc ((b.drop a).take 4))) = true := by simpa using hs
        rw [hsd]
        have hR := HR2.out
        rw [if_neg (by simpa using hs)] at hR
        have hnl := numB_lt ((b.drop a).take 4)
        have h4l : ((b.drop a).take 4).length = 4 := by simp; omega
        rw [h4l] at hnl
        have hnn : num4 ((b.drop a).take 4) = numB ((b.drop a).take 4) := rfl
        rw [hnn] at hR
        generalize numB ((b.drop a).take 4) = N at HNUM hnl hR
        have hNl : N < 4294967296 := by omega
        have hNw : IntKind.i64.wrap (N : Int) = (N : Int) := by rw [IntKind.wrap_i64]; omega
        have HR3 := hid hR
        clear hR hs hsd hnl h4l hnn
        go_wp2_with fail
        refine HNUM.out.mono ?_
        rintro e w2 ⟨rfl, hww⟩
        obtain rfl := hww.symm
        by_cases hbig : 1048576 < N
        · have hR := HR3.out
          rw [if_pos hbig] at hR
          have HF := hid hR
          have hbi : (1048576 : Int) < (N : Int) := by omega
          clear hR hbig
          go_wp2
          go_ret3
          exact ⟨.slice none 0 0, by rw [HF.out]; rfl, by rw [HF.out]; exact ⟨.inl ⟨rfl, rfl⟩, fun k e => (by cases e), HU1.out⟩⟩
        · have hR := HR3.out
          rw [if_neg hbig] at hR
          have hbi : ¬ (1048576 : Int) < (N : Int) := by omega
          by_cases hto : b.length - (a + 8) < N + 4
          · rw [if_pos hto] at hR
            have HF := hid hR
            have hti : (b.length : Int) - (a : Int) - 8 < (N : Int) + 4 := by omega
            clear hR hbig hto
            go_wp2
            go_ret3
            exact ⟨.slice none 0 0, by rw [HF.out]; rfl, by rw [HF.out]; exact ⟨.inl ⟨rfl, rfl⟩, fun k e => (by cases e), HU1.out⟩⟩
          · rw [if_neg hto] at hR
            have hti : ¬ (b.length : Int) - (a : Int) - 8 < (N : Int) + 4 := by omega
            have hfit : a + 8 + N + 4 ≤ b.length := by omega
            have hpart := refPart_any (HV.out.keep HU1.out) (lo := a + 8) (hi := a + 8 + N) (by omega) (by omega) hl
            rw [show ((a + 8 : Nat) : Int) = (a : Int) + 8 from by omega, show ((a + 8 + N : Nat) : Int) = (a : Int) + 8 + (N : Int) from by omega, show a + 8 + N - (a + 8) = N from by omega] at hpart
            have HPT := hid hpart
            have HR4 := hid hR
            clear hR hbig hto hpart
            go_wp2_with fail
            refine HPT.out.mono ?_
            rintro e w3 ⟨v3, rfl, hn3⟩
            have HU3 := hid (HU1.out.trans hn3.upd (fun _ _ e => e))
            have HN3 := hid (hn3.rebase HU1.out)
            obtain ⟨x3, y3, hv3, -, -⟩ := hn3.shape
            have hbl : ((b.drop (a + 8)).take N).length = N := by simp; omega
            rw [hbl] at hv3
            subst hv3
            have hud3 : Upd (fun _ => False) w w3.drew := HU3.out.drew
            have HSE3 := hid (refSealSame (HN3.out.keep ((Upd.refl (fun _ => False) w3).drew)).data.bat ((HV.out.sub (lo := a + 8 + N) (n := 4) (by omega)).keep hud3) (by rw [hbl]; omega))
            have i1 : (a : Int) + 8 + (N : Int) ≤ (a : Int) + 12 + (N : Int) := by omega
            have i2 : (a : Int) + 12 + (N : Int) ≤ (cap : Int) := by omega
            have i4 : ¬ cap = a + 8 + N := by omega
            have i6 : a + 12 + N - (a + 8 + N) = 4 := by omega
            have i8 : ¬ cap - (a + 8 + N) = 0 := by omega
            have it4 : ((a : Int) + 8 + (N : Int)).toNat = a + 8 + N := by omega
            have it8 : ((a : Int) + 12 + (N : Int)).toNat = a + 12 + N := by omega
            have iz4 : (0 : Int) ≤ (a : Int) + 8 + (N : Int) := by omega
            have iz8 : (0 : Int) ≤ (a : Int) + 12 + (N : Int) := by omega
            have iw12 : IntKind.i64.wrap ((a : Int) + 12) = (a : Int) + 12 := by rw [IntKind.wrap_i64]; omega
            have iwN : IntKind.i64.wrap ((a : Int) + 8 + (N : Int)) = (a : Int) + 8 + (N : Int) := by rw [IntKind.wrap_i64]; omega
            have iwM : IntKind.i64.wrap ((a : Int) + 12 + (N : Int)) = (a : Int) + 12 + (N : Int) := by rw [IntKind.wrap_i64]; omega
            have i88 : ¬ cap = a + (8 + N) := by omega
            clear hn3 hbl hud3
            go_wp2_with fail
            go_region_law (first | (go_simp; go_at_call 141; refine HSE3.out.mono ?_; rintro e w4 ⟨x4, y4, rfl, hu4, hsame4⟩) | (go_simp; go_at_call 79; refine hsame4.out.mono ?_; rintro e w5 ⟨rfl, hww⟩; obtain rfl := hww.symm))
            all_goals
              have HU4 := hid ((Upd.refl (fun _ => False) w3).drew.trans hu4.out (fun _ _ e => e))
              clear hu4 hsame4
              by_cases hs2 : (b.drop (a + 8 + N)).take 4 = lowB (crc ((b.drop (a + 8)).take N))
              · have hsd : decide ((b.drop (a + 8 + N)).take 4 = lowB (crc ((b.drop (a + 8)).take N))) = true := by simpa using hs2
                rw [hsd]
                have hR := HR4.out
                rw [if_neg (by simpa using hs2)] at hR
                have HF := hid hR
                have HNF := hid (HN3.out.keep HU4.out)
                have HE := hid (show ((R.2.1 : Nat) : Int) = (a : Int) + 12 + (N : Int) ∧ R.2.2 = 0 from by rw [HF.out]; exact ⟨by simp only []; omega, rfl⟩)
                clear hR hs2 hsd
                go_wp2
                go_ret3
                exact ⟨_, by rw [HE.out.1, HE.out.2]; rfl, by rw [HF.out]; exact HNF.out⟩
              · have hsd : decide ((b.drop (a + 8 + N)).take 4 = lowB (crc ((b.drop (a + 8)).take N))) = false := by simpa using hs2
                rw [hsd]
                have hR := HR4.out
                rw [if_pos hs2] at hR
                have HF := hid hR
                have HUF := hid (HU3.out.trans HU4.out (fun _ _ e => e))
                clear hR hs2 hsd
                go_wp2
                go_ret3
                exact ⟨.slice none 0 0, by rw [HF.out]; rfl, by rw [HF.out]; exact ⟨.inl ⟨rfl, rfl⟩, fun k e => (by cases e), HUF.out⟩⟩
      · have hsd : decide ((b.drop (a + 4)).take 4 = lowB (crc ((b.drop a).take 4))) = false := by simpa using hs
        rw [hsd]
        have hR := HR2.out
        rw [if_pos hs] at hR
        have HF := hid hR
        clear hR hs hsd
        go_wp2
        go_ret3
        exact ⟨.slice none 0 0, by rw [HF.out]; rfl, by rw [HF.out]; exact ⟨.inl ⟨rfl, rfl⟩, fun k e => (by cases e), HU1.out⟩⟩

end Go.Proofs.YtgaidmohdhaonaaGreatDoor
