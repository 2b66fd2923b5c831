/-
  Package strataref1, walked: Same, Part, outside, Uint, Bytes.
  Package strataref1, walked: ReadUint, ReadBytes.
  Package strataref1, walked: Sum, Sealed.
  Package strataref1, walked: eight, number, Frame, ReadFrame.
  Package strataref1, walked: ReadFrame.
-/
import Derived.Test.YtgaidmohdhaonaaDoorYC
import Derived.Handy
import Derived.Laws.ResultCell
import Derived.Deep.RegionLaw
namespace Go.Proofs.YtgaidmohdhaonaaDoor
set_option linter.unusedVariables false
set_option linter.unusedSimpArgs false
set_option linter.unnecessarySimpa false
set_option linter.unusedSectionVars false
open Go Go.RowKit

/-- 'string(b)'. -/
theorem run_string_of {w : World} {v : Value} {bs : List UInt8} (h : BytesAt w v bs) : (convert 22 9 v).run Tryd.prog w = .ok (.string (toBA bs)) w := by
  obtain ⟨ao, cap, rfl, hn, hs⟩ := h
  cases ao with
  | none =>
    obtain ⟨rfl, rfl⟩ := hn rfl
    exact run_convert_bytes_nil w 22 5 Tryd.underlying22 Tryd.underlying5 _ _ 9 Tryd.underlying9
  | some a =>
    exact run_convert_bytes_back w 22 9 5 a cap bs Tryd.underlying22 Tryd.underlying5 Tryd.underlying9 (fun j hj => hs a rfl j _ (by rw [List.getElem?_map, List.getElem?_eq_getElem hj]; rfl))

theorem beq_toBA (a b : List UInt8) : ((toBA a).toList == (toBA b).toList) = decide (a = b) := by
  rw [beq_toList]
  congr 1
  apply propext
  constructor
  · intro h
    have := congrArg (fun x : ByteArray => x.data.toList) h
    simpa [toBA] using this
  · rintro rfl; rfl

set_option maxRecDepth 100000 in
theorem refSame_any {w : World} {a b : Value} {xs bs : List UInt8} (ha : BAt w a xs) (hb : BAt w b bs) :
    Calls Tryd.prog 20 #[a, b] w fun e w' => e = .returned (.bool (decide (xs = bs))) ∧ w' = w := by
  have h1 := run_string_of ha.bytes
  have h2 := run_string_of hb.bytes
  have hq := beq_toBA xs bs
  obtain ⟨ao, ca, rfl, -, -⟩ := ha
  obtain ⟨bo, cb, rfl, -, -⟩ := hb
  go_enter Tryd.func20, Tryd.ntmps20
  go_wp2
  go_ret
  exact ⟨rfl, rfl⟩

set_option maxRecDepth 100000 in
theorem refOutside_in {w : World} {v : Value} {bs : List UInt8} (hv : BAt w v bs) {a : Nat} (ha : a ≤ bs.length) :
    Calls Tryd.prog 78 #[v, .int .i64 a] w fun e w' => e = .returned (.bool false) ∧ w' = w := by
  obtain ⟨ao, cap, rfl, -, -⟩ := hv
  have h0 : ¬ (a : Int) < 0 := by omega
  have h1 : ¬ (bs.length : Int) < (a : Int) := by omega
  go_enter Tryd.func78, Tryd.ntmps78
  go_wp2
  go_ret
  exact ⟨rfl, rfl⟩

set_option maxRecDepth 100000 in
theorem refPart_any {w : World} {ao : Option Addr} {cap : Nat} {b : List UInt8} (hv : BAt w (.slice ao b.length cap) b) {lo hi : Nat} (h1 : lo ≤ hi) (h2 : hi ≤ b.length) (hl : b.length ≤ 140737488351232) :
    Calls Tryd.prog 8 #[.slice ao b.length cap, .int .i64 lo, .int .i64 hi] w fun e w' => ∃ v', e = .returned v' ∧ NewB w w' v' ((b.drop lo).take (hi - lo)) := by
  obtain ⟨ao', cap', e, hc1, hc2, hc3, hc4⟩ := id hv
  injection e with e1 e2 e3
  subst e1
  subst e3
  clear e2
  obtain ⟨n, hn⟩ : ∃ n, n = hi - lo := ⟨_, rfl⟩
  rw [← hn]
  have hlo : (lo : Int) ≤ (hi : Int) := by omega
  have hhi : (hi : Int) ≤ (cap : Int) := by omega
  have hsub : (hi : Int) - (lo : Int) = (n : Int) := by omega
  have hn2 : hi - lo = n := hn.symm
  have hcl : ((b.drop lo).take n).length = n := by simp; omega
  have hcapm : cap ≤ 9223372036854775807 := hc2
  by_cases hcap : cap = lo
  · have h0 : n = 0 := by omega
    subst hcap
    subst h0
    have hs : BAt w (.slice ao 0 0) [] := ⟨ao, 0, rfl, by simp, by simp, fun _ => ⟨rfl, rfl⟩, fun j hj => by simp at hj⟩
    obtain ⟨v', w2, hr, hn2⟩ := (NewB.nil w).join hs (by simp) 22
    have HR := hid hr
    have HN := hid (show NewB w w2 v' ((b.drop cap).take 0) from hn2)
    clear hr hn2 hs hv hc3 hc4 hcl hn
    go_enter Tryd.func8, Tryd.ntmps8
    go_wp2_with (at_builtin; refine wpList_append_run rfl _ _ _ rfl rfl rfl HR.out ?_)
    go_ret
    exact ⟨_, rfl, HN.out⟩
  · cases ao with
    | none => exact absurd (hc3 rfl).2 (by have := (hc3 rfl).2; omega)
    | some a =>
      have hs : BAt w (.slice (some (a.add lo)) n (cap - lo)) ((b.drop lo).take n) := by
        by_cases h0 : n = 0
        · subst h0
          exact ⟨some (a.add lo), cap - lo, rfl, by simp, by omega, (fun h => by cases h), fun j hj => by simp at hj⟩
        · obtain ⟨g', o', e, -, -⟩ := hc4 lo (by omega)
          injection e with e
          subst e
          rw [show (Addr.add ⟨g', o', none⟩ lo : Addr) = ⟨g', o' + lo, none⟩ from by simp [Addr.add_lit]]
          exact hv.sub (by omega)
      obtain ⟨v', w2, hr, hn2⟩ := (NewB.nil w).join hs (by rw [hcl]; simp; omega) 22
      have HR := hid hr
      have HN := hid (show NewB w w2 v' ((b.drop lo).take n) from hn2)
      clear hr hn2 hs hv hc3 hc4 hcl hn
      go_enter Tryd.func8, Tryd.ntmps8
      go_wp2_with (at_builtin; refine wpList_append_run rfl _ _ _ rfl rfl rfl HR.out ?_)
      go_ret
      exact ⟨_, rfl, HN.out⟩

theorem NewB.lit0 {w W : World} (hu : Upd (fun _ => False) w W) (ms : List UInt8) (h0 : 0 < ms.length) (hl : ms.length ≤ 1000) : NewB w (W.alloc (.cells (ms.map byteV).toArray 5)) (.slice (some ⟨W.heap.size, 0, none⟩) ms.length ms.length) ms :=
  ⟨.inr ⟨W.heap.size, _, _, rfl, heap_alloc_new _ _, Nat.le_refl _, by simp, by unfold maxLen; omega, by rw [List.take_of_length_le (by simp)]⟩, fun k e => by simp only [Value.ownBlock, Option.some.injEq] at e; have := hu.size; omega, hu.alloc _⟩

end Go.Proofs.YtgaidmohdhaonaaDoor

namespace Go.Proofs.YtgaidmohdhaonaaDoor
set_option linter.unusedVariables false
set_option linter.unusedSimpArgs false
set_option linter.unnecessarySimpa false
set_option linter.unusedSectionVars false
open Go Go.RowKit

end Go.Proofs.YtgaidmohdhaonaaDoor

namespace Go.Proofs.YtgaidmohdhaonaaDoor
set_option linter.unusedVariables false
set_option linter.unusedSimpArgs false
set_option linter.unnecessarySimpa false
set_option linter.unusedSectionVars false
open Go Go.RowKit

end Go.Proofs.YtgaidmohdhaonaaDoor

namespace Go.Proofs.YtgaidmohdhaonaaDoor
set_option linter.unusedVariables false
set_option linter.unusedSimpArgs false
set_option linter.unnecessarySimpa false
set_option linter.unusedSectionVars false
open Go Go.RowKit

theorem eight_step (n k : Nat) (hk : k < 8) : (eightB n).drop (8 - (k + 1)) = UInt8.ofNat (n / 256 ^ k) :: (eightB n).drop (8 - k) := by
  match k, hk with
  | 0, _ => simp [eightB]
  | 1, _ => simp [eightB]
  | 2, _ => simp [eightB]
  | 3, _ => simp [eightB]
  | 4, _ => simp [eightB]
  | 5, _ => simp [eightB]
  | 6, _ => simp [eightB]
  | 7, _ => simp [eightB]

set_option maxRecDepth 100000 in
set_option maxHeartbeats 3200000 in
theorem refEight_any {w : World} {n : Nat} (hn : n < 18446744073709551616) :
    Calls Tryd.prog 100 #[.int .u64 n] w fun e w' => ∃ v, e = .returned v ∧ NewB w w' v (eightB n) := by
  go_enter Tryd.func100, Tryd.ntmps100
  go_wp2
  go_loopw [0, 3, 4] (fun nv bv iv wr => ∃ k : Nat, k ≤ 8 ∧ iv = .int .i64 k ∧ ∃ m : Nat, nv = .int .u64 m ∧ m < 18446744073709551616 ∧ m = n / 256 ^ k ∧ ∃ ao cap, bv = .slice ao k cap ∧ NewB w wr (.slice ao k cap) ((eightB n).drop (8 - k))) (fun _ _ iv _ => 8 - (intOf iv).toNat)
  case atStart => exact ⟨0, by omega, rfl, n, rfl, hn, by simp, none, 0, rfl, NewB.nil w⟩
  case round =>
    obtain ⟨k, hk, rfl, m, rfl, hm, hme, ao, cap, rfl, hnew⟩ := hrel
    by_cases hk8 : k < 8
    · have hb : (((UInt8.ofNat m).toNat : Nat) : Int) = (m : Int) % 256 := by rw [UInt8.toNat_ofNat']; omega
      have hst := eight_step n k hk8
      rw [← hme] at hst
      have hlit := NewB.lit0 (w := wr) (Upd.refl (fun _ => False) wr) [UInt8.ofNat m] (by simp) (by simp)
      have hlit' := hlit.rebase hnew.upd
      have hkl : ((eightB n).drop (8 - k)).length = k := by simp [eightB_len]; omega
      obtain ⟨ao2, L2, cap2, w2, hr, hn2⟩ := hlit'.glue (hnew.data.bat.keep hlit.upd) (by rw [hkl]; simp; omega)
      obtain ⟨ao3, cap3, hv3, -, -⟩ := hn2.shape
      injection hv3 with e1 e2 e3
      subst e1
      subst e3
      have hL : L2 = k + 1 := by rw [e2, List.length_append, hkl]; simp; omega
      clear e2
      rw [List.singleton_append, ← hst] at hn2
      have hr' : (Builtin.append_ #[22, 22] 22 #[.slice (some ⟨wr.heap.size, 0, none⟩) 1 1, .slice ao k cap]).run Tryd.prog (wr.alloc (.cells #[.int .u8 (((UInt8.ofNat m).toNat : Nat) : Int)] 5)) = .ok (.slice ao2 L2 cap2) w2 := hr
      rw [hb] at hr'
      have HR := hid hr'; have HN := hid hn2; have HL := hid hL; have HME := hid hme
      clear hr hr' hn2 hst hlit hlit' hnew hb hkl hL hme
      go_wp2_with (at_builtin; refine wpList_append_run rfl _ _ _ rfl rfl rfl HR.out ?_)
      go_roundw
      case rel =>
        refine ⟨k + 1, by omega, by go_num, m / 256, by go_num, by omega, by rw [HME.out, Nat.div_div_eq_div_mul, Nat.pow_succ], ao2, cap2, by rw [HL.out], ?_⟩
        have h := HN.out
        rw [HL.out] at h
        exact h
      case measure => simp [intOf]; omega
    · obtain rfl : k = 8 := by omega
      have HN := hid hnew
      clear hnew
      go_wp2
      go_ret
      exact ⟨_, rfl, HN.out⟩

theorem numB_take (b : List UInt8) (a k : Nat) (h : a + k < b.length) : numB ((b.drop a).take (k + 1)) = 256 * numB ((b.drop a).take k) + (b[a + k]'h).toNat := by
  rw [List.take_succ_eq_append_getElem (by simp; omega), numB_snoc]
  simp

set_option maxRecDepth 100000 in
set_option maxHeartbeats 3200000 in
theorem refNumber_any {w : World} {v : Value} {b : List UInt8} (hv : BAt w v b) {a n : Nat} (hn : n ≤ 8) (ha : a + n ≤ b.length) (hl : b.length ≤ 140737488351232) :
    Calls Tryd.prog 85 #[v, .int .i64 a, .int .i64 n] w fun e w' => e = .returned (.int .u64 (numB ((b.drop a).take n) : Nat)) ∧ w' = w := by
  obtain ⟨ao, cap, rfl, h1, h2, h3, h4⟩ := hv
  have HC := hid h4
  clear h3 h4
  go_enter Tryd.func85, Tryd.ntmps85
  go_wp2
  go_loopw [7, 8] (fun nv iv wr => wr = w ∧ ∃ k : Nat, k ≤ n ∧ iv = .int .i64 k ∧ ∃ m : Nat, nv = .int .u64 m ∧ m = numB ((b.drop a).take k)) (fun _ iv _ => n - (intOf iv).toNat)
  case atStart => exact ⟨rfl, 0, Nat.zero_le _, rfl, 0, rfl, rfl⟩
  case round =>
    obtain ⟨hww, k, hk, rfl, m, rfl, hme⟩ := hrel
    obtain rfl := hww.symm
    by_cases hlt : k < n
    · obtain ⟨g, o, rfl, hg, d0⟩ := HC.out (a + k) (by omega)
      have hst := numB_take b a k (by omega)
      have hml := numB_lt ((b.drop a).take k)
      have hkl : ((b.drop a).take k).length = k := by simp; omega
      rw [hkl, ← hme] at hml
      have hm7 : m < 256 ^ 7 := Nat.lt_of_lt_of_le hml (Nat.pow_le_pow_right (by decide) (by omega))
      rw [← hme] at hst
      generalize b[a + k] = c at d0 hst
      simp only [byteV] at d0
      have hc8 := c.toNat_lt
      have hm56 : m < 72057594037927936 := by omega
      obtain ⟨m2, hm2⟩ : ∃ m2, m2 = 256 * m + c.toNat := ⟨_, rfl⟩
      rw [← hm2] at hst
      have hadd : 256 * (m : Int) + (c.toNat : Int) = (m2 : Int) := by omega
      have HST := hid hst.symm; have hm64 : m2 < 18446744073709551616 := by omega
      clear hst hme hml hkl hm7 hm2
      go_wp2
      go_roundw
      case rel => exact ⟨by trivial, k + 1, by omega, by go_num, m2, by go_num, HST.out⟩
      case measure => simp [intOf]; omega
    · obtain rfl : k = n := by omega
      have HM := hid hme
      clear hme
      go_wp2
      go_ret
      exact ⟨by rw [HM.out]; rfl, rfl⟩

end Go.Proofs.YtgaidmohdhaonaaDoor

namespace Go.Proofs.YtgaidmohdhaonaaDoor
set_option linter.unusedVariables false
set_option linter.unusedSimpArgs false
set_option linter.unnecessarySimpa false
set_option linter.unusedSectionVars false
open Go Go.RowKit

end Go.Proofs.YtgaidmohdhaonaaDoor
