/-
  Package disk's 'named': which texts are names.
-/
import Derived.Test.YtohpgmeflmppaaaProg
import Derived.Test.YtohpgmeflmppaaaShelf
import Derived.Test.YtohpgmeflmppaaaBase
import Derived.Handy
import Derived.Outline
namespace Go.Proofs.Ytohpgmeflmppaaa
set_option linter.unusedVariables false
set_option linter.unusedSimpArgs false
set_option linter.unnecessarySimpa false
set_option linter.unusedSectionVars false
open Go Go.RowKit

def nameByte (c : UInt8) : Bool := (97 ≤ c && c ≤ 122) || (65 ≤ c && c ≤ 90) || (48 ≤ c && c ≤ 57) || c == 46 || c == 45 || c == 95 || c == 47
def nameOk (s : List UInt8) : Bool := decide (1 ≤ s.length ∧ s.length ≤ 64) && s.all nameByte

theorem nb_iff (c : UInt8) : nameByte c = true ↔ ((97 ≤ (c.toNat : Int) ∧ (c.toNat : Int) ≤ 122) ∨ (65 ≤ (c.toNat : Int) ∧ (c.toNat : Int) ≤ 90) ∨ (48 ≤ (c.toNat : Int) ∧ (c.toNat : Int) ≤ 57) ∨ 0 ≤ Lib.indexByte [46, 45, 95, 47] c) := by
  have hi : 0 ≤ Lib.indexByte [46, 45, 95, 47] c ↔ (c = 46 ∨ c = 45 ∨ c = 95 ∨ c = 47) := by
    constructor
    · intro h
      obtain ⟨n, hn⟩ := Int.eq_ofNat_of_zero_le h
      have h1 := (Lib.indexByte_some hn).1
      have hm : c ∈ [46, 45, 95, 47] := List.mem_of_getElem? h1
      simpa using hm
    · rintro (rfl | rfl | rfl | rfl) <;> decide
  rw [hi]
  have e1 : c = 46 ↔ c.toNat = 46 := ⟨fun h => by rw [h]; rfl, fun h => UInt8.toNat_inj.1 (by rw [h]; rfl)⟩
  have e2 : c = 45 ↔ c.toNat = 45 := ⟨fun h => by rw [h]; rfl, fun h => UInt8.toNat_inj.1 (by rw [h]; rfl)⟩
  have e3 : c = 95 ↔ c.toNat = 95 := ⟨fun h => by rw [h]; rfl, fun h => UInt8.toNat_inj.1 (by rw [h]; rfl)⟩
  have e4 : c = 47 ↔ c.toNat = 47 := ⟨fun h => by rw [h]; rfl, fun h => UInt8.toNat_inj.1 (by rw [h]; rfl)⟩
  simp [nameByte, UInt8.le_iff_toNat_le, e1, e2, e3, e4]
  omega

theorem take_all_step (s : ByteArray) (k : Nat) (h : k < s.size) : (s.data.toList.take (k + 1)).all nameByte = ((s.data.toList.take k).all nameByte && nameByte s[k]) := by
  have hl : k < s.data.toList.length := by simpa using h
  rw [List.take_succ_eq_append_getElem hl, List.all_append]
  simp [ByteArray.getElem_eq_getElem_data]

theorem no_name (s : ByteArray) (k : Nat) (h : k < s.size) (hf : nameByte s[k] = false) : nameOk s.data.toList = false := by
  have hl : k < s.data.toList.length := by simpa using h
  have : s.data.toList.all nameByte = false := by
    rw [List.all_eq_false]
    refine ⟨s.data.toList[k], List.getElem_mem hl, ?_⟩
    rw [show s.data.toList[k] = s[k] from by simp [ByteArray.getElem_eq_getElem_data], hf]; simp
  simp [nameOk, this]

theorem yes_name (s : ByteArray) (h1 : 1 ≤ s.size) (h2 : s.size ≤ 64) (h : (s.data.toList.take s.size).all nameByte = true) : nameOk s.data.toList = true := by
  have hl : s.data.toList.length = s.size := by simp
  rw [← hl, List.take_length] at h
  simp only [nameOk, h, hl, Bool.and_true, decide_eq_true_eq]
  exact ⟨h1, h2⟩

set_option maxRecDepth 100000 in
set_option maxHeartbeats 400000 in
theorem named_any (s : ByteArray) (w : World) :
    Calls Try.prog 48 #[.string s] w fun e w' => e = .returned (.bool (nameOk s.data.toList)) ∧ w' = w := by
  have hlen : s.data.toList.length = s.size := by simp
  by_cases h0 : s.size < 1
  · have hr : nameOk s.data.toList = false := by simp [nameOk, hlen]; intro h; omega
    have HR := hid hr; clear hr hlen
    go_enter Try.func48, Try.ntmps48
    go_wp2
    go_ret
    exact ⟨by rw [HR.out]; rfl, rfl⟩
  by_cases h1 : s.size > 64
  · have hr : nameOk s.data.toList = false := by simp [nameOk, hlen]; intro _ h; omega
    have HR := hid hr; clear hr hlen
    have h1' : (64 : Int) < (s.size : Int) := by omega
    have h0' : ¬ ((s.size : Int) < 1) := by omega
    go_enter Try.func48, Try.ntmps48
    go_wp2
    go_ret
    exact ⟨by rw [HR.out]; rfl, rfl⟩
  have hb0 : 1 ≤ s.size := by omega
  have hb1 : s.size ≤ 64 := by omega
  clear h0 h1
  have HL := hid hlen; clear hlen
  go_enter Try.func48, Try.ntmps48
  go_wp2
  go_loop [16] (fun i => ∃ k : Nat, k ≤ s.size ∧ i = .int .i64 k ∧ (s.data.toList.take k).all nameByte = true) (fun i => s.size - (intOf i).toNat)
  case atStart => exact ⟨0, by omega, rfl, by simp⟩
  case round =>
    obtain ⟨k, hk, rfl, hall⟩ := hrel
    have HA := hid hall; clear hall
    by_cases hlt : k < s.size
    · have hst := take_all_step s k hlt
      have HS := hid hst; clear hst
      go_wp2_with (go_at_call 70; refine (Try.strings_IndexByte _ _ _).mono ?_; rintro e w' ⟨rfl, rfl⟩)
      all_goals (try simp only [Bool.not_eq_true', Bool.not_eq_false', decide_eq_true_eq, decide_eq_false_iff_not] at *)
      all_goals first
        | (go_round
           case rel => exact ⟨k + 1, by omega, by go_num, by rw [HS.out, HA.out]; exact (nb_iff _).2 (by omega)⟩
           case measure => simp [intOf]; omega)
        | (go_ret
           have hf : nameByte s[k] = false := by rw [← Bool.not_eq_true]; exact fun h => by have := (nb_iff _).1 h; omega
           exact ⟨by rw [no_name s k hlt hf]; rfl, rfl⟩)
    · obtain rfl : k = s.size := by omega
      go_wp2
      go_ret
      exact ⟨by rw [yes_name s hb0 hb1 HA.out]; rfl, rfl⟩

end Go.Proofs.Ytohpgmeflmppaaa
