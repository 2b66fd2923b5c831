/-
  Plain law: texts that differ from a version's text by up to three bits, or by bits within 32, are no version's text.
  Plain law: VersionTells: a version's text that was turned by up to three bits, or by bits within 32, or cut, or lengthened, is no version's text.
  Plain law: what Decode says of a version's text that was turned, cut or lengthened.
-/
import Derived.Test.YtgaidmohdhaonaaDoorZF
import Derived.Test.YtgaidmohdhaonaaDoorYK
import Derived.Test.YtgaidmohdhaonaaDoorYG
namespace Go.Proofs.YtgaidmohdhaonaaDoor
set_option linter.unusedVariables false
set_option linter.unusedSimpArgs false
open Go

theorem xor4 (a b c d : Nat) : (a ^^^ b) ^^^ (c ^^^ d) = (a ^^^ c) ^^^ (b ^^^ d) := by
  rw [Nat.xor_assoc, Nat.xor_assoc, ← Nat.xor_assoc b, Nat.xor_comm b, Nat.xor_assoc c]
theorem cbyte_csN (r : Nat) (b : UInt8) : cbyte r b = csN 8 (r ^^^ b.toNat) := by
  unfold cbyte
  rw [cbits8]
  have h1 := cbits_cs r b.toNat
  have h2 := cbits_cs (cbits 4 r b.toNat) (b.toNat / 16)
  rw [h1, show b.toNat / 16 / 16 = 0 by have := b.toNat_lt; omega, Nat.xor_zero] at h2
  exact h2

def syn (z : Nat) (E : List Nat) : Nat := E.foldl (fun z e => csN 8 (z ^^^ e)) z
theorem syn_append (z : Nat) (E F : List Nat) : syn z (E ++ F) = syn (syn z E) F := List.foldl_append
theorem creg_syn (bs : List UInt8) : ∀ r, creg r bs = syn r (bs.map UInt8.toNat) := by
  induction bs with
  | nil => intro r; rfl
  | cons b bs ih =>
    intro r
    show creg (cbyte r b) bs = syn (csN 8 (r ^^^ b.toNat)) _
    rw [cbyte_csN, ih]
theorem cs_two (m : Nat) : cs (m * 2) = m := by unfold cs; rw [if_neg (by omega)]; omega
theorem csN8_mul (m : Nat) : csN 8 (m * 256) = m := by
  rw [show m * 256 = m * 2 * 2 * 2 * 2 * 2 * 2 * 2 * 2 by omega]
  show cs (cs (cs (cs (cs (cs (cs (cs (m * 2 * 2 * 2 * 2 * 2 * 2 * 2 * 2))))))))= m
  simp only [cs_two]
theorem byte_split (c : Nat) : c = (c % 256) ^^^ (c / 256) * 256 := by
  apply Nat.eq_of_testBit_eq
  intro i
  rw [Nat.testBit_xor, show (256 : Nat) = 2 ^ 8 from rfl, Nat.testBit_mod_two_pow, Nat.testBit_mul_two_pow, Nat.testBit_div_two_pow]
  by_cases h : i < 8
  · have h8 : ¬ 8 ≤ i := by omega
    simp [h, h8]
  · simp [h, show 8 ≤ i by omega, show i - 8 + 8 = i by omega, show 8 + (i - 8) = i by omega]
theorem csN8_step (z c : Nat) : csN 8 (z ^^^ c) = csN 8 (z ^^^ c % 256) ^^^ (c / 256) := by
  have h : z ^^^ c = (z ^^^ c % 256) ^^^ (c / 256) * 256 := by rw [Nat.xor_assoc, ← byte_split]
  rw [h, csN_xor, csN8_mul]
theorem syn_low (z c : Nat) (hc : c < 4294967296) : syn z ((lowB c).map UInt8.toNat) = csN 32 (z ^^^ c) := by
  have e : (lowB c).map UInt8.toNat = [c % 256, c / 256 % 256, c / 256 / 256 % 256, c / 256 / 256 / 256 % 256] := by
    simp only [lowB, List.map_cons, List.map_nil, UInt8.toNat_ofNat']
    rw [Nat.div_div_eq_div_mul, Nat.div_div_eq_div_mul]
  rw [e]
  show csN 8 (csN 8 (csN 8 (csN 8 (z ^^^ c % 256) ^^^ c / 256 % 256) ^^^ c / 256 / 256 % 256) ^^^ c / 256 / 256 / 256 % 256) = csN (8 + (8 + (8 + 8))) (z ^^^ c)
  rw [csN_add, csN_add, csN_add, csN8_step z c, csN8_step _ (c / 256), csN8_step _ (c / 256 / 256), csN8_step _ (c / 256 / 256 / 256), show c / 256 / 256 / 256 / 256 = 0 by omega, Nat.xor_zero]
theorem body_syn (b : List UInt8) : syn 4294967295 ((b ++ lowB (crc b)).map UInt8.toNat) = csN 32 4294967295 := by
  rw [List.map_append, syn_append, ← creg_syn b, syn_low _ _ (crc_lt b)]
  unfold crc
  rw [← not32 _ (creg_lt b (by decide)), ← Nat.xor_assoc, Nat.xor_self, Nat.zero_xor]

/-- A part of the list turned by e. -/
theorem syn_zero_in (l : List Nat) : ∀ (z e : Nat), syn (z ^^^ e) l = syn z l ^^^ csN (8 * l.length) e := by
  induction l with
  | nil => intro z e; rfl
  | cons y l ih =>
    intro z e
    show syn (csN 8 ((z ^^^ e) ^^^ y)) l = syn (csN 8 (z ^^^ y)) l ^^^ _
    rw [Nat.xor_assoc, Nat.xor_comm e, ← Nat.xor_assoc, csN_xor, ih, List.length_cons, Nat.mul_succ, csN_add]
theorem syn_turn (l1 l2 : List Nat) (c e z : Nat) : syn z (l1 ++ (c ^^^ e) :: l2) = syn z (l1 ++ c :: l2) ^^^ csN (8 * (l2.length + 1)) e := by
  rw [syn_append, syn_append]
  show syn (csN 8 (_ ^^^ (c ^^^ e))) l2 = syn (csN 8 (_ ^^^ c)) l2 ^^^ _
  rw [← Nat.xor_assoc, csN_xor, syn_zero_in, Nat.mul_succ, csN_add]

/-- Bit k of a text is turned over. -/
def flipB (bs : List UInt8) (k : Nat) : List UInt8 := bs.set (k / 8) ((bs.getD (k / 8) 0) ^^^ UInt8.ofNat (2 ^ (k % 8)))
theorem flipB_length (bs : List UInt8) (k : Nat) : (flipB bs k).length = bs.length := by unfold flipB; simp
def synB (bs : List UInt8) : Nat := syn 0 (bs.map UInt8.toNat)

theorem pow_cs : ∀ (j n : Nat), csN j (2 ^ (n + j)) = 2 ^ n
  | 0, _ => rfl
  | j + 1, n => by
    show csN j (cs (2 ^ (n + (j + 1)))) = _
    rw [← Nat.add_assoc, Nat.pow_succ, cs_two, pow_cs j n]
theorem turn_syn (bs : List UInt8) (k z : Nat) (h : k < 8 * bs.length) : syn z ((flipB bs k).map UInt8.toNat) = syn z (bs.map UInt8.toNat) ^^^ csN (8 * bs.length + 31 - k) (2 ^ 31) := by
  have hk : k / 8 < bs.length := by omega
  have e1 : bs = bs.take (k / 8) ++ bs[k / 8] :: bs.drop (k / 8 + 1) := by rw [← List.drop_eq_getElem_cons hk, List.take_append_drop]
  have e2 : flipB bs k = bs.take (k / 8) ++ (bs[k / 8] ^^^ UInt8.ofNat (2 ^ (k % 8))) :: bs.drop (k / 8 + 1) := by
    unfold flipB
    rw [List.set_eq_take_append_cons_drop, if_pos hk, List.getD_eq_getElem?_getD, List.getElem?_eq_getElem hk, Option.getD_some]
  have hp : (2 : Nat) ^ (k % 8) < 256 := Nat.lt_of_lt_of_le (Nat.pow_lt_pow_right (by omega) (Nat.mod_lt k (by omega))) (by decide)
  have e3 : (UInt8.ofNat (2 ^ (k % 8))).toNat = 2 ^ (k % 8) := by rw [UInt8.toNat_ofNat']; exact Nat.mod_eq_of_lt hp
  have e4 : csN (8 * bs.length + 31 - k) (2 ^ 31) = csN (8 * ((bs.drop (k / 8 + 1)).length + 1)) (2 ^ (k % 8)) := by
    rw [List.length_drop, show 8 * bs.length + 31 - k = 8 * (bs.length - (k / 8 + 1) + 1) + (31 - k % 8) by omega, csN_add]
    congr 1
    have := pow_cs (31 - k % 8) (k % 8)
    rwa [show k % 8 + (31 - k % 8) = 31 by omega] at this
  rw [e4, e2, List.map_append, List.map_cons, UInt8.toNat_xor, e3]
  have h5 := syn_turn ((bs.take (k / 8)).map UInt8.toNat) ((bs.drop (k / 8 + 1)).map UInt8.toNat) bs[k / 8].toNat (2 ^ (k % 8)) z
  rw [h5, List.length_map]
  congr 1
  rw [← List.map_cons (f := UInt8.toNat), ← List.map_append, ← e1]

end Go.Proofs.YtgaidmohdhaonaaDoor

namespace Go.Proofs.YtgaidmohdhaonaaDoor
set_option linter.unusedVariables false
set_option linter.unusedSimpArgs false
open Go

theorem enc_len (x : VerA) : (encodeB x).length = 20 + (bodyB x).length := by
  simp [encodeB, magicB, frameB, highB, lowB]; omega
theorem enc_syn {x y : VerA} (h : (encodeB x).length = (encodeB y).length) : synB (encodeB x) = synB (encodeB y) := by
  rw [enc_len, enc_len] at h
  have hl : (bodyB x).length = (bodyB y).length := by omega
  have key : ∀ v : VerA, synB (encodeB v) = csN 32 4294967295 ^^^ csN (8 * ((bodyB v).length + 4)) (4294967295 ^^^ syn 0 ((magicB ++ (highB (bodyB v).length ++ lowB (crc (highB (bodyB v).length)))).map UInt8.toNat)) := by
    intro v
    unfold synB
    have e : encodeB v = (magicB ++ (highB (bodyB v).length ++ lowB (crc (highB (bodyB v).length)))) ++ (bodyB v ++ lowB (crc (bodyB v))) := by
      simp [encodeB, frameB, List.append_assoc]
    rw [e, List.map_append, syn_append]
    generalize syn 0 ((magicB ++ (highB (bodyB v).length ++ lowB (crc (highB (bodyB v).length)))).map UInt8.toNat) = s
    have h1 := syn_zero_in ((bodyB v ++ lowB (crc (bodyB v))).map UInt8.toNat) 4294967295 (4294967295 ^^^ s)
    rw [← Nat.xor_assoc, Nat.xor_self, Nat.zero_xor, body_syn] at h1
    rw [h1]
    simp [lowB]
  rw [key x, key y, hl]

/-- What a turned bit does to the sum. -/
def uB (N k : Nat) : Nat := csN (8 * N + 31 - k) (2 ^ 31)
theorem uB_lt (N k : Nat) : uB N k < 4294967296 := csN_lt _ (by decide)
def uS (N : Nat) (L : List Nat) : Nat := L.foldr (fun k s => uB N k ^^^ s) 0
theorem flips_syn : ∀ (L : List Nat) (bs : List UInt8), (∀ k ∈ L, k < 8 * bs.length) → synB (L.foldl flipB bs) = synB bs ^^^ uS bs.length L
  | [], bs, _ => (Nat.xor_zero _).symm
  | k :: L, bs, h => by
    rw [List.foldl_cons, flips_syn L (flipB bs k) (fun j hj => by rw [flipB_length]; exact h j (List.mem_cons_of_mem _ hj)), flipB_length]
    unfold synB
    rw [turn_syn bs k 0 (h k List.mem_cons_self), Nat.xor_assoc]
    rfl
theorem flips_length : ∀ (L : List Nat) (bs : List UInt8), (L.foldl flipB bs).length = bs.length
  | [], _ => rfl
  | k :: L, bs => by rw [List.foldl_cons, flips_length L, flipB_length]
theorem flips_zero {x y : VerA} {L : List Nat} (hk : ∀ k ∈ L, k < 8 * (encodeB x).length) (h : L.foldl flipB (encodeB x) = encodeB y) : uS (encodeB x).length L = 0 := by
  have h1 := flips_syn L (encodeB x) hk
  have h2 := flips_length L (encodeB x)
  rw [h] at h1 h2
  rw [enc_syn h2] at h1
  have h3 : synB (encodeB x) ^^^ synB (encodeB x) = synB (encodeB x) ^^^ (synB (encodeB x) ^^^ uS (encodeB x).length L) := by
    rw [← h1]
  rw [← Nat.xor_assoc, Nat.xor_self, Nat.zero_xor] at h3
  exact h3.symm

theorem flipB_twice (bs : List UInt8) (k : Nat) (h : k < 8 * bs.length) : flipB (flipB bs k) k = bs := by
  have hk : k / 8 < bs.length := by omega
  unfold flipB
  rw [List.set_set, List.getD_eq_getElem?_getD, List.getElem?_set_self (by simpa using hk), Option.getD_some, List.getD_eq_getElem?_getD, List.getElem?_eq_getElem hk, Option.getD_some, UInt8.xor_assoc, UInt8.xor_self, UInt8.xor_zero, List.set_getElem_self]
theorem uB_inj {N a b : Nat} (hab : a < b) (hb : b < 8 * N) (hN : N ≤ 1000000) (h : uB N a = uB N b) : False := by
  unfold uB at h
  rw [show 8 * N + 31 - a = (8 * N + 31 - b) + (b - a) by omega, csN_add] at h
  have h1 := csN_inj _ (csN_lt _ (by decide)) (by decide) h
  have h2 := pow_cs 31 0
  rw [Nat.zero_add, Nat.pow_zero] at h2
  have h3 : csN (b - a) 1 = 1 := by rw [← h2, csN_comm, h1]
  exact order_big (by omega) (by omega) h3
theorem uB_par (N k : Nat) : par 32 (uB N k) = true := by
  unfold uB
  rw [par_csN _ (by decide)]
  decide +kernel

/-- Up to three bits. -/
theorem three_bits {x y : VerA} {L : List Nat} (hL : L.length ≤ 3) (hk : ∀ k ∈ L, k < 8 * (encodeB x).length) (hN : (encodeB x).length ≤ 1000000) (h : L.foldl flipB (encodeB x) = encodeB y) : encodeB y = encodeB x := by
  have h0 := flips_zero hk h
  match L, hL with
  | [], _ => exact h.symm
  | [a], _ =>
    exfalso
    simp only [uS, List.foldr_cons, List.foldr_nil, Nat.xor_zero] at h0
    have := csN_zero _ (by decide) h0
    revert this; decide
  | [a, b], _ =>
    simp only [uS, List.foldr_cons, List.foldr_nil, Nat.xor_zero] at h0
    have e := xor_zero_eq h0
    have ha := hk a (by simp); have hb := hk b (by simp)
    rcases Nat.lt_trichotomy a b with g | g | g
    · exact (uB_inj g hb hN e).elim
    · subst g
      rw [← h]
      exact flipB_twice _ _ ha
    · exact (uB_inj g ha hN e.symm).elim
  | [a, b, c], _ =>
    exfalso
    simp only [uS, List.foldr_cons, List.foldr_nil, Nat.xor_zero] at h0
    have := congrArg (par 32) h0
    rw [par_xor, par_xor, uB_par, uB_par, uB_par] at this
    revert this; decide +kernel

/-- Powers that are joined. -/
def wS (L : List Nat) : Nat := L.foldr (fun n s => 2 ^ n ^^^ s) 0
theorem wS_bit : ∀ {L : List Nat}, L.Nodup → ∀ m, (wS L).testBit m = decide (m ∈ L)
  | [], _, m => by simp [wS]
  | n :: L, h, m => by
    show (2 ^ n ^^^ wS L).testBit m = _
    rw [List.nodup_cons] at h
    rw [Nat.testBit_xor, wS_bit h.2, Nat.testBit_two_pow]
    by_cases e : n = m
    · subst e; simp [h.1]
    · have e2 : ¬ m = n := fun h => e h.symm
      simp [e, e2]
theorem wS_lt : ∀ {L : List Nat}, (∀ n ∈ L, n < 32) → wS L < 4294967296
  | [], _ => by decide
  | n :: L, h => by
    show 2 ^ n ^^^ wS L < 2 ^ 32
    exact Nat.xor_lt_two_pow (Nat.pow_lt_pow_right (by omega) (h n List.mem_cons_self)) (wS_lt (fun k hk => h k (List.mem_cons_of_mem _ hk)))
theorem burst_u : ∀ {N at' : Nat} {L : List Nat}, at' < 8 * N → (∀ n ∈ L, n < 32 ∧ at' + n < 8 * N) → uS N (L.map (at' + ·)) = csN (8 * N - at') (wS L)
  | N, at', [], h, _ => (csN_of_zero _).symm
  | N, at', n :: L, h, hL => by
    show uB N (at' + n) ^^^ uS N (L.map (at' + ·)) = csN _ (2 ^ n ^^^ wS L)
    rw [burst_u h (fun k hk => hL k (List.mem_cons_of_mem _ hk)), csN_xor]
    congr 1
    obtain ⟨h1, h2⟩ := hL n List.mem_cons_self
    unfold uB
    rw [show 8 * N + 31 - (at' + n) = (8 * N - at') + (31 - n) by omega, csN_add]
    congr 1
    have := pow_cs (31 - n) n
    rwa [show n + (31 - n) = 31 by omega] at this
/-- Bits within 32. -/
theorem burst_bits {x y : VerA} {at' : Nat} {L : List Nat} (hat : at' < 8 * (encodeB x).length) (hn : L.Nodup) (hL : ∀ n ∈ L, n < 32 ∧ at' + n < 8 * (encodeB x).length) (h : (L.map (at' + ·)).foldl flipB (encodeB x) = encodeB y) : encodeB y = encodeB x := by
  have h0 := flips_zero (fun k hk => by obtain ⟨n, hn, rfl⟩ := List.mem_map.1 hk; exact (hL n hn).2) h
  rw [burst_u hat hL] at h0
  have h1 := csN_zero _ (wS_lt (fun n hn => (hL n hn).1)) h0
  cases L with
  | nil => exact h.symm
  | cons n L =>
    exfalso
    have h2 := wS_bit hn n
    rw [h1] at h2
    simp at h2

theorem highB_inj {a b : Nat} (ha : a < 4294967296) (hb : b < 4294967296) (h : highB a = highB b) : a = b := by
  simp only [highB, List.cons.injEq, and_true] at h
  obtain ⟨h1, h2, h3, h4⟩ := h
  have k1 := congrArg UInt8.toNat h1; have k2 := congrArg UInt8.toNat h2; have k3 := congrArg UInt8.toNat h3; have k4 := congrArg UInt8.toNat h4
  simp only [UInt8.toNat_ofNat'] at k1 k2 k3 k4
  omega
/-- A text at whose head a text stands. -/
theorem enc_prefix {x y : VerA} {r : List UInt8} (hx : (encodeB x).length < 4294967296) (h : encodeB y ++ r = encodeB x) : r = [] := by
  have hl := congrArg List.length h
  rw [List.length_append] at hl
  have h2 := congrArg (fun l => (l.drop 8).take 4) h
  have key : ∀ (v : VerA) (s : List UInt8), ((encodeB v ++ s).drop 8).take 4 = highB (bodyB v).length := by
    intro v s
    simp [encodeB, magicB, frameB, highB, lowB]
  have hk0 := key x []
  rw [List.append_nil] at hk0
  simp only [key y r, hk0] at h2
  have ex := enc_len x; have ey := enc_len y
  have e := highB_inj (by omega) (by omega) h2
  exact List.length_eq_zero_iff.1 (by omega)

end Go.Proofs.YtgaidmohdhaonaaDoor

namespace Go.Proofs.YtgaidmohdhaonaaDoor
set_option linter.unusedVariables false
set_option linter.unusedSimpArgs false
open Go

theorem decodeA_back {b : List UInt8} {x : VerA} (h : decodeA b = some x) : encodeB x = b ∧ (encodeB x).length ≤ 400000 := by
  have hok := decodeA_ok h
  unfold decodeA at h
  split at h
  · cases h
  split at h
  · cases h
  split at h
  · cases h
  split at h
  · rename_i hh
    injection h with h
    have hb := (body_len hok).1
    refine ⟨by rw [← h]; exact hh.2, ?_⟩
    rw [enc_len]
    omega
  · cases h
theorem encOk_len {x : VerA} (h : okA x = true) : (encodeB x).length ≤ 400000 ∧ 20 ≤ (encodeB x).length := by
  have hb := (body_len h).1
  rw [enc_len]
  omega

/-- Up to three bits. -/
theorem three_none {x : VerA} (hx : okA x = true) {L : List Nat} (hL : L.length ≤ 3) (hk : ∀ k ∈ L, k < 8 * (encodeB x).length) (hne : L.foldl flipB (encodeB x) ≠ encodeB x) : decodeA (L.foldl flipB (encodeB x)) = none := by
  cases h : decodeA (L.foldl flipB (encodeB x)) with
  | none => rfl
  | some y =>
    have h1 := (decodeA_back h).1
    have := encOk_len hx
    exact absurd (h1.symm.trans (three_bits hL hk (by omega) h1.symm)) hne
/-- The places that a pattern of 32 bits turns, from a place on, in a text of N bytes. -/
def burstL (N at' pat : Nat) : List Nat := (List.range 32).filter fun n => decide (at' + n < 8 * N) && pat.testBit n
theorem burst_none {x : VerA} {at' pat : Nat} (hat : at' < 8 * (encodeB x).length) (hne : ((burstL (encodeB x).length at' pat).map (at' + ·)).foldl flipB (encodeB x) ≠ encodeB x) : decodeA (((burstL (encodeB x).length at' pat).map (at' + ·)).foldl flipB (encodeB x)) = none := by
  cases h : decodeA (((burstL (encodeB x).length at' pat).map (at' + ·)).foldl flipB (encodeB x)) with
  | none => rfl
  | some y =>
    have h1 := (decodeA_back h).1
    refine absurd (h1.symm.trans (burst_bits hat ?_ ?_ h1.symm)) hne
    · exact List.Pairwise.filter _ List.nodup_range
    · intro n hn
      obtain ⟨k1, k2⟩ := List.mem_filter.1 hn
      simp only [Bool.and_eq_true, decide_eq_true_eq] at k2
      exact ⟨List.mem_range.1 k1, k2.1⟩
/-- Bytes that were cut off. -/
theorem cut_none {x : VerA} (hx : okA x = true) {c : Nat} (hc : c < (encodeB x).length) : decodeA ((encodeB x).take c) = none := by
  cases h : decodeA ((encodeB x).take c) with
  | none => rfl
  | some y =>
    have h1 := (decodeA_back h).1
    have h2 := encOk_len hx
    have h3 := enc_prefix (x := x) (y := y) (r := (encodeB x).drop c) (by omega) (by rw [h1, List.take_append_drop])
    have h4 := congrArg List.length h3
    rw [List.length_drop, List.length_nil] at h4
    omega
/-- Bytes that were joined. -/
theorem more_none {x : VerA} {more : List UInt8} (hm : more ≠ []) : decodeA (encodeB x ++ more) = none := by
  cases h : decodeA (encodeB x ++ more) with
  | none => rfl
  | some y =>
    obtain ⟨h1, h2⟩ := decodeA_back h
    exact absurd (enc_prefix (x := y) (y := x) (r := more) (by omega) h1.symm) hm

end Go.Proofs.YtgaidmohdhaonaaDoor
