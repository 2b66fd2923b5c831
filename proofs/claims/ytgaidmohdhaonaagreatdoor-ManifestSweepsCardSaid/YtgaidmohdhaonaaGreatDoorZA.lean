/-
  What is encoded is decoded: plain.
-/
import Derived.Test.YtgaidmohdhaonaaGreatDoorYK
namespace Go.Proofs.YtgaidmohdhaonaaGreatDoor
set_option linter.unusedVariables false
set_option linter.unusedSimpArgs false
set_option linter.unnecessarySimpa false
set_option linter.unusedSectionVars false
open Go Go.RowKit

/-- A reader in good order, with these bytes ahead. -/
structure Sfx (b : List UInt8) (s : RdA) (q : List UInt8) : Prop where
  rest : b.drop s.at' = q
  lt : s.at' ≤ b.length
  ok : s.bad = false

theorem Sfx.split {b q : List UInt8} {s : RdA} (h : Sfx b s q) : b = b.take s.at' ++ q ∧ (b.take s.at').length = s.at' := by
  refine ⟨by rw [← h.rest, List.take_append_drop], by rw [List.length_take]; have := h.lt; omega⟩
theorem Sfx.len {b q : List UInt8} {s : RdA} (h : Sfx b s q) : s.at' + q.length = b.length := by
  have := congrArg List.length h.rest
  rw [List.length_drop] at this
  have := h.lt
  omega
theorem Sfx.past {b p q : List UInt8} {s : RdA} (h : Sfx b s (p ++ q)) {n : Nat} (hn : n = s.at' + p.length) : Sfx b ⟨n, s.bad⟩ q := by
  have hl := h.len
  rw [List.length_append] at hl
  refine ⟨?_, by simp only; omega, h.ok⟩
  simp only
  rw [hn, ← List.drop_drop, h.rest, List.drop_left' rfl]

theorem Sfx.num {b q : List UInt8} {s : RdA} {n : Int} (h : Sfx b s (uintB (n % 18446744073709551616).toNat ++ q)) (h0 : 0 ≤ n) (h1 : n ≤ 9223372036854775807) : ∃ s', rdN b s = (n, s') ∧ Sfx b s' q := by
  obtain ⟨e1, e2⟩ := h.split
  have hr := readU_write (b.take s.at') q (n := (n % 18446744073709551616).toNat) (by omega)
  rw [← e1, e2] at hr
  have hv : (((n % 18446744073709551616).toNat : Nat) : Int) = n := by omega
  refine ⟨⟨s.at' + (uintB (n % 18446744073709551616).toNat).length, s.bad⟩, ?_, h.past rfl⟩
  unfold rdN
  rw [hr]
  simp only
  rw [if_neg (by omega), hv]

theorem Sfx.bytes {b q x : List UInt8} {s : RdA} {most : Nat} (h : Sfx b s (bytesB x ++ q)) (hx : x.length < 18446744073709551616) (hm : x.length ≤ most) : ∃ s', rdB b most s = (x, s') ∧ Sfx b s' q := by
  obtain ⟨e1, e2⟩ := h.split
  have hr := readB_write (b.take s.at') x q (most := most) hx hm
  rw [← e1, e2] at hr
  refine ⟨⟨s.at' + (bytesB x).length, s.bad⟩, ?_, h.past rfl⟩
  unfold rdB
  rw [hr]
  simp

/-- A run's numbers are what an int holds. -/
def MetaFit (r : MetaA) : Prop :=
  (0 ≤ r.num ∧ r.num ≤ 9223372036854775807) ∧ (0 ≤ r.count ∧ r.count ≤ 9223372036854775807) ∧ (0 ≤ r.index ∧ r.index ≤ 9223372036854775807) ∧ (0 ≤ r.low ∧ r.low ≤ 9223372036854775807) ∧ (0 ≤ r.clock ∧ r.clock ≤ 9223372036854775807) ∧ (0 ≤ r.bytes ∧ r.bytes ≤ 9223372036854775807)

theorem uintsB_cons (n : Int) (l : List Int) : uintsB (n :: l) = uintB (n % 18446744073709551616).toNat ++ uintsB l := rfl

theorem Sfx.meta {b q : List UInt8} {s : RdA} {r : MetaA} (h : Sfx b s (metaB r ++ q)) (hf : MetaFit r) (hb : b.length < 18446744073709551616) : ∃ s', rdMetaG (rdN b) (rdB b b.length) s = (r, s') ∧ Sfx b s' q := by
  unfold metaB at h
  simp only [uintsB_cons, List.append_assoc] at h
  obtain ⟨f1, f2, f3, f4, f5, f6⟩ := hf
  obtain ⟨s1, r1, h1⟩ := h.num f1.1 f1.2
  obtain ⟨s2, r2, h2⟩ := h1.num f2.1 f2.2
  obtain ⟨s3, r3, h3⟩ := h2.num f3.1 f3.2
  obtain ⟨s4, r4, h4⟩ := h3.num f4.1 f4.2
  obtain ⟨s5, r5, h5⟩ := h4.num f5.1 f5.2
  obtain ⟨s6, r6, h6⟩ := h5.num f6.1 f6.2
  have h6' : Sfx b s6 (bytesB r.first ++ (bytesB r.last ++ q)) := h6
  have hl6 := h6'.len
  simp only [bytesB, List.length_append] at hl6
  obtain ⟨s7, r7, h7⟩ := h6'.bytes (most := b.length) (by omega) (by omega)
  obtain ⟨s8, r8, h8⟩ := h7.bytes (most := b.length) (by omega) (by omega)
  refine ⟨s8, ?_, h8⟩
  unfold rdMetaG
  simp only [r1, r2, r3, r4, r5, r6, r7, r8]

theorem Sfx.runs {b : List UInt8} (hb : b.length < 18446744073709551616) : ∀ (l : List MetaA) {q : List UInt8} {s : RdA}, Sfx b s ((l.map metaB).flatten ++ q) → (∀ r ∈ l, MetaFit r) → ∃ s', rdRunsG (rdMetaG (rdN b) (rdB b b.length)) l.length s = (l, s') ∧ Sfx b s' q
  | [], q, s, h, _ => ⟨s, rfl, h⟩
  | r :: l, q, s, h, hf => by
    have h' : Sfx b s (metaB r ++ ((l.map metaB).flatten ++ q)) := by simpa using h
    obtain ⟨s1, r1, h1⟩ := h'.meta (hf r (by simp)) hb
    obtain ⟨s2, r2, h2⟩ := Sfx.runs hb l h1 (fun x hx => hf x (by simp [hx]))
    refine ⟨s2, ?_, h2⟩
    rw [List.length_cons, rdRunsG, if_neg (by rw [h.ok]; decide), r1, r2]

def VerFit (x : VerA) : Prop :=
  (0 ≤ x.gen ∧ x.gen ≤ 9223372036854775807) ∧ (0 ≤ x.flushed ∧ x.flushed ≤ 9223372036854775807) ∧ (0 ≤ x.next ∧ x.next ≤ 9223372036854775807) ∧ (0 ≤ x.low ∧ x.low ≤ 9223372036854775807) ∧ (0 ≤ x.clock ∧ x.clock ≤ 9223372036854775807) ∧
  x.state.length ≤ 131072 ∧ x.runs.length ≤ 64 ∧ ∀ r ∈ x.runs, MetaFit r

theorem rdVer_body {x : VerA} (hf : VerFit x) (hb : (bodyB x).length < 18446744073709551616) : ∃ s', rdVerG (rdN (bodyB x)) (rdB (bodyB x) 131072) (rdB (bodyB x) (bodyB x).length) = (x, s') ∧ s'.bad = false := by
  obtain ⟨f1, f2, f3, f4, f5, f6, f7, f8⟩ := hf
  have h : Sfx (bodyB x) ⟨0, false⟩ (bodyB x) := ⟨rfl, Nat.zero_le _, rfl⟩
  obtain ⟨b, hbd⟩ : ∃ b, b = bodyB x := ⟨_, rfl⟩
  have h' : Sfx b ⟨0, false⟩ (uintsB [x.gen, x.flushed, x.next, x.low, x.clock] ++ (bytesB x.state ++ (uintsB [(x.runs.length : Int)] ++ (x.runs.map metaB).flatten))) := by rw [hbd]; exact h
  rw [← hbd] at hb ⊢
  simp only [uintsB_cons, List.append_assoc] at h'
  obtain ⟨s1, r1, h1⟩ := h'.num f1.1 f1.2
  obtain ⟨s2, r2, h2⟩ := h1.num f2.1 f2.2
  obtain ⟨s3, r3, h3⟩ := h2.num f3.1 f3.2
  obtain ⟨s4, r4, h4⟩ := h3.num f4.1 f4.2
  obtain ⟨s5, r5, h5⟩ := h4.num f5.1 f5.2
  obtain ⟨s6, r6, h6⟩ := Sfx.bytes (q := uintB ((x.runs.length : Int) % 18446744073709551616).toNat ++ ((x.runs.map metaB).flatten ++ [])) (by simpa [uintsB] using h5) (most := 131072) (by omega) f6
  obtain ⟨s7, r7, h7⟩ := h6.num (by omega) (by omega)
  obtain ⟨s8, r8, h8⟩ := Sfx.runs hb x.runs h7 f8
  refine ⟨s8, ?_, h8.ok⟩
  unfold rdVerG
  simp only [r1, r2, r3, r4, r5, r6, r7]
  rw [show min ((x.runs.length : Int)).toNat 65 = x.runs.length from by omega, r8]

theorem okA_fits {x : VerA} (h : okA x = true) {r : MetaA} (hr : r ∈ x.runs) : fitsA x r = true := by
  unfold okA at h
  simp only [Bool.and_eq_true, List.all_eq_true, List.mem_range] at h
  obtain ⟨k, hk, rfl⟩ := List.getElem_of_mem hr
  have h1 := h.2 k hk
  rw [runOkA_eq hk] at h1
  simp only [Bool.and_eq_true] at h1
  exact h1.1.1

theorem okA_fit {x : VerA} (h : okA x = true) (hc : ∀ r ∈ x.runs, r.count ≤ 9223372036854775807) : VerFit x := by
  have h1 := okA_head h
  simp only [headA, Bool.and_eq_true, ins, decide_eq_true_eq] at h1
  obtain ⟨⟨⟨⟨⟨⟨a1, a2⟩, a3⟩, a4⟩, a5⟩, a6⟩, a7⟩ := h1
  refine ⟨by omega, by omega, by omega, by omega, by omega, a6, a7, fun r hr => ?_⟩
  have h2 := okA_fits h hr
  have h3 := hc r hr
  simp only [fitsA, Bool.and_eq_true, ins, decide_eq_true_eq] at h2
  obtain ⟨⟨⟨⟨⟨b1, b2⟩, b3⟩, b4⟩, ⟨⟨b5, b6⟩, b7⟩⟩, -⟩ := h2
  exact ⟨by omega, by omega, by omega, by omega, by omega, by omega⟩

/-- WHAT IS ENCODED IS DECODED. -/
theorem decode_encode {x : VerA} (h : okA x = true) (hc : ∀ r ∈ x.runs, r.count ≤ 9223372036854775807) : decodeA (encodeB x) = some x := by
  have hbl := body_len h
  obtain ⟨s', hr, hbad⟩ := rdVer_body (okA_fit h hc) (by omega)
  have hfr := readFr_write magicB [] (b := bodyB x) (by omega)
  rw [List.append_nil] at hfr
  have e8 : magicB.length = 8 := rfl
  rw [e8] at hfr
  have hfr' : readFr (encodeB x) 8 = (bodyB x, 8 + (frameB (bodyB x)).length, 0) := hfr
  have hlen : (encodeB x).length = 8 + (frameB (bodyB x)).length := by simp [encodeB, magicB]; omega
  have htk : (encodeB x).take 8 = magicB := by unfold encodeB; exact List.take_left' rfl
  unfold decodeA
  rw [htk, hfr', hlen]
  simp only [hr, hbad]
  rw [if_neg (by simp), if_neg (by simp), if_neg (by simp), if_pos (by first | exact ⟨h, trivial⟩ | exact ⟨h, rfl⟩)]

end Go.Proofs.YtgaidmohdhaonaaGreatDoor
