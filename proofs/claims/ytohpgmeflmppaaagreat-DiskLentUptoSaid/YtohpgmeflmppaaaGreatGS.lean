/-
  started, walked.
  started, walked.
-/
import Derived.Test.YtohpgmeflmppaaaGreatGR
namespace Go.Proofs.YtohpgmeflmppaaaGreat
set_option linter.unusedVariables false
set_option linter.unusedSimpArgs false
set_option linter.unnecessarySimpa false
set_option linter.unusedSectionVars false
open Go Go.RowKit

def firstName : ByteArray := ⟨#[102, 105, 114, 115, 116]⟩

theorem filesIn_nil (w : World) : FilesIn w (.slice none 0 0) [] := ⟨⟨Option.none, 0, rfl, by simp, by simp, fun k hk => by simp at hk⟩, by simp, by simp⟩
theorem intsAt_nil (w : World) : IntsAt w (.slice none 0 0) [] := ⟨Option.none, 0, rfl, by simp, fun k hk => by simp at hk⟩
theorem bytesAt_nil (w : World) : BytesAt w (.slice none 0 0) [] := ⟨Option.none, 0, rfl, (fun _ => ⟨rfl, rfl⟩), (fun a ha => by cases ha)⟩

/-- A call of the first script. -/
def firstOp (kind : Int) (bv : Value) (bs : List UInt8) : OpI := ⟨kind, 0, ⟨#[102, 105, 114, 115, 116]⟩, ⟨#[]⟩, bv, bs, 0, 0, .slice none 0 0, [], .slice none 0 0, []⟩

theorem firstOp_shapes {w : World} (kind : Int) {bv : Value} {bs : List UInt8} (h : BytesAt w bv bs) : OpShapes (firstOp kind bv bs) := by
  obtain ⟨a1, c1, h1, -, -⟩ := h
  exact ⟨a1, c1, none, 0, 0, none, 0, 0, h1, rfl, rfl⟩

/-- Any call of the first script, by plays. -/
theorem plays_first {w0 w : World} {S : WS} {kind : Int} {bv : Value} {bs : List UInt8} (hw : WOn w0 w S) (ho : OpAt w S (firstOp kind bv bs)) (hL : 0 < S.ds.length) (hn : S.b.n ≤ 4611686018427387904) (hk : kind = 1 ∨ kind = 2 ∨ kind = 5 ∨ kind = 7) :
    Calls Tryz.prog 22 #[.pointer (some ⟨S.p, 0, none⟩), .agg (firstOp kind bv bs).cells] w fun e w' => ActedM w0 w S 268435456 e w' := by
  rcases hk with rfl | rfl | rfl | rfl
  · exact plays_acts hw ho.shapes hL (.inl rfl) (fun i hi hi' W hW hu => (acts_create hW hi hi' ho.shapes rfl).mono (fun e w' h => h.made))
  · exact plays_acts hw ho.shapes hL (.inr (.inl rfl)) (fun i hi hi' W hW hu => (acts_append hW hi hi' (ho.keep hu) rfl hn).mono (fun e w' h => h.made))
  · exact plays_acts hw ho.shapes hL (.inr (.inr (.inr (.inr rfl)))) (fun i hi hi' W hW hu => (acts_delete hW hi hi' ho.shapes rfl).mono (fun e w' h => h.made))
  · exact plays_tells hw ho.shapes hL rfl (fun i hi hi' W hW hu => (tells_size hW hi hi' ho.shapes rfl).mono (fun e w' h => h.made))

/-- The first world: one disk of each. -/
theorem WS.Mem.first {B : Nat} {w : World} {p d q : Nat} {s : DS} {r : RS} (hs : s.In w) (hr : r.In w) (hp : w.heap[p]? = some (.cells #[.slice (some ⟨d, 0, none⟩) 1 1, .slice (some ⟨q, 0, none⟩) 1 1, .slice none 0 0, .slice none 0 0, .int .i64 0] 48 (0, 0)))
    (hd : w.heap[d]? = some (.cells #[ptrD s] 49 (0, 0))) (hq : w.heap[q]? = some (.cells #[ptrR r] 50 (0, 0))) (hpd : p ≠ d) (hpq : p ≠ q) (hdq : d ≠ q)
    (hsn : ∀ k ∈ s.blocks, k ≠ p ∧ k ≠ d ∧ k ≠ q ∧ B ≤ k ∧ ¬ r.own k) (hrn : ∀ k, r.own k → k ≠ p ∧ k ≠ d ∧ k ≠ q ∧ B ≤ k) (hB : B ≤ p ∧ B ≤ d ∧ B ≤ q) :
    WS.Mem B w ⟨p, .slice (some ⟨d, 0, none⟩) 1 1, .slice (some ⟨q, 0, none⟩) 1 1, ⟨[], .slice none 0 0, .slice none 0 0, 0⟩, [s], [r]⟩ := by
  have hnb : ∀ k, ¬ (⟨[], .slice none 0 0, .slice none 0 0, 0⟩ : BK).blk k := by
    intro k h
    rcases h with h | h | ⟨x, hx, _⟩
    · cases h
    · cases h
    · cases hx
  have hown : ∀ L k, (⟨p, .slice (some ⟨d, 0, none⟩) 1 1, .slice (some ⟨q, 0, none⟩) 1 1, ⟨[], .slice none 0 0, .slice none 0 0, 0⟩, [s], [r]⟩ : WS).ownAt L k → (L = 0 ∧ (k = p ∨ k = d ∨ k = q)) ∨ (L = 1 ∧ k ∈ s.blocks) ∨ (L = 2 ∧ r.own k) := by
    intro L k h
    rcases h with ⟨e, h⟩ | ⟨j, hj, e, h⟩ | ⟨j, hj, e, h⟩
    · rcases h with h | h | h | h
      · exact .inl ⟨e, .inl h⟩
      · have h' : some d = some k := h
        exact .inl ⟨e, .inr (.inl (Option.some.inj h').symm)⟩
      · have h' : some q = some k := h
        exact .inl ⟨e, .inr (.inr (Option.some.inj h').symm)⟩
      · exact absurd h (hnb k)
    · have hj' : j = 0 := by have h1 : j < [s].length := hj; simp at h1; exact h1
      subst hj'
      exact .inr (.inl ⟨e, h⟩)
    · have hj' : j = 0 := by have h1 : j < [r].length := hj; simp at h1; exact h1
      subst hj'
      exact .inr (.inr ⟨e, h⟩)
  refine ⟨hp, ⟨rfl, .inr ⟨d, 1, _, rfl, Nat.zero_le _, hd, Nat.le_refl _, by decide, rfl, rfl⟩⟩, ⟨rfl, .inr ⟨q, 1, _, rfl, Nat.zero_le _, hq, Nat.le_refl _, by decide, rfl, rfl⟩⟩,
    ⟨World.ownsRow_nil _ _ _ _, .inl ⟨rfl, rfl⟩, by simp, (fun k h => by cases h), (fun k h => by cases h), (fun k h => absurd h (hnb k)), by simp, by simp, by simp⟩, rfl, ?_, ?_,
    ⟨open Classical in fun k => if k ∈ s.blocks then 1 else if r.own k then 2 else 0, ?_⟩, ?_, ?_, ?_, hnb p, ?_, ?_⟩
  · intro j hj
    have hj' : j = 0 := by have h1 : j < [s].length := hj; simp at h1; exact h1
    subst hj'
    exact hs
  · intro j hj
    have hj' : j = 0 := by have h1 : j < [r].length := hj; simp at h1; exact h1
    subst hj'
    exact hr
  · intro L k h
    show (open Classical in if k ∈ s.blocks then 1 else if r.own k then 2 else 0) = L
    rcases hown L k h with ⟨rfl, h1⟩ | ⟨rfl, h1⟩ | ⟨rfl, h1⟩
    · have e1 : ¬ k ∈ s.blocks := fun hm => by
        obtain ⟨a, b, c, -⟩ := hsn k hm
        rcases h1 with h1 | h1 | h1
        · exact a h1
        · exact b h1
        · exact c h1
      have e2 : ¬ r.own k := fun hm => by
        obtain ⟨a, b, c, -⟩ := hrn k hm
        rcases h1 with h1 | h1 | h1
        · exact a h1
        · exact b h1
        · exact c h1
      rw [if_neg e1, if_neg e2]
    · rw [if_pos h1]
    · rw [if_neg (fun hm => (hsn k hm).2.2.2.2 h1), if_pos h1]
  · intro L k h
    rcases hown L k h with ⟨rfl, h1⟩ | ⟨rfl, h1⟩ | ⟨rfl, h1⟩
    · rcases h1 with rfl | rfl | rfl
      · exact hB.1
      · exact hB.2.1
      · exact hB.2.2
    · exact (hsn k h1).2.2.2.1
    · exact (hrn k h1).2.2.2
  · intro h
    have h' : some d = some p := h
    exact hpd (Option.some.inj h').symm
  · intro h
    have h' : some q = some p := h
    exact hpq (Option.some.inj h').symm
  · intro k h
    have h' : some d = some k := h
    refine ⟨fun h2 => ?_, hnb k⟩
    have h2' : some q = some k := h2
    exact hdq ((Option.some.inj h').trans (Option.some.inj h2').symm)
  · intro k _
    exact hnb k

end Go.Proofs.YtohpgmeflmppaaaGreat

namespace Go.Proofs.YtohpgmeflmppaaaGreat
set_option linter.unusedVariables false
set_option linter.unusedSimpArgs false
set_option linter.unnecessarySimpa false
set_option linter.unusedSectionVars false
open Go Go.RowKit

set_option maxRecDepth 100000 in
set_option maxHeartbeats 1600000 in
theorem started_any (w : World) (n : Nat) (hn : n ≤ 67108864) :
    Calls Tryz.prog 5 #[.int .i64 n] w fun e w' => ∃ S, e = .returned (.pointer (some ⟨S.p, 0, none⟩)) ∧ WOn w w' S ∧ 0 < S.ds.length ∧ S.b.n ≤ 1073741824 ∧ Calm S := by
  go_enter Tryz.func5, Tryz.ntmps5
  go_wp2_with fail
  refine (new_yes w n hn).mono ?_
  rintro e w1 ⟨s, rfl, hs1, hs2, hs3, hs4⟩
  have HS1 := hid hs1; have HS2 := hid hs2; have HS3 := hid hs3; have HS4 := hid hs4
  clear hs1 hs2 hs3 hs4
  go_wp2_with fail
  refine (refNew_yes w1 n hn).mono ?_
  rintro e w2 ⟨r, rfl, r1, r2, r3, r4, r5, r6, r7, r8, r9⟩
  have R1 := hid r1; have R2 := hid r2; have R3 := hid r3; have R4 := hid r4; have R5 := hid r5; have R6 := hid r6; have R8 := hid r8; have R9 := hid r9
  clear r1 r2 r3 r4 r5 r6 r7 r8 r9
  go_upto_region 6 with (go_at_call 9; refine (num_any _ _).mono ?_; rintro x w' ⟨rfl, hww⟩; obtain rfl := hww.symm)
  obtain ⟨w3, hw3⟩ : ∃ w3, w3 = (((w2.alloc (.cells #[.pointer (some ⟨s.p, 0, none⟩)] 49)).alloc (.cells #[.pointer (some ⟨r.p, 0, none⟩)] 50)).alloc (.cells #[.slice (some ⟨w2.heap.size, 0, none⟩) 1 1, .slice (some ⟨w2.heap.size + 1, 0, none⟩) 1 1, .slice none 0 0, .slice none 0 0, .int .i64 0] 48)) := ⟨_, rfl⟩
  rw [← hw3]
  have hu3 : Upd (fun _ => False) w2 w3 := by rw [hw3]; exact (((Upd.refl _ _).alloc _).alloc _).alloc _
  have hs3 : w3.heap.size = w2.heap.size + 1 + 1 + 1 := by rw [hw3]; simp
  have hP : w3.heap[w2.heap.size + 1 + 1]? = some (.cells #[.slice (some ⟨w2.heap.size, 0, none⟩) 1 1, .slice (some ⟨w2.heap.size + 1, 0, none⟩) 1 1, .slice none 0 0, .slice none 0 0, .int .i64 0] 48 (0, 0)) := by
    rw [hw3]
    have h := heap_alloc_new ((w2.alloc (.cells #[.pointer (some ⟨s.p, 0, none⟩)] 49)).alloc (.cells #[.pointer (some ⟨r.p, 0, none⟩)] 50)) (.cells #[.slice (some ⟨w2.heap.size, 0, none⟩) 1 1, .slice (some ⟨w2.heap.size + 1, 0, none⟩) 1 1, .slice none 0 0, .slice none 0 0, .int .i64 0] 48)
    simpa using h
  have hQ : w3.heap[w2.heap.size + 1]? = some (.cells #[ptrR r] 50 (0, 0)) := by
    have h := heap_alloc_new (w2.alloc (.cells #[.pointer (some ⟨s.p, 0, none⟩)] 49)) (.cells #[ptrR r] 50)
    rw [hw3, heap_alloc_past _ _ _ (by simp)]
    unfold ptrR at h ⊢
    simpa using h
  have hD : w3.heap[w2.heap.size]? = some (.cells #[ptrD s] 49 (0, 0)) := by
    have h := heap_alloc_new w2 (.cells #[ptrD s] 49)
    rw [hw3, heap_alloc_past _ _ _ (by simp; omega), heap_alloc_past _ _ _ (by simp)]
    exact h
  obtain ⟨N, hN⟩ : ∃ N, N = w2.heap.size := ⟨_, rfl⟩
  rw [← hN] at hs3 hP hQ hD ⊢
  have hw12 := R9.out.size
  have hw01 := HS4.out.size
  have hsl : ∀ k ∈ s.blocks, k < N := fun k hk => by have := HS1.out.lt k hk; omega
  have hrl : ∀ k, r.own k → k < N := fun k hk => by have := R1.out.lt hk; omega
  have hm0 : WS.Mem w.heap.size w3 ⟨N + 1 + 1, .slice (some ⟨N, 0, none⟩) 1 1, .slice (some ⟨N + 1, 0, none⟩) 1 1, ⟨[], .slice none 0 0, .slice none 0 0, 0⟩, [s], [r]⟩ := by
    refine WS.Mem.first ((HS1.out.upd R9.out (fun _ _ h => h)).upd hu3 (fun _ _ h => h)) (R1.out.upd hu3 (fun _ _ h => h)) hP hD hQ (by omega) (by omega) (by omega) (fun k hk => ?_) (fun k hk => ?_) ⟨by omega, by omega, by omega⟩
    · have h1 := hsl k hk
      exact ⟨by omega, by omega, by omega, HS3.out k hk, fun h2 => by have h3 := R8.out k h2; have h4 := HS1.out.lt k hk; omega⟩
    · have h1 := hrl k hk
      exact ⟨by omega, by omega, by omega, Nat.le_trans hw01 (R8.out k hk)⟩
  have hon0 : WOn w w3 ⟨N + 1 + 1, .slice (some ⟨N, 0, none⟩) 1 1, .slice (some ⟨N + 1, 0, none⟩) 1 1, ⟨[], .slice none 0 0, .slice none 0 0, 0⟩, [s], [r]⟩ := by
    refine ⟨hm0, (HS4.out.trans R9.out (fun _ _ h => h)).trans hu3 (fun _ _ h => h), fun i h h' => ?_, by simp⟩
    have hi : i = 0 := by have h1 : i < [s].length := h; simp at h1; exact h1
    subst hi
    show Alike s.abs r.abs ∧ Sorted r.F
    rw [HS2.out]
    exact ⟨⟨R2.out.symm, by rw [show r.abs.files = r.F.map FV.abs from rfl, R3.out]; exact .refl _, R4.out.symm, R5.out.symm, R6.out.symm⟩, by rw [R3.out]; simp [Sorted]⟩
  have hcalm : Calm ⟨N + 1 + 1, .slice (some ⟨N, 0, none⟩) 1 1, .slice (some ⟨N + 1, 0, none⟩) 1 1, ⟨[], .slice none 0 0, .slice none 0 0, 0⟩, [s], [r]⟩ := fun i h => by
    have hi : i = 0 := by have h1 : i < [s].length := h; simp at h1; exact h1
    subst hi
    show s.abs.down = false ∧ s.abs.armed = 0
    rw [HS2.out]
    exact ⟨rfl, rfl⟩
  obtain ⟨S0, hS0⟩ : ∃ S0 : WS, S0 = ⟨N + 1 + 1, .slice (some ⟨N, 0, none⟩) 1 1, .slice (some ⟨N + 1, 0, none⟩) 1 1, ⟨[], .slice none 0 0, .slice none 0 0, 0⟩, [s], [r]⟩ := ⟨_, rfl⟩
  rw [← hS0] at hon0 hcalm
  have hSp : S0.p = N + 1 + 1 ∧ S0.ds.length = 1 ∧ S0.b.n = 0 := by rw [hS0]; exact ⟨rfl, rfl, rfl⟩
  obtain ⟨P, hPe⟩ : ∃ P, P = N + 1 + 1 := ⟨_, rfl⟩
  rw [← hPe] at hSp ⊢
  have HON0 := hid hon0; have HCALM := hid hcalm; have HSP := hid hSp
  clear hw3 hu3 hs3 hP hQ hD hw12 hw01 hsl hrl hm0 hon0 hcalm hS0 hSp hPe hN HS1 HS2 HS3 HS4 R1 R2 R3 R4 R5 R6 R8 R9
  go_wp2
  obtain ⟨w4, hw4⟩ : ∃ w4, w4 = (w3.alloc (.cells #[.int .u8 7] 5)).alloc (.cells #[.int .i64 1, .int .i64 0, .string ⟨#[102, 105, 114, 115, 116]⟩, .string ⟨#[]⟩, .slice none 0 0, .int .i64 0, .int .i64 0, .slice none 0 0, .slice none 0 0, .int .i64 2, .int .i64 0, .string ⟨#[102, 105, 114, 115, 116]⟩, .string ⟨#[]⟩, .slice (some ⟨w3.heap.size, 0, none⟩) 1 1, .int .i64 0, .int .i64 0, .slice none 0 0, .slice none 0 0, .int .i64 7, .int .i64 0, .string ⟨#[102, 105, 114, 115, 116]⟩, .string ⟨#[]⟩, .slice none 0 0, .int .i64 0, .int .i64 0, .slice none 0 0, .slice none 0 0, .int .i64 5, .int .i64 0, .string ⟨#[102, 105, 114, 115, 116]⟩, .string ⟨#[]⟩, .slice none 0 0, .int .i64 0, .int .i64 0, .slice none 0 0, .slice none 0 0] 42) := ⟨_, rfl⟩
  rw [← hw4]
  have hu4 : Upd (fun _ => False) w3 w4 := by rw [hw4]; exact ((Upd.refl _ _).alloc _).alloc _
  have hs4 : w4.heap.size = w3.heap.size + 1 + 1 := by rw [hw4]; simp
  have hsb : w4.heap[w3.heap.size + 1]? = some (.cells #[.int .i64 1, .int .i64 0, .string ⟨#[102, 105, 114, 115, 116]⟩, .string ⟨#[]⟩, .slice none 0 0, .int .i64 0, .int .i64 0, .slice none 0 0, .slice none 0 0, .int .i64 2, .int .i64 0, .string ⟨#[102, 105, 114, 115, 116]⟩, .string ⟨#[]⟩, .slice (some ⟨w3.heap.size, 0, none⟩) 1 1, .int .i64 0, .int .i64 0, .slice none 0 0, .slice none 0 0, .int .i64 7, .int .i64 0, .string ⟨#[102, 105, 114, 115, 116]⟩, .string ⟨#[]⟩, .slice none 0 0, .int .i64 0, .int .i64 0, .slice none 0 0, .slice none 0 0, .int .i64 5, .int .i64 0, .string ⟨#[102, 105, 114, 115, 116]⟩, .string ⟨#[]⟩, .slice none 0 0, .int .i64 0, .int .i64 0, .slice none 0 0, .slice none 0 0] 42 (0, 0)) := by
    have h := heap_alloc_new (w3.alloc (.cells #[.int .u8 7] 5)) (.cells #[.int .i64 1, .int .i64 0, .string ⟨#[102, 105, 114, 115, 116]⟩, .string ⟨#[]⟩, .slice none 0 0, .int .i64 0, .int .i64 0, .slice none 0 0, .slice none 0 0, .int .i64 2, .int .i64 0, .string ⟨#[102, 105, 114, 115, 116]⟩, .string ⟨#[]⟩, .slice (some ⟨w3.heap.size, 0, none⟩) 1 1, .int .i64 0, .int .i64 0, .slice none 0 0, .slice none 0 0, .int .i64 7, .int .i64 0, .string ⟨#[102, 105, 114, 115, 116]⟩, .string ⟨#[]⟩, .slice none 0 0, .int .i64 0, .int .i64 0, .slice none 0 0, .slice none 0 0, .int .i64 5, .int .i64 0, .string ⟨#[102, 105, 114, 115, 116]⟩, .string ⟨#[]⟩, .slice none 0 0, .int .i64 0, .int .i64 0, .slice none 0 0, .slice none 0 0] 42)
    rw [hw4]
    simpa using h
  have hbb : w4.heap[w3.heap.size]? = some (.cells #[.int .u8 7] 5 (0, 0)) := by
    rw [hw4, heap_alloc_past _ _ _ (by simp)]
    exact heap_alloc_new w3 _
  obtain ⟨sb, hsbe⟩ : ∃ sb, sb = w3.heap.size + 1 := ⟨_, rfl⟩
  obtain ⟨bb, hbbe⟩ : ∃ bb, bb = w3.heap.size := ⟨_, rfl⟩
  rw [← hsbe] at hsb ⊢
  rw [← hbbe] at hsb hbb ⊢
  have hlow : ∀ L k, S0.ownAt L k → k < bb := fun L k h => by have := HON0.out.mem.lt h; omega
  have HSB := hid hsb; have HBB := hid hbb; have HLOW := hid hlow; have HS4 := hid (show sb < w4.heap.size ∧ bb < w4.heap.size ∧ bb < sb by omega)
  have HU4 := hid hu4
  have hsbl : sb < w4.heap.size := by omega
  clear hw4 hs4 hu4 hsb hbb hsbe hbbe hlow
  go_loopw [9] (fun i wr => ∃ k : Nat, k ≤ 4 ∧ i = .int .i64 k ∧ ∃ S', WOn w wr S' ∧ S'.p = P ∧ 0 < S'.ds.length ∧ S'.b.n ≤ (k : Int) * 268435456 ∧ Calm S' ∧ Turn w4.heap.size w4 wr S0 S') (fun i _ => 4 - (intOf i).toNat)
  case atStart => exact ⟨0, by omega, rfl, S0, HON0.out.keep HU4.out, HSP.out.1, by rw [HSP.out.2.1]; decide, by rw [HSP.out.2.2]; decide, HCALM.out, Turn.keep _ _ (Upd.refl _ _)⟩
  case round =>
    obtain ⟨k, hk, rfl, S', hon, hp, hlen, hbn, hcm, htu⟩ := hrel
    have htop : wr.heap[sb]? = some (.cells #[.int .i64 1, .int .i64 0, .string ⟨#[102, 105, 114, 115, 116]⟩, .string ⟨#[]⟩, .slice none 0 0, .int .i64 0, .int .i64 0, .slice none 0 0, .slice none 0 0, .int .i64 2, .int .i64 0, .string ⟨#[102, 105, 114, 115, 116]⟩, .string ⟨#[]⟩, .slice (some ⟨bb, 0, none⟩) 1 1, .int .i64 0, .int .i64 0, .slice none 0 0, .slice none 0 0, .int .i64 7, .int .i64 0, .string ⟨#[102, 105, 114, 115, 116]⟩, .string ⟨#[]⟩, .slice none 0 0, .int .i64 0, .int .i64 0, .slice none 0 0, .slice none 0 0, .int .i64 5, .int .i64 0, .string ⟨#[102, 105, 114, 115, 116]⟩, .string ⟨#[]⟩, .slice none 0 0, .int .i64 0, .int .i64 0, .slice none 0 0, .slice none 0 0] 42 (0, 0)) := (htu.upd.block sb HS4.out.1 (fun h => h.elim (fun ⟨L, hL⟩ => by have := HLOW.out L sb hL; have := HS4.out.2.2; omega) (fun h => by have := HS4.out.1; omega))).trans HSB.out
    have hbt : wr.heap[bb]? = some (.cells #[.int .u8 7] 5 (0, 0)) := (htu.upd.block bb HS4.out.2.1 (fun h => h.elim (fun ⟨L, hL⟩ => by have := HLOW.out L bb hL; omega) (fun h => by have := HS4.out.2.1; omega))).trans HBB.out
    have hbo : ∀ L, ¬ S'.ownAt L bb := fun L hL => (htu.foot L bb hL).elim (fun ⟨L', h⟩ => by have := HLOW.out L' bb h; omega) (fun h => by have := HS4.out.2.1; omega)
    have hbl : bb < wr.heap.size := lt_of_heap hbt
    have hsbr : sb < wr.heap.size := lt_of_heap htop
    have hb7 : BytesAt wr (.slice (some ⟨bb, 0, none⟩) 1 1) [7] := (DataIs.bytes (.inr ⟨bb, 1, _, rfl, hbt, by simp, by simp, by decide, rfl⟩))
    have hn62 : S'.b.n ≤ 4611686018427387904 := by omega
    have HON := hid hon; have HTU := hid htu; have HCM := hid hcm; have HTOP := hid htop
    by_cases hlt : k < 4
    · have hwr4 : w4.heap.size ≤ wr.heap.size := htu.upd.size
      have HFIN := hid (show ∀ w5, ActedM w wr S' 268435456 (.returned (.bool true)) w5 → ∃ k2 : Nat, k2 ≤ 4 ∧ Value.int .i64 ((k : Int) + 1) = .int .i64 (k2 : Int) ∧ ∃ S2, WOn w w5 S2 ∧ S2.p = P ∧ 0 < S2.ds.length ∧ S2.b.n ≤ (k2 : Int) * 268435456 ∧ Calm S2 ∧ Turn w4.heap.size w4 w5 S0 S2 from by
        rintro w5 ⟨-, S2, f1, f2, f3, f4, f5, f6⟩
        exact ⟨k + 1, by omega, by go_num, S2, f1, f2.trans hp, by omega, by omega, f5 hcm, htu.trans (f6.low hwr4)⟩)
      have HOP := hid (show ∀ kind bv bs, OpAt wr S' (firstOp kind bv bs) → (kind = 1 ∨ kind = 2 ∨ kind = 5 ∨ kind = 7) → Calls Tryz.prog 22 #[.pointer (some ⟨P, 0, none⟩), .agg (firstOp kind bv bs).cells] wr fun e w' => ActedM w wr S' 268435456 e w' from fun kind bv bs ho hk => hp ▸ plays_first hon ho hlen hn62 hk)
      have HNIL := hid (show ∀ kind, OpAt wr S' (firstOp kind (.slice none 0 0) []) from fun kind => ⟨bytesAt_nil wr, (fun a l c e => by cases e), by show ([] : List UInt8).length ≤ _; simp, firstOp_shapes kind (bytesAt_nil wr)⟩)
      have HSEV := hid (show OpAt wr S' (firstOp 2 (.slice (some ⟨bb, 0, none⟩) 1 1) [7]) from ⟨hb7, (fun a l c e _ => by injection e with e1 _ _; injection e1 with e1; subst e1; exact ⟨hbo, hbl⟩), by show ([7] : List UInt8).length ≤ _; simp, firstOp_shapes 2 hb7⟩)
      clear htop hbt hbo hbl hb7 hn62 hon htu hcm hp hlen hbn hwr4
      have hk4 : k = 0 ∨ k = 1 ∨ k = 2 ∨ k = 3 := by omega
      rcases hk4 with rfl | rfl | rfl | rfl
      · have d0 : wr.cell? ⟨sb, 0, none⟩ = some (.int .i64 1) := by rw [cell_of_row wr _ 0 _ _ _ HTOP.out]; rfl
        have d1 : wr.cell? ⟨sb, 1, none⟩ = some (.int .i64 0) := by rw [cell_of_row wr _ 1 _ _ _ HTOP.out]; rfl
        have d2 : wr.cell? ⟨sb, 2, none⟩ = some (.string ⟨#[102, 105, 114, 115, 116]⟩) := by rw [cell_of_row wr _ 2 _ _ _ HTOP.out]; rfl
        have d3 : wr.cell? ⟨sb, 3, none⟩ = some (.string ⟨#[]⟩) := by rw [cell_of_row wr _ 3 _ _ _ HTOP.out]; rfl
        have d4 : wr.cell? ⟨sb, 4, none⟩ = some (.slice none 0 0) := by rw [cell_of_row wr _ 4 _ _ _ HTOP.out]; rfl
        have d5 : wr.cell? ⟨sb, 5, none⟩ = some (.int .i64 0) := by rw [cell_of_row wr _ 5 _ _ _ HTOP.out]; rfl
        have d6 : wr.cell? ⟨sb, 6, none⟩ = some (.int .i64 0) := by rw [cell_of_row wr _ 6 _ _ _ HTOP.out]; rfl
        have d7 : wr.cell? ⟨sb, 7, none⟩ = some (.slice none 0 0) := by rw [cell_of_row wr _ 7 _ _ _ HTOP.out]; rfl
        have d8 : wr.cell? ⟨sb, 8, none⟩ = some (.slice none 0 0) := by rw [cell_of_row wr _ 8 _ _ _ HTOP.out]; rfl
        have HPL := hid (HOP.out _ _ _ (HNIL.out 1) (.inl rfl))
        simp only [OpI.cells, firstOp] at HPL
        go_wp2_with (go_at_call 22; refine HPL.out.mono ?_; rintro e w5 hact; obtain ⟨rfl, hact2⟩ := hact; have HA := hid (HFIN.out w5 ⟨rfl, hact2⟩); clear hact2)
        go_roundw
        case rel => exact HA.out
        case measure => simp [intOf]
      · have d0 : wr.cell? ⟨sb, 9, none⟩ = some (.int .i64 2) := by rw [cell_of_row wr _ 9 _ _ _ HTOP.out]; rfl
        have d1 : wr.cell? ⟨sb, 10, none⟩ = some (.int .i64 0) := by rw [cell_of_row wr _ 10 _ _ _ HTOP.out]; rfl
        have d2 : wr.cell? ⟨sb, 11, none⟩ = some (.string ⟨#[102, 105, 114, 115, 116]⟩) := by rw [cell_of_row wr _ 11 _ _ _ HTOP.out]; rfl
        have d3 : wr.cell? ⟨sb, 12, none⟩ = some (.string ⟨#[]⟩) := by rw [cell_of_row wr _ 12 _ _ _ HTOP.out]; rfl
        have d4 : wr.cell? ⟨sb, 13, none⟩ = some (.slice (some ⟨bb, 0, none⟩) 1 1) := by rw [cell_of_row wr _ 13 _ _ _ HTOP.out]; rfl
        have d5 : wr.cell? ⟨sb, 14, none⟩ = some (.int .i64 0) := by rw [cell_of_row wr _ 14 _ _ _ HTOP.out]; rfl
        have d6 : wr.cell? ⟨sb, 15, none⟩ = some (.int .i64 0) := by rw [cell_of_row wr _ 15 _ _ _ HTOP.out]; rfl
        have d7 : wr.cell? ⟨sb, 16, none⟩ = some (.slice none 0 0) := by rw [cell_of_row wr _ 16 _ _ _ HTOP.out]; rfl
        have d8 : wr.cell? ⟨sb, 17, none⟩ = some (.slice none 0 0) := by rw [cell_of_row wr _ 17 _ _ _ HTOP.out]; rfl
        have HPL := hid (HOP.out _ _ _ HSEV.out (.inr (.inl rfl)))
        simp only [OpI.cells, firstOp] at HPL
        go_wp2_with (go_at_call 22; refine HPL.out.mono ?_; rintro e w5 hact; obtain ⟨rfl, hact2⟩ := hact; have HA := hid (HFIN.out w5 ⟨rfl, hact2⟩); clear hact2)
        go_roundw
        case rel => exact HA.out
        case measure => simp [intOf]
      · have d0 : wr.cell? ⟨sb, 18, none⟩ = some (.int .i64 7) := by rw [cell_of_row wr _ 18 _ _ _ HTOP.out]; rfl
        have d1 : wr.cell? ⟨sb, 19, none⟩ = some (.int .i64 0) := by rw [cell_of_row wr _ 19 _ _ _ HTOP.out]; rfl
        have d2 : wr.cell? ⟨sb, 20, none⟩ = some (.string ⟨#[102, 105, 114, 115, 116]⟩) := by rw [cell_of_row wr _ 20 _ _ _ HTOP.out]; rfl
        have d3 : wr.cell? ⟨sb, 21, none⟩ = some (.string ⟨#[]⟩) := by rw [cell_of_row wr _ 21 _ _ _ HTOP.out]; rfl
        have d4 : wr.cell? ⟨sb, 22, none⟩ = some (.slice none 0 0) := by rw [cell_of_row wr _ 22 _ _ _ HTOP.out]; rfl
        have d5 : wr.cell? ⟨sb, 23, none⟩ = some (.int .i64 0) := by rw [cell_of_row wr _ 23 _ _ _ HTOP.out]; rfl
        have d6 : wr.cell? ⟨sb, 24, none⟩ = some (.int .i64 0) := by rw [cell_of_row wr _ 24 _ _ _ HTOP.out]; rfl
        have d7 : wr.cell? ⟨sb, 25, none⟩ = some (.slice none 0 0) := by rw [cell_of_row wr _ 25 _ _ _ HTOP.out]; rfl
        have d8 : wr.cell? ⟨sb, 26, none⟩ = some (.slice none 0 0) := by rw [cell_of_row wr _ 26 _ _ _ HTOP.out]; rfl
        have HPL := hid (HOP.out _ _ _ (HNIL.out 7) (.inr (.inr (.inr rfl))))
        simp only [OpI.cells, firstOp] at HPL
        go_wp2_with (go_at_call 22; refine HPL.out.mono ?_; rintro e w5 hact; obtain ⟨rfl, hact2⟩ := hact; have HA := hid (HFIN.out w5 ⟨rfl, hact2⟩); clear hact2)
        go_roundw
        case rel => exact HA.out
        case measure => simp [intOf]
      · have d0 : wr.cell? ⟨sb, 27, none⟩ = some (.int .i64 5) := by rw [cell_of_row wr _ 27 _ _ _ HTOP.out]; rfl
        have d1 : wr.cell? ⟨sb, 28, none⟩ = some (.int .i64 0) := by rw [cell_of_row wr _ 28 _ _ _ HTOP.out]; rfl
        have d2 : wr.cell? ⟨sb, 29, none⟩ = some (.string ⟨#[102, 105, 114, 115, 116]⟩) := by rw [cell_of_row wr _ 29 _ _ _ HTOP.out]; rfl
        have d3 : wr.cell? ⟨sb, 30, none⟩ = some (.string ⟨#[]⟩) := by rw [cell_of_row wr _ 30 _ _ _ HTOP.out]; rfl
        have d4 : wr.cell? ⟨sb, 31, none⟩ = some (.slice none 0 0) := by rw [cell_of_row wr _ 31 _ _ _ HTOP.out]; rfl
        have d5 : wr.cell? ⟨sb, 32, none⟩ = some (.int .i64 0) := by rw [cell_of_row wr _ 32 _ _ _ HTOP.out]; rfl
        have d6 : wr.cell? ⟨sb, 33, none⟩ = some (.int .i64 0) := by rw [cell_of_row wr _ 33 _ _ _ HTOP.out]; rfl
        have d7 : wr.cell? ⟨sb, 34, none⟩ = some (.slice none 0 0) := by rw [cell_of_row wr _ 34 _ _ _ HTOP.out]; rfl
        have d8 : wr.cell? ⟨sb, 35, none⟩ = some (.slice none 0 0) := by rw [cell_of_row wr _ 35 _ _ _ HTOP.out]; rfl
        have HPL := hid (HOP.out _ _ _ (HNIL.out 5) (.inr (.inr (.inl rfl))))
        simp only [OpI.cells, firstOp] at HPL
        go_wp2_with (go_at_call 22; refine HPL.out.mono ?_; rintro e w5 hact; obtain ⟨rfl, hact2⟩ := hact; have HA := hid (HFIN.out w5 ⟨rfl, hact2⟩); clear hact2)
        go_roundw
        case rel => exact HA.out
        case measure => simp [intOf]
    · obtain rfl : k = 4 := by omega
      clear htop hbt hbo hbl hb7 hn62
      go_wp2
      go_ret
      exact ⟨S', by rw [hp]; rfl, HON.out, hlen, by omega, HCM.out⟩

end Go.Proofs.YtohpgmeflmppaaaGreat
