/-
  VersionAgain's memory: a version that stands; one of its numbers is turned; lists of versions in a box. No walk but whole's.
  stratalaw10.VersionAgain, walked.
-/
import Derived.Test.YtgaidmohdhaonaaGreatDoorSO
import Derived.Test.YtgaidmohdhaonaaGreatDoorYK
import Derived.Test.YtgaidmohdhaonaaGreatDoorSB
namespace Go.Proofs.YtgaidmohdhaonaaGreatDoor
set_option linter.unusedVariables false
set_option linter.unusedSimpArgs false
set_option linter.unnecessarySimpa false
set_option linter.unusedSectionVars false
open Go Go.RowKit

set_option maxRecDepth 100000 in
/-- A number from lo to hi made of any. -/
theorem wholeB_any (n lo hi : Int) (h1 : lo ≤ hi) (h0 : 0 ≤ lo) (h2 : hi ≤ 1099511627776000) (w : World) :
    Calls Tryz.prog 26 #[.int .i64 n, .int .i64 lo, .int .i64 hi] w fun e w' => e = .returned (.int .i64 (lo + n % (hi - lo + 1))) ∧ w' = w := by
  obtain ⟨N, hN⟩ : ∃ N, N = hi - lo + 1 := ⟨_, rfl⟩
  have hN1 : 1 ≤ N := by omega
  have hb1 : -N < n.tmod N := Int.lt_tmod_of_pos n (by omega)
  have hb2 : n.tmod N < N := Int.tmod_lt_of_pos n (by omega)
  have hq := Int.mul_tdiv_add_tmod n N
  obtain ⟨r, hr⟩ : ∃ r, r = n.tmod N := ⟨_, rfl⟩
  rw [← hr] at hb1 hb2 hq
  have hem : n % N = if r < 0 then r + N else r := by
    have e1 : n = r + n.tdiv N * N := by rw [Int.mul_comm]; omega
    have e2 : n % N = r % N := by conv => lhs; rw [e1]
                                  exact Int.add_mul_emod_self_right ..
    rw [e2]
    split
    · rw [← Int.add_emod_right, Int.emod_eq_of_lt (by omega) (by omega)]
    · exact Int.emod_eq_of_lt (by omega) (by omega)
  rw [← hN, hem]
  have hr' : n.tmod N = r := hr.symm
  have hz : ¬ N = 0 := by omega
  have hNi : hi - lo + 1 = N := hN.symm
  clear hN hr hq hem
  by_cases hneg : r < 0
  · rw [if_pos hneg]
    have HF : Hid (lo + (r + N) = lo + (r + hi - lo + 1)) := hid (by omega)
    go_enter Tryz.func26, Tryz.ntmps26
    go_wp2
    go_ret
    exact ⟨by rw [HF.out]; rfl, rfl⟩
  · rw [if_neg hneg]
    go_enter Tryz.func26, Tryz.ntmps26
    go_wp2
    go_ret
    exact ⟨rfl, rfl⟩

/-- A version stands in whatever turns above. -/
theorem ver_stays {W : World} {base : Nat} {S0 : List UInt8} {a1 a2 a3 a4 a5 : Int} {st rs : Value} {L : List MV} (h1 : DataIs W st S0) (h2 : RunsOwn W base rs L) :
    ∀ W', Upd (fun k => W.heap.size ≤ k) W W' → VerAt W' (.agg #[.int .i64 a1, .int .i64 a2, .int .i64 a3, .int .i64 a4, .int .i64 a5, st, rs]) ⟨a1, a2, a3, a4, a5, S0, L.map MV.m⟩ := by
  intro W' hu
  exact verOf (h1.upd hu (fun k e hs => by have := h1.lt k e; omega)) ⟨owns_upd h2.row hu (fun k e hs => by have := (h2.row.lt k e).2; omega), fun y hy => ⟨(h2.data y hy).1.upd hu (fun k e hs => by have := (h2.data y hy).1.lt k e; omega), (h2.data y hy).2.upd hu (fun k e hs => by have := (h2.data y hy).2.lt k e; omega)⟩⟩

theorem flat_set1 {Ms : List MV} {k : Nat} (hk : k < Ms.length) (z : Int) : (Ms.flatMap MV.cells).set (k * 8) (.int .i64 z) = (Ms.set k ⟨{ Ms[k].m with num := z }, Ms[k].f, Ms[k].l⟩).flatMap MV.cells := by
  obtain ⟨A, m, B, rfl, hA⟩ : ∃ A m B, Ms = A ++ m :: B ∧ A.length = k := ⟨Ms.take k, Ms[k], Ms.drop (k + 1), by simp, by simp; omega⟩
  subst hA
  have hr : (A.flatMap MV.cells).length = A.length * 8 := by
    clear hk
    induction A with
    | nil => rfl
    | cons a A ih => rw [List.flatMap_cons, List.length_append, ih]; simp [MV.cells]; omega
  have hm : (A ++ m :: B)[A.length] = m := by simp
  rw [hm]
  have hs : ∀ y, (A ++ m :: B).set A.length y = A ++ y :: B := fun y => by simp
  rw [hs, List.flatMap_append, List.flatMap_append, List.flatMap_cons, List.flatMap_cons]
  generalize A.flatMap MV.cells = AA at hr
  rw [List.set_append_right _ _ (by omega)]
  simp only [hr, Nat.sub_self, MV.cells, List.cons_append, List.set_cons_zero, List.nil_append]

/-- The number of a run is turned. -/
theorem RunsOwn.setNum {W : World} {base : Nat} {v : Value} {L : List MV} {k : Nat} (h : RunsOwn W base v L) (hk : k < L.length) (z : Int) :
    ∃ g cap, v = .slice (some ⟨g, 0, none⟩) L.length cap ∧ g < W.heap.size ∧ base ≤ g ∧ L.length ≤ cap ∧ W.cell? ⟨g, k * 8, none⟩ = some (.int .i64 L[k].m.num) ∧ W.frozen? ⟨g, k * 8, none⟩ = false ∧
      RunsOwn (W.setCell ⟨g, k * 8, none⟩ (.int .i64 z)) base v (L.set k ⟨{ L[k].m with num := z }, L[k].f, L[k].l⟩) ∧ ∀ q bs, DataIs W q bs → DataIs (W.setCell ⟨g, k * 8, none⟩ (.int .i64 z)) q bs := by
  obtain ⟨hl, hr⟩ := id h.row
  rcases hr with ⟨rfl, h0⟩ | ⟨g, cap, cur, rfl, hb, hg, h2, h3, h4, h5⟩
  · omega
  · have hT : ∀ q, q = g → ∀ cur' fr, W.heap[q]? ≠ some (.cells cur' 5 fr) := by
      rintro q rfl cur' fr
      exact not_ty hg (by decide) cur' fr
    have hu : Upd (fun q => q = g) W (W.setCell ⟨g, k * 8, none⟩ (.int .i64 z)) := Upd.cell_only _ _ _ _
    refine ⟨g, cap, rfl, lt_of_heap hg, hb, h2, ?_, frozen_of_row _ _ _ _ _ hg, ⟨⟨?_, .inr ⟨g, cap, cur.setIfInBounds (k * 8) (.int .i64 z), by rw [List.length_set], hb, heap_setCell_at _ _ _ _ _ _ hg, by rw [List.length_set]; exact h2, h3, by simpa using h4, ?_⟩⟩, fun y hy => ?_⟩, fun q bs hd => hd.keepT hu hT⟩
    · rw [cell_of_row _ _ _ _ _ _ hg, ← Array.getElem?_toList]
      have h6 : (cur.toList.take (L.length * 8))[k * 8]? = (L.flatMap MV.cells)[k * 8]? := by rw [h5]
      rw [List.getElem?_take, if_pos (by omega)] at h6
      rw [h6]
      have h7 := flat_get MV.cells 8 (fun a => rfl) L k hk 0 (by omega)
      rw [Nat.add_zero] at h7
      rw [h7]
      rfl
    · rw [← flat_set1 hk z, List.length_set, List.length_set]
      exact hl
    · rw [← flat_set1 hk z, List.length_set, Array.toList_setIfInBounds, List.take_set, h5]
    · rcases List.mem_or_eq_of_mem_set hy with hy | rfl
      · exact ⟨(h.data y hy).1.keepT hu hT, (h.data y hy).2.keepT hu hT⟩
      · have h8 := h.data L[k] (List.getElem_mem hk)
        exact ⟨h8.1.keepT hu hT, h8.2.keepT hu hT⟩

/-- A byte joins State. -/
theorem DataIs.more1 {W : World} {ao : Option Addr} {cap : Nat} {bs : List UInt8} (h : DataIs W (.slice ao bs.length cap) bs) (b : UInt8) (hl : bs.length ≤ 140737488355000) :
    ∃ ao' cap' w', (Builtin.append_ #[22, 22] 22 #[.slice ao bs.length cap, .slice (some ⟨W.heap.size, 0, none⟩) 1 1]).run Tryz.prog (W.alloc (.cells #[.int .u8 (b.toNat : Int)] 5)) = .ok (.slice ao' (bs.length + 1) cap') w' ∧ DataIs w' (.slice ao' (bs.length + 1) cap') (bs ++ [b]) ∧
      Upd (fun k => (Value.slice ao bs.length cap).ownBlock = some k) W w' ∧ ∀ k, (Value.slice ao' (bs.length + 1) cap').ownBlock = some k → (Value.slice ao bs.length cap).ownBlock = some k ∨ W.heap.size ≤ k := by
  have hal : Upd (fun _ => False) W (W.alloc (.cells #[.int .u8 (b.toNat : Int)] 5)) := (Upd.refl _ _).alloc _
  obtain ⟨v', w', hrun, hrow, hu, ho, -⟩ := rowBytes.more2 (SRow.upd (SRow.of_data h) hal (fun _ _ e => e)) ⟨W.heap.size, 0, none⟩ 1 1 [.int .u8 (b.toNat : Int)] rfl (new_cells W 5 [.int .u8 (b.toNat : Int)]) (by simp [Value.oneCell']) (by omega) (by omega) 22
  obtain ⟨ao', cap', rfl, -⟩ := hrow.slice
  have e : bs.map byteV ++ [.int .u8 (b.toNat : Int)] = (bs ++ [b]).map byteV := by rw [List.map_append]; rfl
  rw [e] at hrow
  refine ⟨ao', cap', w', hrun, hrow.data, (hal.mono (fun _ _ e => e.elim)).trans hu (fun _ _ e => e), fun k hk => (ho k hk).imp id (fun h => ?_)⟩
  have h9 : (W.alloc (.cells #[.int .u8 (b.toNat : Int)] 5)).heap.size = W.heap.size + 1 := by simp
  omega

/-- A version as a box holds it. -/
structure VS where
  x : VerA
  st : Value
  rs : Value
def VS.cells (s : VS) : List Value := [.int .i64 s.x.gen, .int .i64 s.x.flushed, .int .i64 s.x.next, .int .i64 s.x.low, .int .i64 s.x.clock, s.st, s.rs]
def VS.val (s : VS) : Value := .agg #[.int .i64 s.x.gen, .int .i64 s.x.flushed, .int .i64 s.x.next, .int .i64 s.x.low, .int .i64 s.x.clock, s.st, s.rs]

theorem vs_at {W : World} {p : Nat} {T : TypeId} {L : List VS} (h : W.heap[p]? = some (.cells (L.flatMap VS.cells).toArray T (0, 0))) {i : Nat} (hi : i < L.length) :
    W.cell? ⟨p, i * 7, none⟩ = some (.int .i64 L[i].x.gen) ∧ W.cell? ⟨p, i * 7 + 1, none⟩ = some (.int .i64 L[i].x.flushed) ∧ W.cell? ⟨p, i * 7 + 2, none⟩ = some (.int .i64 L[i].x.next) ∧ W.cell? ⟨p, i * 7 + 3, none⟩ = some (.int .i64 L[i].x.low) ∧ W.cell? ⟨p, i * 7 + 4, none⟩ = some (.int .i64 L[i].x.clock) ∧ W.cell? ⟨p, i * 7 + 5, none⟩ = some L[i].st ∧ W.cell? ⟨p, i * 7 + 6, none⟩ = some L[i].rs ∧ p < W.heap.size := by
  have hc : ∀ j, j < 7 → W.cell? ⟨p, i * 7 + j, none⟩ = (VS.cells L[i])[j]? := fun j hj => by
    have hf := flat_get VS.cells 7 (fun a => rfl) L i hi j hj
    rw [cell_of_row _ _ _ _ _ _ h, List.getElem?_toArray, hf]
  exact ⟨hc 0 (by omega), hc 1 (by omega), hc 2 (by omega), hc 3 (by omega), hc 4 (by omega), hc 5 (by omega), hc 6 (by omega), lt_of_heap h⟩

theorem zeroAtR (w : World) : VerAt w (.agg (verC 0 0 0 0 0 (.slice none 0 0) (.slice none 0 0))) zeroVer :=
  ⟨none, 0, none, 0, rfl, ⟨none, 0, rfl, by decide, by decide, fun _ => ⟨rfl, rfl⟩, fun j hj => absurd hj (by simp [zeroVer])⟩, ⟨none, 0, rfl, by decide, by decide, fun k hk => absurd hk (by simp [zeroVer])⟩⟩
def errOf (o : Option VerA) : Int := if o.isSome then 0 else 100
def verOr (o : Option VerA) : VerA := o.getD zeroVer

theorem verAt_shape {W : World} {v : Value} {x : VerA} (h : VerAt W v x) : ∃ a1 n1 c1 a2 n2 c2, v = .agg #[.int .i64 x.gen, .int .i64 x.flushed, .int .i64 x.next, .int .i64 x.low, .int .i64 x.clock, .slice a1 n1 c1, .slice a2 n2 c2] := by
  obtain ⟨s1, d1, s2, d2, e, -, -⟩ := h
  exact ⟨s1, _, d1, s2, _, d2, e⟩

/-- What either Decode answers, in one form. -/
def Told (w' : World) (base : Nat) (e : Ending) (o : Option VerA) : Prop :=
  ∃ a1 n1 c1 a2 n2 c2, e = .returned (.tuple #[.agg #[.int .i64 (verOr o).gen, .int .i64 (verOr o).flushed, .int .i64 (verOr o).next, .int .i64 (verOr o).low, .int .i64 (verOr o).clock, .slice a1 n1 c1, .slice a2 n2 c2], .int .i64 (errOf o)]) ∧
    ∀ (S : Nat → Prop) W', (∀ k, S k → k < base) → Upd S w' W' → VerAt W' (.agg #[.int .i64 (verOr o).gen, .int .i64 (verOr o).flushed, .int .i64 (verOr o).next, .int .i64 (verOr o).low, .int .i64 (verOr o).clock, .slice a1 n1 c1, .slice a2 n2 c2]) (verOr o)

theorem DecOwn.told {w' : World} {base : Nat} {e : Ending} {o : Option VerA} (h : DecOwn w' base e o) : Told w' base e o := by
  cases o with
  | none => exact ⟨none, 0, 0, none, 0, 0, h, fun S W' _ _ => zeroAtR W'⟩
  | some x =>
    obtain ⟨v, h1, h2⟩ := h
    obtain ⟨a1, n1, c1, a2, n2, c2, rfl⟩ := verAt_shape h2.at
    exact ⟨a1, n1, c1, a2, n2, c2, h1, fun S W' hS hu => (h2.keep hu hS).at⟩
theorem DecKept.told {w' : World} {base : Nat} {e : Ending} {o : Option VerA} (h : DecKept w' base e o) : Told w' base e o := by
  cases o with
  | none => exact ⟨none, 0, 0, none, 0, 0, h, fun S W' _ _ => zeroAtR W'⟩
  | some x =>
    obtain ⟨v, h1, h2⟩ := h
    obtain ⟨a1, n1, c1, a2, n2, c2, rfl⟩ := verAt_shape (h2 (fun _ => False) w' (fun _ e => e.elim) (Upd.refl _ _))
    exact ⟨a1, n1, c1, a2, n2, c2, h1, h2⟩

theorem verOr_runs (b : List UInt8) : (verOr (decodeA b)).runs.length ≤ 64 := by
  cases h : decodeA b with
  | none => simp [verOr, zeroVer]
  | some x =>
    have h1 := okA_head (decodeA_ok h)
    show x.runs.length ≤ 64
    simp [headA, ins] at h1
    omega

theorem BAt.old {w : World} {v : Value} {bs : List UInt8} (h : BAt w v bs) : ∀ a l c, v = .slice (some a) l c → 0 < l → a.block < w.heap.size := by
  intro a l c e h0
  obtain ⟨ao, cap, e1, -, -, -, h4⟩ := h
  rw [e1] at e
  injection e with e2 e3 _
  obtain ⟨g, o, e5, hg, -⟩ := h4 0 (by omega)
  rw [e2] at e5
  injection e5 with e5
  subst e5
  exact hg

end Go.Proofs.YtgaidmohdhaonaaGreatDoor

namespace Go.Proofs.YtgaidmohdhaonaaGreatDoor
set_option linter.unusedVariables false
set_option linter.unusedSimpArgs false
set_option linter.unnecessarySimpa false
set_option linter.unusedSectionVars false
open Go Go.RowKit

theorem i64_and7 (n : Int) : bits .and .i64 n 7 = n % 8 := by
  have h7 : (BitVec.ofInt 64 7).toNat = 2 ^ 3 - 1 := by decide
  have key : (BitVec.ofInt 64 n &&& BitVec.ofInt 64 7).toNat = (n % ((2 ^ 64 : Nat) : Int)).toNat % 2 ^ 3 := by
    rw [BitVec.toNat_and, BitVec.toNat_ofInt, h7, Nat.and_two_pow_sub_one_eq_mod]
  show IntKind.i64.wrap ((BitVec.ofInt 64 n &&& BitVec.ofInt 64 7).toNat : Nat) = n % 8
  rw [key, IntKind.wrap_i64]
  omega
theorem i64_and3 (n : Int) : bits .and .i64 n 3 = n % 4 := by
  have h7 : (BitVec.ofInt 64 3).toNat = 2 ^ 2 - 1 := by decide
  have key : (BitVec.ofInt 64 n &&& BitVec.ofInt 64 3).toNat = (n % ((2 ^ 64 : Nat) : Int)).toNat % 2 ^ 2 := by
    rw [BitVec.toNat_and, BitVec.toNat_ofInt, h7, Nat.and_two_pow_sub_one_eq_mod]
  show IntKind.i64.wrap ((BitVec.ofInt 64 n &&& BitVec.ofInt 64 3).toNat : Nat) = n % 4
  rw [key, IntKind.wrap_i64]
  omega

/-- The version's box is written. -/
theorem again_box {W2 W : World} {p : Nat} {cs : Array Value} {base : Nat} {st rs : Value} {S0 : List UInt8} {L : List MV} (hr : W.heap[p]? = some (.cells cs 25 (0, 0))) (hn : W2.heap.size ≤ p) (hu : Upd (fun k => W2.heap.size ≤ k) W2 W) (hst : DataIs W st S0) (hro : RunsOwn W base rs L) (j : Nat) (v : Value) :
    (W.setCell ⟨p, j, none⟩ v).heap[p]? = some (.cells (cs.setIfInBounds j v) 25 (0, 0)) ∧ DataIs (W.setCell ⟨p, j, none⟩ v) st S0 ∧ RunsOwn (W.setCell ⟨p, j, none⟩ v) base rs L ∧ Upd (fun k => W2.heap.size ≤ k) W2 (W.setCell ⟨p, j, none⟩ v) := by
  have hT : ∀ k, k = p → ∀ cur fr, W.heap[k]? ≠ some (.cells cur 5 fr) ∧ W.heap[k]? ≠ some (.cells cur 48 fr) := by
    rintro k rfl cur fr
    exact ⟨not_ty hr (by decide) cur fr, not_ty hr (by decide) cur fr⟩
  have h1 : Upd (fun k => k = p) W (W.setCell ⟨p, j, none⟩ v) := Upd.cell_only _ _ _ _
  exact ⟨heap_setCell_at _ _ _ _ _ _ hr, hst.keepT h1 (fun k e cur fr => (hT k e cur fr).1), hro.keepT h1 hT, hu.setCell (p := ⟨p, j, none⟩) (fun _ => hn) v⟩

set_option maxRecDepth 100000 in
set_option maxHeartbeats 12800000 in
theorem versionAgain_walk {w : World} {va vb bv cv : Value} {x y : VerA} {b c : List UInt8} {at' : Int} (hT : TabIn w) (hv : VerAt w va x) (hin : VerIn x) (hw : VerAt w vb y) (hin2 : VerIn y) (hb : BAt w bv b) (hbl : b.length ≤ 140737488351232) (hc : BAt w cv c) (hcl : c.length ≤ 140737488351232) :
    Calls Tryz.prog 4 #[va, vb, bv, cv, .int .i64 at'] w fun e w' => e = .returned (.bool true) ∧ Upd (fun _ => False) w w' := by
  have HVA := hid hv; have HVB := hid hw; have HT := hid hT; have HINA := hid hin; have HINB := hid hin2; have HB := hid hb; have HC := hid hc; have HBL := hid (And.intro hbl hcl)
  obtain ⟨s1, d1, s2, d2, rfl, -, -⟩ := hv
  obtain ⟨r1, e1, r2, e2, rfl, -, -⟩ := hw
  obtain ⟨b1, c1, rfl, -, -, -, -⟩ := hb
  obtain ⟨b2, c2, rfl, -, -, -, -⟩ := hc
  obtain ⟨m1, hm1⟩ : ∃ m, m = x.state.length := ⟨_, rfl⟩
  obtain ⟨m2, hm2⟩ : ∃ m, m = x.runs.length := ⟨_, rfl⟩
  obtain ⟨l1, hl1⟩ : ∃ m, m = y.state.length := ⟨_, rfl⟩
  obtain ⟨l2, hl2⟩ : ∃ m, m = y.runs.length := ⟨_, rfl⟩
  obtain ⟨q1, hq1⟩ : ∃ m, m = b.length := ⟨_, rfl⟩
  obtain ⟨q2, hq2⟩ : ∃ m, m = c.length := ⟨_, rfl⟩
  rw [← hm1, ← hm2] at HVA ⊢
  rw [← hl1, ← hl2] at HVB ⊢
  rw [← hq1] at HB ⊢
  rw [← hq2] at HC ⊢
  have HM := hid (And.intro hm1 hm2); have HL := hid (And.intro hl1 hl2); have HQ := hid (And.intro hq1 hq2)
  have hu0 := ((Upd.refl (fun _ => False) w).alloc (.cells #[.int .i64 x.gen, .int .i64 x.flushed, .int .i64 x.next, .int .i64 x.low, .int .i64 x.clock, .slice s1 m1 d1, .slice s2 m2 d2] 25)).alloc (.cells #[.int .i64 y.gen, .int .i64 y.flushed, .int .i64 y.next, .int .i64 y.low, .int .i64 y.clock, .slice r1 l1 e1, .slice r2 l2 e2] 25)
  have hr5 := heap_alloc_new w (.cells #[.int .i64 x.gen, .int .i64 x.flushed, .int .i64 x.next, .int .i64 x.low, .int .i64 x.clock, .slice s1 m1 d1, .slice s2 m2 d2] 25)
  have hr6 := heap_alloc_new (w.alloc (.cells #[.int .i64 x.gen, .int .i64 x.flushed, .int .i64 x.next, .int .i64 x.low, .int .i64 x.clock, .slice s1 m1 d1, .slice s2 m2 d2] 25)) (.cells #[.int .i64 y.gen, .int .i64 y.flushed, .int .i64 y.next, .int .i64 y.low, .int .i64 y.clock, .slice r1 l1 e1, .slice r2 l2 e2] 25)
  rw [World.size_alloc] at hr6
  have hr5' : ((w.alloc (.cells #[.int .i64 x.gen, .int .i64 x.flushed, .int .i64 x.next, .int .i64 x.low, .int .i64 x.clock, .slice s1 m1 d1, .slice s2 m2 d2] 25)).alloc (.cells #[.int .i64 y.gen, .int .i64 y.flushed, .int .i64 y.next, .int .i64 y.low, .int .i64 y.clock, .slice r1 l1 e1, .slice r2 l2 e2] 25)).heap[w.heap.size]? = _ := (heap_alloc_past _ _ _ (by simp)).trans hr5
  clear hT hin hin2 hm1 hm2 hl1 hl2 hbl hcl hq1 hq2 hr5
  go_enter Tryz.func4, Tryz.ntmps4
  go_upto_region 1 with fail
  obtain ⟨p5, hp5⟩ : ∃ p, p = w.heap.size := ⟨_, rfl⟩
  obtain ⟨p6, hp6⟩ : ∃ p, p = w.heap.size + 1 := ⟨_, rfl⟩
  rw [← hp6] at hr6
  rw [← hp5] at hr5'
  rw [← hp6, ← hp5]
  have HU0 := hid hu0; have HR5 := hid hr5'; have HR6 := hid hr6
  generalize (w.alloc (.cells #[.int .i64 x.gen, .int .i64 x.flushed, .int .i64 x.next, .int .i64 x.low, .int .i64 x.clock, .slice s1 m1 d1, .slice s2 m2 d2] 25)).alloc (.cells #[.int .i64 y.gen, .int .i64 y.flushed, .int .i64 y.next, .int .i64 y.low, .int .i64 y.clock, .slice r1 l1 e1, .slice r2 l2 e2] 25) = W0 at HU0 HR5 HR6 ⊢
  clear hu0 hr5' hr6 hp5 hp6
  have HCP := hid (copied_any (HVA.out.keep HU0.out) HINA.out)
  obtain ⟨⟨z0, z1, z2, z3, z4, z5, z6⟩, -, hzl⟩ := verCells HR5.out
  go_wp2_with fail
  refine HCP.out.mono ?_
  rintro e W1 ⟨v1, rfl, hown1, hu1⟩
  obtain ⟨st1, rs1, L1, rfl, hst1, hro1, hrl1, -, -⟩ := hown1.ex
  obtain ⟨a1, k1, ha1, -⟩ := hst1.bat
  obtain ⟨a2, k2, ha2⟩ := hro1.slice
  rw [show L1.length = x.runs.length from by rw [hrl1]; simp] at ha2
  rw [← HM.out.1] at ha1
  rw [← HM.out.2] at ha2
  subst ha1; subst ha2
  have HWAS := hid (show ∀ W', Upd (fun k => W1.heap.size ≤ k) W1 W' → VerAt W' (.agg #[.int .i64 x.gen, .int .i64 x.flushed, .int .i64 x.next, .int .i64 x.low, .int .i64 x.clock, .slice a1 m1 k1, .slice a2 m2 k2]) x from by
    have h := ver_stays (a1 := x.gen) (a2 := x.flushed) (a3 := x.next) (a4 := x.low) (a5 := x.clock) hst1 hro1
    rw [← hrl1] at h
    exact h)
  have HU1 := hid (HU0.out.trans hu1 (fun _ _ e => e)); have HR5b := hid (hu1.get HR5.out (fun e => e)); have HR6b := hid (hu1.get HR6.out (fun e => e))
  clear hown1 hst1 hro1 hrl1 hu1 z0 z1 z2 z3 z4 z5 z6 hzl HCP HR5 HR6 HU0 L1
  have hu2 := (Upd.refl (fun _ => False) W1).alloc (.cells #[.int .i64 x.gen, .int .i64 x.flushed, .int .i64 x.next, .int .i64 x.low, .int .i64 x.clock, .slice a1 m1 k1, .slice a2 m2 k2] 25)
  have hr11 := heap_alloc_new W1 (.cells #[.int .i64 x.gen, .int .i64 x.flushed, .int .i64 x.next, .int .i64 x.low, .int .i64 x.clock, .slice a1 m1 k1, .slice a2 m2 k2] 25)
  go_upto_region 2 with fail
  obtain ⟨p11, hp11⟩ : ∃ p, p = W1.heap.size := ⟨_, rfl⟩
  rw [← hp11] at hr11 HWAS
  rw [← hp11]
  have HU2 := hid (HU1.out.trans hu2 (fun _ _ e => e)); have HR5c := hid (hu2.get HR5b.out (fun e => e)); have HR6c := hid (hu2.get HR6b.out (fun e => e)); have HR11 := hid hr11
  have HW12 := hid hu2
  generalize W1.alloc (.cells #[.int .i64 x.gen, .int .i64 x.flushed, .int .i64 x.next, .int .i64 x.low, .int .i64 x.clock, .slice a1 m1 k1, .slice a2 m2 k2] 25) = W2 at HU2 HR5c HR6c HR11 HW12 ⊢
  clear hu2 hr11 hp11 HR5b HR6b HU1
  have HCP := hid (copied_any (HVA.out.keep HU2.out) HINA.out)
  obtain ⟨⟨z0, z1, z2, z3, z4, z5, z6⟩, -, hzl⟩ := verCells HR5c.out
  go_wp2_with fail
  refine HCP.out.mono ?_
  rintro e W3 ⟨v3, rfl, hown3, hu3⟩
  obtain ⟨st3, rs3, L3, rfl, hst3, hro3, hrl3, hnd3, hbs3⟩ := hown3.ex
  obtain ⟨a3, k3, ha3, -⟩ := hst3.bat
  obtain ⟨a4, k4, ha4⟩ := hro3.slice
  rw [show L3.length = x.runs.length from by rw [hrl3]; simp] at ha4
  rw [← HM.out.1] at ha3
  rw [← HM.out.2] at ha4
  subst ha3; subst ha4
  have HU3 := hid (hu3.mono (T := fun k => W2.heap.size ≤ k) (fun _ _ e => e.elim))
  have HST3 := hid hst3; have HRO3 := hid hro3; have HRL3 := hid hrl3; have HSB3 := hid (show ∀ k, (Value.slice a3 m1 k3).ownBlock = some k → W2.heap.size ≤ k from fun k e => hbs3 k (List.mem_append_left _ (by rw [e]; simp)))
  have HND3 := hid (show ∀ q, (Value.slice a3 m1 k3).ownBlock = some q → ∀ y ∈ L3, ¬ y.f.ownBlock = some q ∧ ¬ y.l.ownBlock = some q from fun q e y hy => by
    have h1 := (List.nodup_append.1 hnd3).2.2 q (by rw [e]; simp)
    exact ⟨fun e2 => h1 q (List.mem_flatMap.2 ⟨y, hy, List.mem_append_left _ (by rw [e2]; simp)⟩) rfl, fun e2 => h1 q (List.mem_flatMap.2 ⟨y, hy, List.mem_append_right _ (by rw [e2]; simp)⟩) rfl⟩)
  clear hnd3 hown3 hst3 hro3 hrl3 hu3 z0 z1 z2 z3 z4 z5 z6 hzl HCP hbs3
  have hu4 := (Upd.refl (fun _ => False) W3).alloc (.cells #[.int .i64 x.gen, .int .i64 x.flushed, .int .i64 x.next, .int .i64 x.low, .int .i64 x.clock, .slice a3 m1 k3, .slice a4 m2 k4] 25)
  have hr12 := heap_alloc_new W3 (.cells #[.int .i64 x.gen, .int .i64 x.flushed, .int .i64 x.next, .int .i64 x.low, .int .i64 x.clock, .slice a3 m1 k3, .slice a4 m2 k4] 25)
  go_upto_region 3 with fail
  obtain ⟨p12, hp12⟩ : ∃ p, p = W3.heap.size := ⟨_, rfl⟩
  rw [← hp12] at hr12
  rw [← hp12]
  have HU4 := hid (HU3.out.trans (hu4.mono (T := fun k => W2.heap.size ≤ k) (fun _ _ e => e.elim)) (fun _ _ e => e)); have HR12 := hid hr12; have HN12 := hid (show W2.heap.size ≤ p12 from by rw [hp12]; exact HU3.out.size)
  have HST4 := hid (HST3.out.upd hu4 (fun _ _ e => e)); have HRO4 := hid (HRO3.out.keepT hu4 (fun _ e => e.elim))
  generalize W3.alloc (.cells #[.int .i64 x.gen, .int .i64 x.flushed, .int .i64 x.next, .int .i64 x.low, .int .i64 x.clock, .slice a3 m1 k3, .slice a4 m2 k4] 25) = W4 at HU4 HR12 HST4 HRO4 ⊢
  clear hu4 hr12 hp12 HU3 HST3 HRO3
  obtain ⟨m, hm⟩ : ∃ m, m = bits .and .i64 at' 7 := ⟨_, rfl⟩
  have hm' : bits .and .i64 at' 7 = m := hm.symm
  have HMM := hid (show 0 ≤ m ∧ m ≤ 7 from by rw [hm, i64_and7]; omega)
  have HSM := hid (show VerSm x from ⟨by have := HINA.out.2.2.2.2.2.1; omega, HINA.out.2.2.2.2.2.2.1, fun r hr => (HINA.out.2.2.2.2.2.2.2 r hr).2.2.2.2.2.2⟩)
  obtain ⟨⟨z0, z1, z2, z3, z4, z5, z6⟩, ⟨f0, f1, f2, f3, f4, f5, f6⟩, hzl⟩ := verCells HR12.out
  clear hm
  iterate 10 (first | go_values | go_skip | go_guarded | go_step | go_upon | go_back | (simp only [Int.not_lt, Int.not_le] at *; go_simp))
  go_cut [] (fun wx => ∃ (z : VerA) (o1 o2 : Option Addr) (n1 n2 g1 g2 : Nat), VerSm z ∧ wx.heap[p12]? = some (.cells #[.int .i64 z.gen, .int .i64 z.flushed, .int .i64 z.next, .int .i64 z.low, .int .i64 z.clock, .slice o1 n1 g1, .slice o2 n2 g2] 25 (0, 0)) ∧ (∀ W', Upd (fun k => wx.heap.size ≤ k) wx W' → VerAt W' (.agg #[.int .i64 z.gen, .int .i64 z.flushed, .int .i64 z.next, .int .i64 z.low, .int .i64 z.clock, .slice o1 n1 g1, .slice o2 n2 g2]) z) ∧ Upd (fun k => W2.heap.size ≤ k) W2 wx)
  case first =>
    have hcase : m = 0 ∨ m = 1 ∨ m = 2 ∨ m = 3 ∨ (m = 4 ∨ m = 5 ∨ m = 6) ∨ m = 7 := by have := HMM.out; omega
    clear HMM
    rcases hcase with h | h | h | h | h | h
    · subst h
      obtain ⟨h1, h2, h3, h4⟩ := again_box HR12.out HN12.out HU4.out HST4.out HRO4.out 4 (.int .i64 (bits .xor .i64 x.clock 1))
      have HFIN := hid (show (fun wx => ∃ (z : VerA) (o1 o2 : Option Addr) (n1 n2 g1 g2 : Nat), VerSm z ∧ wx.heap[p12]? = some (.cells #[.int .i64 z.gen, .int .i64 z.flushed, .int .i64 z.next, .int .i64 z.low, .int .i64 z.clock, .slice o1 n1 g1, .slice o2 n2 g2] 25 (0, 0)) ∧ (∀ W', Upd (fun k => wx.heap.size ≤ k) wx W' → VerAt W' (.agg #[.int .i64 z.gen, .int .i64 z.flushed, .int .i64 z.next, .int .i64 z.low, .int .i64 z.clock, .slice o1 n1 g1, .slice o2 n2 g2]) z) ∧ Upd (fun k => W2.heap.size ≤ k) W2 wx) (W4.setCell ⟨p12, 4, none⟩ (.int .i64 (bits .xor .i64 x.clock 1))) from by
        refine ⟨{ x with clock := bits .xor .i64 x.clock 1 }, a3, a4, m1, m2, k3, k4, HSM.out, by simpa using h1, ?_, h4⟩
        have h := ver_stays (a1 := ({ x with clock := bits .xor .i64 x.clock 1 } : VerA).gen) (a2 := x.flushed) (a3 := ({ x with clock := bits .xor .i64 x.clock 1 } : VerA).next) (a4 := ({ x with clock := bits .xor .i64 x.clock 1 } : VerA).low) (a5 := ({ x with clock := bits .xor .i64 x.clock 1 } : VerA).clock) h2 h3
        rw [← HRL3.out] at h
        exact h)
      clear h1 h2 h3 h4
      go_wp2
      go_meet
      case rel => exact HFIN.out
    · subst h
      obtain ⟨h1, h2, h3, h4⟩ := again_box HR12.out HN12.out HU4.out HST4.out HRO4.out 2 (.int .i64 1)
      have HFIN := hid (show (fun wx => ∃ (z : VerA) (o1 o2 : Option Addr) (n1 n2 g1 g2 : Nat), VerSm z ∧ wx.heap[p12]? = some (.cells #[.int .i64 z.gen, .int .i64 z.flushed, .int .i64 z.next, .int .i64 z.low, .int .i64 z.clock, .slice o1 n1 g1, .slice o2 n2 g2] 25 (0, 0)) ∧ (∀ W', Upd (fun k => wx.heap.size ≤ k) wx W' → VerAt W' (.agg #[.int .i64 z.gen, .int .i64 z.flushed, .int .i64 z.next, .int .i64 z.low, .int .i64 z.clock, .slice o1 n1 g1, .slice o2 n2 g2]) z) ∧ Upd (fun k => W2.heap.size ≤ k) W2 wx) (W4.setCell ⟨p12, 2, none⟩ (.int .i64 1)) from by
        refine ⟨{ x with next := 1 }, a3, a4, m1, m2, k3, k4, HSM.out, by simpa using h1, ?_, h4⟩
        have h := ver_stays (a1 := ({ x with next := 1 } : VerA).gen) (a2 := x.flushed) (a3 := ({ x with next := 1 } : VerA).next) (a4 := ({ x with next := 1 } : VerA).low) (a5 := ({ x with next := 1 } : VerA).clock) h2 h3
        rw [← HRL3.out] at h
        exact h)
      clear h1 h2 h3 h4
      go_wp2
      go_meet
      case rel => exact HFIN.out
    · subst h
      obtain ⟨h1, h2, h3, h4⟩ := again_box HR12.out HN12.out HU4.out HST4.out HRO4.out 3 (.int .i64 x.clock)
      have HFIN := hid (show (fun wx => ∃ (z : VerA) (o1 o2 : Option Addr) (n1 n2 g1 g2 : Nat), VerSm z ∧ wx.heap[p12]? = some (.cells #[.int .i64 z.gen, .int .i64 z.flushed, .int .i64 z.next, .int .i64 z.low, .int .i64 z.clock, .slice o1 n1 g1, .slice o2 n2 g2] 25 (0, 0)) ∧ (∀ W', Upd (fun k => wx.heap.size ≤ k) wx W' → VerAt W' (.agg #[.int .i64 z.gen, .int .i64 z.flushed, .int .i64 z.next, .int .i64 z.low, .int .i64 z.clock, .slice o1 n1 g1, .slice o2 n2 g2]) z) ∧ Upd (fun k => W2.heap.size ≤ k) W2 wx) (W4.setCell ⟨p12, 3, none⟩ (.int .i64 x.clock)) from by
        refine ⟨{ x with low := x.clock }, a3, a4, m1, m2, k3, k4, HSM.out, by simpa using h1, ?_, h4⟩
        have h := ver_stays (a1 := ({ x with low := x.clock } : VerA).gen) (a2 := x.flushed) (a3 := ({ x with low := x.clock } : VerA).next) (a4 := ({ x with low := x.clock } : VerA).low) (a5 := ({ x with low := x.clock } : VerA).clock) h2 h3
        rw [← HRL3.out] at h
        exact h)
      clear h1 h2 h3 h4
      go_wp2
      go_meet
      case rel => exact HFIN.out
    · subst h
      obtain ⟨ao, cp, w5, hrun, hd5, hu5, ho5⟩ := (show DataIs W4 (.slice a3 x.state.length k3) x.state from by rw [← HM.out.1]; exact HST4.out).more1 7 (by have := HINA.out.2.2.2.2.2.1; omega)
      rw [← HM.out.1] at hrun hd5 hu5 ho5
      have hrun' : (Builtin.append_ #[22, 22] 22 #[.slice a3 m1 k3, .slice (some ⟨W4.heap.size, 0, none⟩) 1 1]).run Tryz.prog (W4.alloc (.cells #[.int .u8 7] 5)) = .ok (.slice ao (m1 + 1) cp) w5 := hrun
      have HRUN := hid hrun'
      have hr5 := hu5.get HR12.out (fun e => by
        rcases HST4.out with ⟨e1, -⟩ | ⟨g, cap, cur, e1, hg, -⟩
        · rw [e1] at e; cases e
        · rw [e1] at e
          have e2 : g = p12 := Option.some.inj e
          subst e2
          exact not_ty HR12.out (by decide) _ _ hg)
      have hro5 : RunsOwn w5 W2.heap.size (.slice a4 m2 k4) L3 := by
        have hty : ∀ q, (Value.slice a3 m1 k3).ownBlock = some q → ∃ cur, W4.heap[q]? = some (.cells cur 5 (0, 0)) := fun q e => by
          rcases HST4.out with ⟨e1, -⟩ | ⟨g, cap, cur, e1, hg, -⟩
          · rw [e1] at e; cases e
          · rw [e1] at e
            have e2 : g = q := Option.some.inj e
            subst e2
            exact ⟨cur, hg⟩
        refine ⟨owns_upd HRO4.out.row hu5 (fun q e e2 => ?_), fun y hy => ⟨(HRO4.out.data y hy).1.upd hu5 (fun q e e2 => (HND3.out q e2 y hy).1 e), (HRO4.out.data y hy).2.upd hu5 (fun q e e2 => (HND3.out q e2 y hy).2 e)⟩⟩
        obtain ⟨cur, hc⟩ := hty q e2
        obtain ⟨-, hh⟩ := HRO4.out.row
        rcases hh with ⟨e3, -⟩ | ⟨g, cap, cur', e3, hb, hg', -⟩
        · rw [e3] at e; cases e
        · rw [e3] at e
          have e4 : g = q := Option.some.inj e
          subst e4
          exact not_ty hc (by decide) _ _ hg'
      have hup5 := HU4.out.trans hu5 (fun k hk e => HSB3.out k e)
      obtain ⟨h1, h2, h3, h4⟩ := again_box hr5 HN12.out hup5 hd5 hro5 5 (.slice ao (m1 + 1) cp)
      have HFIN := hid (show (fun wx => ∃ (z : VerA) (o1 o2 : Option Addr) (n1 n2 g1 g2 : Nat), VerSm z ∧ wx.heap[p12]? = some (.cells #[.int .i64 z.gen, .int .i64 z.flushed, .int .i64 z.next, .int .i64 z.low, .int .i64 z.clock, .slice o1 n1 g1, .slice o2 n2 g2] 25 (0, 0)) ∧ (∀ W', Upd (fun k => wx.heap.size ≤ k) wx W' → VerAt W' (.agg #[.int .i64 z.gen, .int .i64 z.flushed, .int .i64 z.next, .int .i64 z.low, .int .i64 z.clock, .slice o1 n1 g1, .slice o2 n2 g2]) z) ∧ Upd (fun k => W2.heap.size ≤ k) W2 wx) (w5.setCell ⟨p12, 5, none⟩ (.slice ao (m1 + 1) cp)) from by
        refine ⟨{ x with state := x.state ++ [7] }, ao, a4, m1 + 1, m2, cp, k4, ⟨by simp; have := HINA.out.2.2.2.2.2.1; omega, HSM.out.2⟩, by simpa using h1, ?_, h4⟩
        have h := ver_stays (a1 := x.gen) (a2 := x.flushed) (a3 := x.next) (a4 := x.low) (a5 := x.clock) h2 h3
        rw [← HRL3.out] at h
        exact h)
      obtain ⟨⟨y0, y1, y2, y3, y4, y5, y6⟩, ⟨d0, d1', d2', d3, d4, d5, d6⟩, hyl⟩ := verCells hr5
      clear h1 h2 h3 h4 hup5 hro5 hr5 hrun hrun' hd5 hu5 ho5 y0 y1 y2 y3 y4 y6 d0 d1' d2' d3 d4 d6
      go_wp2_with (at_builtin; refine wpList_append_run rfl _ _ _ rfl rfl rfl HRUN.out ?_)
      go_meet
      case rel => exact HFIN.out
    · skip
      have HM2B := hid (show m2 * 96 ≤ 140737488351232 from by rw [HM.out.2]; exact HINA.out.2.2.2.2.2.2.1)
      obtain ⟨m3, hm3⟩ : ∃ m3, m3 = bits .and .i64 at' 3 := ⟨_, rfl⟩
      have hm3' : bits .and .i64 at' 3 = m3 := hm3.symm
      have hm3b : 0 ≤ m3 ∧ m3 ≤ 3 := by rw [hm3, i64_and3]; omega
      obtain ⟨hm3l, hm3h⟩ := hm3b
      clear hm3
      by_cases h0 : m2 = 0
      · subst h0
        rcases h with h | h | h <;> subst h
        all_goals
          go_wp2
          go_meet
          case rel =>
            refine ⟨x, a3, a4, m1, 0, k3, k4, HSM.out, HR12.out, ?_, HU4.out⟩
            have h := ver_stays (a1 := x.gen) (a2 := x.flushed) (a3 := x.next) (a4 := x.low) (a5 := x.clock) HST4.out HRO4.out
            rw [← HRL3.out] at h
            exact h
      · have hpos : (0 : Int) < (m2 : Int) := by omega
        have hm2b := HM2B.out
        have HWH := hid (fun (n : Int) (W : World) => wholeB_any n 0 ((m2 : Int) - 1) (by omega) (by omega) (by omega) W)
        have HKK := hid (fun (n : Int) => show ∃ kk : Nat, 0 + n % ((m2 : Int) - 1 - 0 + 1) = (kk : Int) ∧ kk < m2 from ⟨(n % (m2 : Int)).toNat, by
          have h1 := Int.emod_nonneg n (show (m2 : Int) ≠ 0 by omega)
          have e : (m2 : Int) - 1 - 0 + 1 = m2 := by omega
          rw [e]; omega, by
          have h1 := Int.emod_nonneg n (show (m2 : Int) ≠ 0 by omega)
          have h2 := Int.emod_lt_of_pos n (show (0 : Int) < (m2 : Int) by omega)
          omega⟩)
        rcases h with h | h | h <;> subst h
        all_goals
          go_wp2_with fail
          refine (HWH.out _ _).mono ?_
          rintro e W ⟨rfl, hww⟩
          obtain rfl := hww.symm
          obtain ⟨kk, hkk, hkl⟩ := HKK.out (at' / 2 ^ 3)
          first | rw [hkk] | (have hkk2 : 0 + at' / 8 % ((m2 : Int) - 1 - 0 + 1) = (kk : Int) := (by simpa using hkk); rw [hkk2])
          clear hkk
          have hkL : kk < L3.length := by have h1 := congrArg List.length HRL3.out; rw [List.length_map] at h1; have := HM.out.2; omega
          obtain ⟨g, cap, eg, hgl, hgb, hgc, hcell, hfro, hro5, hkd⟩ := HRO4.out.setNum hkL (bits .xor .i64 L3[kk].m.num (1 + m3))
          obtain ⟨nu, hnu⟩ : ∃ nu, nu = L3[kk].m.num := ⟨_, rfl⟩
          rw [← hnu] at hcell hro5 hkd
          have hl3 : L3.length = m2 := by have h1 := congrArg List.length HRL3.out; rw [List.length_map] at h1; have := HM.out.2; omega
          rw [hl3] at eg
          injection eg with eg1 eg2 eg3
          subst eg1; subst eg3
          have hus : Upd (fun k => W2.heap.size ≤ k) W2 (W4.setCell ⟨g, kk * 8, none⟩ (.int .i64 (bits .xor .i64 nu (1 + m3)))) := HU4.out.setCell (p := ⟨g, kk * 8, none⟩) (fun _ => hgb) _
          have hgp : p12 ≠ g := fun e => by
            obtain ⟨-, hh⟩ := HRO4.out.row
            rcases hh with ⟨e3, -⟩ | ⟨g', cap', cur', e3, -, hg', -⟩
            · cases e3
            · injection e3 with e3 _ _
              injection e3 with e3
              injection e3 with e3
              subst e3
              exact not_ty hg' (by decide) _ _ (e ▸ HR12.out)
          have hr5 : (W4.setCell ⟨g, kk * 8, none⟩ (.int .i64 (bits .xor .i64 nu (1 + m3)))).heap[p12]? = _ := (heap_setCell_ne _ _ _ _ hgp).trans HR12.out
          have HFIN := hid (show (fun wx => ∃ (z : VerA) (o1 o2 : Option Addr) (n1 n2 g1 g2 : Nat), VerSm z ∧ wx.heap[p12]? = some (.cells #[.int .i64 z.gen, .int .i64 z.flushed, .int .i64 z.next, .int .i64 z.low, .int .i64 z.clock, .slice o1 n1 g1, .slice o2 n2 g2] 25 (0, 0)) ∧ (∀ W', Upd (fun k => wx.heap.size ≤ k) wx W' → VerAt W' (.agg #[.int .i64 z.gen, .int .i64 z.flushed, .int .i64 z.next, .int .i64 z.low, .int .i64 z.clock, .slice o1 n1 g1, .slice o2 n2 g2]) z) ∧ Upd (fun k => W2.heap.size ≤ k) W2 wx) (W4.setCell ⟨g, kk * 8, none⟩ (.int .i64 (bits .xor .i64 nu (1 + m3)))).drew from by
            refine ⟨{ x with runs := (L3.set kk ⟨{ L3[kk].m with num := bits .xor .i64 nu (1 + m3) }, L3[kk].f, L3[kk].l⟩).map MV.m }, a3, _, m1, m2, k3, _, ⟨HSM.out.1, ?_, ?_⟩, hr5, ?_, hus.drew⟩
            · rw [List.length_map, List.length_set, hl3]
              exact HM2B.out
            · intro r hr
              obtain ⟨y, hy, rfl⟩ := List.mem_map.1 hr
              rcases List.mem_or_eq_of_mem_set hy with hy | rfl
              · exact HSM.out.2.2 y.m (by rw [HRL3.out]; exact List.mem_map.2 ⟨y, hy, rfl⟩)
              · exact HSM.out.2.2 L3[kk].m (by rw [HRL3.out]; exact List.mem_map.2 ⟨L3[kk], List.getElem_mem hkL, rfl⟩)
            · intro W' hW'
              exact ver_stays (a1 := x.gen) (a2 := x.flushed) (a3 := x.next) (a4 := x.low) (a5 := x.clock) ((hkd _ _ HST4.out).upd (Upd.refl (fun _ => False) _).drew (fun _ _ e => e)) (hro5.keepT (Upd.refl (fun _ => False) _).drew (fun _ e => e.elim)) W' hW')
          have hki : (kk : Int) < (m2 : Int) := by omega
          clear hro5 hkd hus hr5 hl3 hkL hnu hgp hgb HWH HKK HM2B
          go_upto_region 17 with fail
          go_still_tail 15, (by kernel_rfl)
          change wpList _ _ _ _ _ W4.drew
          go_wp2
          go_meet
          case rel => exact HFIN.out
    · subst h
      go_wp2
      go_meet
      case rel =>
        refine ⟨x, a3, a4, m1, m2, k3, k4, HSM.out, HR12.out, ?_, HU4.out⟩
        have h := ver_stays (a1 := x.gen) (a2 := x.flushed) (a3 := x.next) (a4 := x.low) (a5 := x.clock) HST4.out HRO4.out
        rw [← HRL3.out] at h
        exact h
  case rest =>
    clear z0 z1 z2 z3 z4 z5 z6 f0 f1 f2 f3 f4 f5 f6 hzl HMM hm' HST4 HRO4 HR12 HU4 HRL3 HSB3 HND3
    obtain ⟨z, o1, o2, n1, n2, g1, g2, hsz, hrz, hvz, huz⟩ := hcut
    have HSZ := hid hsz; have HRZ := hid hrz; have HVZ := hid hvz; have HUZ := hid huz
    have HR5d := hid (huz.get HR5c.out (fun e => by have := lt_of_heap HR5c.out; omega)); have HR6d := hid (huz.get HR6c.out (fun e => by have := lt_of_heap HR6c.out; omega)); have HR11d := hid (huz.get HR11.out (fun e => by have := lt_of_heap HR11.out; omega))
    have HN11 := hid (lt_of_heap HR11.out)
    have HU9 := hid (HU2.out.trans huz (fun k hk e => by have := HU2.out.size; omega))
    have HWS9 := hid ((HW12.out.mono (T := fun k => p11 ≤ k) (fun _ _ e => e.elim)).trans huz (fun k hk e => by have := HN11.out; omega))
    clear hsz hrz hvz huz HR5c HR6c HR11 HU2 HW12 HN12
    have hu18 := (Upd.refl (fun _ => False) wc).alloc (.cells #[.slice none 0 0, .pointer none, .slice none 0 0] 59)
    have hr14 := heap_alloc_new wc (.cells #[.slice none 0 0, .pointer none, .slice none 0 0] 59)
    go_upto_region 19 with fail
    obtain ⟨p14, hp14⟩ : ∃ p, p = wc.heap.size := ⟨_, rfl⟩
    rw [← hp14] at hr14
    rw [← hp14]
    have HPW := hid (show w.heap.size ≤ p14 from by rw [hp14]; exact HU9.out.size)
    have HU18 := hid (HU9.out.trans hu18 (fun _ _ e => e)); have HR14 := hid hr14; have HP14 := hid hp14; have HU1418 := hid hu18
    have HR6e := hid (hu18.get HR6d.out (fun e => e)); have HR11e := hid (hu18.get HR11d.out (fun e => e)); have HRZe := hid (hu18.get HRZ.out (fun e => e))
    have HNP := hid (show p14 < (wc.alloc (.cells #[.slice none 0 0, .pointer none, .slice none 0 0] 59)).heap.size from lt_of_heap hr14)
    generalize wc.alloc (.cells #[.slice none 0 0, .pointer none, .slice none 0 0] 59) = W18 at HU18 HR14 HU1418 HR6e HR11e HRZe HNP ⊢
    clear hu18 hr14 hp14 HR5d HR6d HR11d HRZ HU9
    go_cut [15] (fun tv wx => ∃ (pl : Nat) (o3 o4 : Option Addr) (j3 j4 : Nat), tv = .pointer (some ⟨pl, 0, none⟩) ∧ wx.heap[pl]? = some (.cells (([⟨x, .slice a1 m1 k1, .slice a2 m2 k2⟩, ⟨y, .slice o3 l1 j3, .slice o4 l2 j4⟩, ⟨x, .slice a1 m1 k1, .slice a2 m2 k2⟩, ⟨z, .slice o1 n1 g1, .slice o2 n2 g2⟩, ⟨x, .slice a1 m1 k1, .slice a2 m2 k2⟩] : List VS).flatMap VS.cells).toArray 60 (0, 0)) ∧ Upd (fun _ => False) W18 wx ∧ W18.heap.size ≤ pl ∧ ∀ W', Upd (fun k => k ≤ p14 ∨ wx.heap.size ≤ k) wx W' → VerAt W' (.agg #[.int .i64 y.gen, .int .i64 y.flushed, .int .i64 y.next, .int .i64 y.low, .int .i64 y.clock, .slice o3 l1 j3, .slice o4 l2 j4]) y)
    case first =>
      have hHeld : (fun V => V.heap[p11]? = some (.cells #[.int .i64 x.gen, .int .i64 x.flushed, .int .i64 x.next, .int .i64 x.low, .int .i64 x.clock, .slice a1 m1 k1, .slice a2 m2 k2] 25 (0, 0)) ∧ V.heap[p6]? = some (.cells #[.int .i64 y.gen, .int .i64 y.flushed, .int .i64 y.next, .int .i64 y.low, .int .i64 y.clock, .slice r1 l1 e1, .slice r2 l2 e2] 25 (0, 0)) ∧ V.heap[p12]? = some (.cells #[.int .i64 z.gen, .int .i64 z.flushed, .int .i64 z.next, .int .i64 z.low, .int .i64 z.clock, .slice o1 n1 g1, .slice o2 n2 g2] 25 (0, 0))) W18.drew := ⟨HR11e.out, HR6e.out, HRZe.out⟩
      refine wp_region_l (fun V => V.heap[p11]? = some (.cells #[.int .i64 x.gen, .int .i64 x.flushed, .int .i64 x.next, .int .i64 x.low, .int .i64 x.clock, .slice a1 m1 k1, .slice a2 m2 k2] 25 (0, 0)) ∧ V.heap[p6]? = some (.cells #[.int .i64 y.gen, .int .i64 y.flushed, .int .i64 y.next, .int .i64 y.low, .int .i64 y.clock, .slice r1 l1 e1, .slice r2 l2 e2] 25 (0, 0)) ∧ V.heap[p12]? = some (.cells #[.int .i64 z.gen, .int .i64 z.flushed, .int .i64 z.next, .int .i64 z.low, .int .i64 z.clock, .slice o1 n1 g1, .slice o2 n2 g2] 25 (0, 0))) 8 9 rfl (by kernel_rfl) ?_
      refine' wpAnyL_take 0 [6, 8] (v := _) rfl (by kernel_rfl) (by kernel_rfl) (by kernel_rfl) (by kernel_rfl) (by simp) (fun _ _ _ h => h) (Or.inl ⟨by rfl, ?hy0⟩) (by assumption) ?rest0
      case hy0 => (intro wS hSw; obtain ⟨⟨e0, e1, e2, e3, e4, e5, e6⟩, -, -⟩ := verCells hSw.1; go_simp; (try with_reducible rfl))
      (try simp only [Act.put, List.setIfInBounds_toArray, List.set_cons_zero, List.set_cons_succ])
      refine' wpAnyL_take 1 [2, 6, 8] (v := _) rfl (by kernel_rfl) (by kernel_rfl) (by kernel_rfl) (by kernel_rfl) (by simp) (fun _ _ _ h => h) (Or.inl ⟨by rfl, ?hy1⟩) (by assumption) ?rest1
      case hy1 => (intro wS hSw; obtain ⟨⟨e0, e1, e2, e3, e4, e5, e6⟩, -, -⟩ := verCells hSw.2.1; go_simp; (try with_reducible rfl))
      (try simp only [Act.put, List.setIfInBounds_toArray, List.set_cons_zero, List.set_cons_succ])
      refine' wpAnyL_take 3 [6, 8] (v := _) rfl (by kernel_rfl) (by kernel_rfl) (by kernel_rfl) (by kernel_rfl) (by simp) (fun _ _ _ h => h) (Or.inl ⟨by rfl, ?hy3⟩) (by assumption) ?rest3
      case hy3 => (intro wS hSw; obtain ⟨⟨e0, e1, e2, e3, e4, e5, e6⟩, -, -⟩ := verCells hSw.1; go_simp; (try with_reducible rfl))
      (try simp only [Act.put, List.setIfInBounds_toArray, List.set_cons_zero, List.set_cons_succ])
      refine' wpAnyL_take 4 [6, 8] (v := _) rfl (by kernel_rfl) (by kernel_rfl) (by kernel_rfl) (by kernel_rfl) (by simp) (fun _ _ _ h => h) (Or.inl ⟨by rfl, ?hy4⟩) (by assumption) ?rest4
      case hy4 => (intro wS hSw; obtain ⟨⟨e0, e1, e2, e3, e4, e5, e6⟩, -, -⟩ := verCells hSw.2.2; go_simp; (try with_reducible rfl))
      (try simp only [Act.put, List.setIfInBounds_toArray, List.set_cons_zero, List.set_cons_succ])
      refine' wpAnyL_take 5 [6, 8] (v := _) rfl (by kernel_rfl) (by kernel_rfl) (by kernel_rfl) (by kernel_rfl) (by simp) (fun _ _ _ h => h) (Or.inl ⟨by rfl, ?hy5⟩) (by assumption) ?rest5
      case hy5 => (intro wS hSw; obtain ⟨⟨e0, e1, e2, e3, e4, e5, e6⟩, -, -⟩ := verCells hSw.1; go_simp; (try with_reducible rfl))
      (try simp only [Act.put, List.setIfInBounds_toArray, List.set_cons_zero, List.set_cons_succ])
      refine wpAnyL_two 2 7 rfl rfl (by kernel_rfl) (fun K hK => ?_) (fun K hK => ?_)
      · skip
        go_simp
        go_at_call 16
        refine (copied_any (w := W18.drew) (HVB.out.keep (HU18.out.trans ((Upd.refl (fun _ => False) W18).drew) (fun _ _ e => e))) HINB.out).mono ?_
        rintro e Wy ⟨vy, rfl, hown, huy⟩
        obtain ⟨sty, rsy, Ly, rfl, hsty, hroy, hrly, -, hby⟩ := hown.ex
        obtain ⟨o3, j3, ho3, -⟩ := hsty.bat
        obtain ⟨o4, j4, ho4⟩ := hroy.slice
        rw [show Ly.length = y.runs.length from by rw [hrly]; simp] at ho4
        rw [← HL.out.1] at ho3
        rw [← HL.out.2] at ho4
        subst ho3; subst ho4
        have HVY := hid (show ∀ (S : Nat → Prop) W', (∀ k, S k → k < W18.drew.heap.size ∨ Wy.heap.size ≤ k) → Upd S Wy W' → VerAt W' (.agg #[.int .i64 y.gen, .int .i64 y.flushed, .int .i64 y.next, .int .i64 y.low, .int .i64 y.clock, .slice o3 l1 j3, .slice o4 l2 j4]) y from fun S W' hS hu => by
          have h := verOf (a1 := y.gen) (a2 := y.flushed) (a3 := y.next) (a4 := y.low) (a5 := y.clock) (hsty.upd hu (fun k e hs => by
            have h1 := hby k (List.mem_append_left _ (by rw [e]; simp)); have h2 := hsty.lt k e; have := hS k hs; omega)) (L := Ly) (rs := .slice o4 l2 j4) (base := W18.drew.heap.size) ⟨owns_upd hroy.row hu (fun k e hs => by have h1 := hroy.row.lt k e; have := hS k hs; omega), fun q hq => ⟨(hroy.data q hq).1.upd hu (fun k e hs => by
            have h1 := hby k (List.mem_append_right _ (List.mem_flatMap.2 ⟨q, hq, List.mem_append_left _ (by rw [e]; simp)⟩)); have h2 := (hroy.data q hq).1.lt k e; have := hS k hs; omega), (hroy.data q hq).2.upd hu (fun k e hs => by
            have h1 := hby k (List.mem_append_right _ (List.mem_flatMap.2 ⟨q, hq, List.mem_append_right _ (by rw [e]; simp)⟩)); have h2 := (hroy.data q hq).2.lt k e; have := hS k hs; omega)⟩⟩
          rw [← hrly] at h
          exact h)
        have HUY := hid (show Upd (fun _ => False) W18 Wy from ((Upd.refl (fun _ => False) W18).drew).trans huy (fun _ _ e => e))
        have hHeldy : (fun V => V.heap[p11]? = some (.cells #[.int .i64 x.gen, .int .i64 x.flushed, .int .i64 x.next, .int .i64 x.low, .int .i64 x.clock, .slice a1 m1 k1, .slice a2 m2 k2] 25 (0, 0)) ∧ V.heap[p6]? = some (.cells #[.int .i64 y.gen, .int .i64 y.flushed, .int .i64 y.next, .int .i64 y.low, .int .i64 y.clock, .slice r1 l1 e1, .slice r2 l2 e2] 25 (0, 0)) ∧ V.heap[p12]? = some (.cells #[.int .i64 z.gen, .int .i64 z.flushed, .int .i64 z.next, .int .i64 z.low, .int .i64 z.clock, .slice o1 n1 g1, .slice o2 n2 g2] 25 (0, 0))) Wy := ⟨huy.get hHeld.1 (fun e => e), huy.get hHeld.2.1 (fun e => e), huy.get hHeld.2.2 (fun e => e)⟩
        refine hK.out _ _ (fun _ => hHeldy) ?_
        clear hK K
        (try simp only [Act.put, List.setIfInBounds_toArray, List.set_cons_zero, List.set_cons_succ])
        refine' wpAnyL_take 6 [8] (v := _) rfl (by kernel_rfl) (by kernel_rfl) (by kernel_rfl) (by kernel_rfl) (by simp) (fun _ _ _ h => h) (Or.inl ⟨by rfl, ?hy6⟩) (by assumption) ?rest6
        case hy6 => (intro wS hSw; skip; go_simp; (try with_reducible rfl))
        (try simp only [Act.put, List.setIfInBounds_toArray, List.set_cons_zero, List.set_cons_succ])
        have huq := (Upd.refl (fun _ => False) Wy).alloc (.cells #[.int .i64 0, .int .i64 0, .int .i64 0, .int .i64 0, .int .i64 0, .slice none 0 0, .slice none 0 0, .int .i64 0, .int .i64 0, .int .i64 0, .int .i64 0, .int .i64 0, .slice none 0 0, .slice none 0 0, .int .i64 0, .int .i64 0, .int .i64 0, .int .i64 0, .int .i64 0, .slice none 0 0, .slice none 0 0, .int .i64 0, .int .i64 0, .int .i64 0, .int .i64 0, .int .i64 0, .slice none 0 0, .slice none 0 0, .int .i64 0, .int .i64 0, .int .i64 0, .int .i64 0, .int .i64 0, .slice none 0 0, .slice none 0 0] 60)
        have hrq := heap_alloc_new Wy (.cells #[.int .i64 0, .int .i64 0, .int .i64 0, .int .i64 0, .int .i64 0, .slice none 0 0, .slice none 0 0, .int .i64 0, .int .i64 0, .int .i64 0, .int .i64 0, .int .i64 0, .slice none 0 0, .slice none 0 0, .int .i64 0, .int .i64 0, .int .i64 0, .int .i64 0, .int .i64 0, .slice none 0 0, .slice none 0 0, .int .i64 0, .int .i64 0, .int .i64 0, .int .i64 0, .int .i64 0, .slice none 0 0, .slice none 0 0, .int .i64 0, .int .i64 0, .int .i64 0, .int .i64 0, .int .i64 0, .slice none 0 0, .slice none 0 0] 60)
        refine wpAnyL_one 7 rfl (by kernel_rfl) (fun K hK => ?_)
        go_simp
        refine hK.out _ _ (fun _ => ⟨huq.get hHeldy.1 (fun e => e), huq.get hHeldy.2.1 (fun e => e), huq.get hHeldy.2.2 (fun e => e)⟩) ?_
        clear hK K
        (try simp only [Act.put, List.setIfInBounds_toArray, List.set_cons_zero, List.set_cons_succ])
        obtain ⟨pq, hpq⟩ : ∃ p, p = Wy.heap.size := ⟨_, rfl⟩
        rw [← hpq] at hrq ⊢
        have HRQ := hid hrq; have HUYQ := hid huq; have HUWQ := hid (HUY.out.trans huq (fun _ _ e => e)); have HPQ := hid (show W18.heap.size ≤ pq from by rw [hpq]; exact HUY.out.size)
        have HKQ := hid (show W18.drew.heap.size = W18.heap.size ∧ (pq < W18.drew.heap.size ∨ Wy.heap.size ≤ pq) from ⟨rfl, by omega⟩)
        generalize Wy.alloc (.cells #[.int .i64 0, .int .i64 0, .int .i64 0, .int .i64 0, .int .i64 0, .slice none 0 0, .slice none 0 0, .int .i64 0, .int .i64 0, .int .i64 0, .int .i64 0, .int .i64 0, .slice none 0 0, .slice none 0 0, .int .i64 0, .int .i64 0, .int .i64 0, .int .i64 0, .int .i64 0, .slice none 0 0, .slice none 0 0, .int .i64 0, .int .i64 0, .int .i64 0, .int .i64 0, .int .i64 0, .slice none 0 0, .slice none 0 0, .int .i64 0, .int .i64 0, .int .i64 0, .int .i64 0, .int .i64 0, .slice none 0 0, .slice none 0 0] 60) = Wq at HRQ HUYQ HUWQ ⊢
        clear hrq huq hpq
        refine wpAnyL_one 8 rfl (by kernel_rfl) (fun K hK => ?_)
        rw [if_pos (by kernel_rfl)]
        refine wp_store_row 60 _ _ rfl pq (([⟨x, .slice a1 m1 k1, .slice a2 m2 k2⟩, ⟨y, .slice o3 l1 j3, .slice o4 l2 j4⟩, ⟨x, .slice a1 m1 k1, .slice a2 m2 k2⟩, ⟨z, .slice o1 n1 g1, .slice o2 n2 g2⟩, ⟨x, .slice a1 m1 k1, .slice a2 m2 k2⟩] : List VS).flatMap VS.cells).toArray rfl rfl 60 _ HRQ.out (by kernel_rfl) rfl (by simp [VS.cells, Value.oneCell']) ?_
        refine hK.out _ _ (fun h => absurd rfl h) ?_
        clear hK K
        (try simp only [Act.put, List.setIfInBounds_toArray, List.set_cons_zero, List.set_cons_succ])
        refine wpAnyL_done (by kernel_rfl) ?_ _
        go_wp2
        go_meet
        have hrw := setRow_heap Wq pq _ (([⟨x, .slice a1 m1 k1, .slice a2 m2 k2⟩, ⟨y, .slice o3 l1 j3, .slice o4 l2 j4⟩, ⟨x, .slice a1 m1 k1, .slice a2 m2 k2⟩, ⟨z, .slice o1 n1 g1, .slice o2 n2 g2⟩, ⟨x, .slice a1 m1 k1, .slice a2 m2 k2⟩] : List VS).flatMap VS.cells).toArray 60 _ HRQ.out
        have hus : Upd (fun k => k = pq) Wq (Wq.setRow pq (([⟨x, .slice a1 m1 k1, .slice a2 m2 k2⟩, ⟨y, .slice o3 l1 j3, .slice o4 l2 j4⟩, ⟨x, .slice a1 m1 k1, .slice a2 m2 k2⟩, ⟨z, .slice o1 n1 g1, .slice o2 n2 g2⟩, ⟨x, .slice a1 m1 k1, .slice a2 m2 k2⟩] : List VS).flatMap VS.cells).toArray) := ⟨rfl, rfl, rfl, by simp, fun k _ hk => setRow_other Wq pq k _ hk⟩
        refine ⟨pq, o3, o4, j3, j4, rfl, hrw, HUWQ.out.trans hus (fun k hk e => by have := HPQ.out; omega), HPQ.out, fun W' hW' => HVY.out (fun k => k = pq ∨ k ≤ p14 ∨ (Wq.setRow pq (([⟨x, .slice a1 m1 k1, .slice a2 m2 k2⟩, ⟨y, .slice o3 l1 j3, .slice o4 l2 j4⟩, ⟨x, .slice a1 m1 k1, .slice a2 m2 k2⟩, ⟨z, .slice o1 n1 g1, .slice o2 n2 g2⟩, ⟨x, .slice a1 m1 k1, .slice a2 m2 k2⟩] : List VS).flatMap VS.cells).toArray).heap.size ≤ k) W' (fun k hk => ?_) ?_⟩
        · have h1 := hus.size; have h2 := HUYQ.out.size; have h3 := HNP.out; have h4 := HKQ.out
          omega
        · exact ((HUYQ.out.mono (T := fun k => k = pq ∨ k ≤ p14 ∨ (Wq.setRow pq (([⟨x, .slice a1 m1 k1, .slice a2 m2 k2⟩, ⟨y, .slice o3 l1 j3, .slice o4 l2 j4⟩, ⟨x, .slice a1 m1 k1, .slice a2 m2 k2⟩, ⟨z, .slice o1 n1 g1, .slice o2 n2 g2⟩, ⟨x, .slice a1 m1 k1, .slice a2 m2 k2⟩] : List VS).flatMap VS.cells).toArray).heap.size ≤ k) (fun _ _ e => e.elim)).trans hus (fun k _ e => .inl e)).trans hW' (fun k _ e => .inr e)
      · skip
        have huq : Upd (fun _ => False) W18 (W18.alloc (.cells #[.int .i64 0, .int .i64 0, .int .i64 0, .int .i64 0, .int .i64 0, .slice none 0 0, .slice none 0 0, .int .i64 0, .int .i64 0, .int .i64 0, .int .i64 0, .int .i64 0, .slice none 0 0, .slice none 0 0, .int .i64 0, .int .i64 0, .int .i64 0, .int .i64 0, .int .i64 0, .slice none 0 0, .slice none 0 0, .int .i64 0, .int .i64 0, .int .i64 0, .int .i64 0, .int .i64 0, .slice none 0 0, .slice none 0 0, .int .i64 0, .int .i64 0, .int .i64 0, .int .i64 0, .int .i64 0, .slice none 0 0, .slice none 0 0] 60)).drew := ((Upd.refl (fun _ => False) W18).alloc (.cells #[.int .i64 0, .int .i64 0, .int .i64 0, .int .i64 0, .int .i64 0, .slice none 0 0, .slice none 0 0, .int .i64 0, .int .i64 0, .int .i64 0, .int .i64 0, .int .i64 0, .slice none 0 0, .slice none 0 0, .int .i64 0, .int .i64 0, .int .i64 0, .int .i64 0, .int .i64 0, .slice none 0 0, .slice none 0 0, .int .i64 0, .int .i64 0, .int .i64 0, .int .i64 0, .int .i64 0, .slice none 0 0, .slice none 0 0, .int .i64 0, .int .i64 0, .int .i64 0, .int .i64 0, .int .i64 0, .slice none 0 0, .slice none 0 0] 60)).drew
        have hrq0 := heap_alloc_new W18 (.cells #[.int .i64 0, .int .i64 0, .int .i64 0, .int .i64 0, .int .i64 0, .slice none 0 0, .slice none 0 0, .int .i64 0, .int .i64 0, .int .i64 0, .int .i64 0, .int .i64 0, .slice none 0 0, .slice none 0 0, .int .i64 0, .int .i64 0, .int .i64 0, .int .i64 0, .int .i64 0, .slice none 0 0, .slice none 0 0, .int .i64 0, .int .i64 0, .int .i64 0, .int .i64 0, .int .i64 0, .slice none 0 0, .slice none 0 0, .int .i64 0, .int .i64 0, .int .i64 0, .int .i64 0, .int .i64 0, .slice none 0 0, .slice none 0 0] 60)
        have hrq : (W18.alloc (.cells #[.int .i64 0, .int .i64 0, .int .i64 0, .int .i64 0, .int .i64 0, .slice none 0 0, .slice none 0 0, .int .i64 0, .int .i64 0, .int .i64 0, .int .i64 0, .int .i64 0, .slice none 0 0, .slice none 0 0, .int .i64 0, .int .i64 0, .int .i64 0, .int .i64 0, .int .i64 0, .slice none 0 0, .slice none 0 0, .int .i64 0, .int .i64 0, .int .i64 0, .int .i64 0, .int .i64 0, .slice none 0 0, .slice none 0 0, .int .i64 0, .int .i64 0, .int .i64 0, .int .i64 0, .int .i64 0, .slice none 0 0, .slice none 0 0] 60)).drew.heap[W18.heap.size]? = some (.cells #[.int .i64 0, .int .i64 0, .int .i64 0, .int .i64 0, .int .i64 0, .slice none 0 0, .slice none 0 0, .int .i64 0, .int .i64 0, .int .i64 0, .int .i64 0, .int .i64 0, .slice none 0 0, .slice none 0 0, .int .i64 0, .int .i64 0, .int .i64 0, .int .i64 0, .int .i64 0, .slice none 0 0, .slice none 0 0, .int .i64 0, .int .i64 0, .int .i64 0, .int .i64 0, .int .i64 0, .slice none 0 0, .slice none 0 0, .int .i64 0, .int .i64 0, .int .i64 0, .int .i64 0, .int .i64 0, .slice none 0 0, .slice none 0 0] 60 (0, 0)) := hrq0
        clear hrq0
        have hHeldb : (fun V => V.heap[p11]? = some (.cells #[.int .i64 x.gen, .int .i64 x.flushed, .int .i64 x.next, .int .i64 x.low, .int .i64 x.clock, .slice a1 m1 k1, .slice a2 m2 k2] 25 (0, 0)) ∧ V.heap[p6]? = some (.cells #[.int .i64 y.gen, .int .i64 y.flushed, .int .i64 y.next, .int .i64 y.low, .int .i64 y.clock, .slice r1 l1 e1, .slice r2 l2 e2] 25 (0, 0)) ∧ V.heap[p12]? = some (.cells #[.int .i64 z.gen, .int .i64 z.flushed, .int .i64 z.next, .int .i64 z.low, .int .i64 z.clock, .slice o1 n1 g1, .slice o2 n2 g2] 25 (0, 0))) (W18.alloc (.cells #[.int .i64 0, .int .i64 0, .int .i64 0, .int .i64 0, .int .i64 0, .slice none 0 0, .slice none 0 0, .int .i64 0, .int .i64 0, .int .i64 0, .int .i64 0, .int .i64 0, .slice none 0 0, .slice none 0 0, .int .i64 0, .int .i64 0, .int .i64 0, .int .i64 0, .int .i64 0, .slice none 0 0, .slice none 0 0, .int .i64 0, .int .i64 0, .int .i64 0, .int .i64 0, .int .i64 0, .slice none 0 0, .slice none 0 0, .int .i64 0, .int .i64 0, .int .i64 0, .int .i64 0, .int .i64 0, .slice none 0 0, .slice none 0 0] 60)).drew := ⟨huq.get HR11e.out (fun e => e), huq.get HR6e.out (fun e => e), huq.get HRZe.out (fun e => e)⟩
        have hsz : (W18.alloc (.cells #[.int .i64 0, .int .i64 0, .int .i64 0, .int .i64 0, .int .i64 0, .slice none 0 0, .slice none 0 0, .int .i64 0, .int .i64 0, .int .i64 0, .int .i64 0, .int .i64 0, .slice none 0 0, .slice none 0 0, .int .i64 0, .int .i64 0, .int .i64 0, .int .i64 0, .int .i64 0, .slice none 0 0, .slice none 0 0, .int .i64 0, .int .i64 0, .int .i64 0, .int .i64 0, .int .i64 0, .slice none 0 0, .slice none 0 0, .int .i64 0, .int .i64 0, .int .i64 0, .int .i64 0, .int .i64 0, .slice none 0 0, .slice none 0 0] 60)).drew.heap.size = W18.heap.size + 1 := by show (W18.alloc (.cells #[.int .i64 0, .int .i64 0, .int .i64 0, .int .i64 0, .int .i64 0, .slice none 0 0, .slice none 0 0, .int .i64 0, .int .i64 0, .int .i64 0, .int .i64 0, .int .i64 0, .slice none 0 0, .slice none 0 0, .int .i64 0, .int .i64 0, .int .i64 0, .int .i64 0, .int .i64 0, .slice none 0 0, .slice none 0 0, .int .i64 0, .int .i64 0, .int .i64 0, .int .i64 0, .int .i64 0, .slice none 0 0, .slice none 0 0, .int .i64 0, .int .i64 0, .int .i64 0, .int .i64 0, .int .i64 0, .slice none 0 0, .slice none 0 0] 60)).heap.size = _; rw [World.size_alloc]
        go_simp
        refine hK.out _ _ (fun _ => hHeldb) ?_
        clear hK K
        (try simp only [Act.put, List.setIfInBounds_toArray, List.set_cons_zero, List.set_cons_succ])
        obtain ⟨pq, hpq⟩ : ∃ p, p = W18.heap.size := ⟨_, rfl⟩
        rw [← hpq] at hrq hsz ⊢
        have HRB := hid hrq; have HUB := hid huq; have HSZB := hid hsz; have HPQ := hid (show W18.heap.size ≤ pq from by omega)
        generalize (W18.alloc (.cells #[.int .i64 0, .int .i64 0, .int .i64 0, .int .i64 0, .int .i64 0, .slice none 0 0, .slice none 0 0, .int .i64 0, .int .i64 0, .int .i64 0, .int .i64 0, .int .i64 0, .slice none 0 0, .slice none 0 0, .int .i64 0, .int .i64 0, .int .i64 0, .int .i64 0, .int .i64 0, .slice none 0 0, .slice none 0 0, .int .i64 0, .int .i64 0, .int .i64 0, .int .i64 0, .int .i64 0, .slice none 0 0, .slice none 0 0, .int .i64 0, .int .i64 0, .int .i64 0, .int .i64 0, .int .i64 0, .slice none 0 0, .slice none 0 0] 60)).drew = Wb at HRB HUB HSZB hHeldb ⊢
        clear huq hrq hsz hpq
        refine wpAnyL_one 2 rfl (by kernel_rfl) (fun K hK => ?_)
        go_simp
        go_at_call 16
        refine (copied_any (w := Wb) (HVB.out.keep (HU18.out.trans (HUB.out) (fun _ _ e => e))) HINB.out).mono ?_
        rintro e Wy ⟨vy, rfl, hown, huy⟩
        obtain ⟨sty, rsy, Ly, rfl, hsty, hroy, hrly, -, hby⟩ := hown.ex
        obtain ⟨o3, j3, ho3, -⟩ := hsty.bat
        obtain ⟨o4, j4, ho4⟩ := hroy.slice
        rw [show Ly.length = y.runs.length from by rw [hrly]; simp] at ho4
        rw [← HL.out.1] at ho3
        rw [← HL.out.2] at ho4
        subst ho3; subst ho4
        have HVY := hid (show ∀ (S : Nat → Prop) W', (∀ k, S k → k < Wb.heap.size ∨ Wy.heap.size ≤ k) → Upd S Wy W' → VerAt W' (.agg #[.int .i64 y.gen, .int .i64 y.flushed, .int .i64 y.next, .int .i64 y.low, .int .i64 y.clock, .slice o3 l1 j3, .slice o4 l2 j4]) y from fun S W' hS hu => by
          have h := verOf (a1 := y.gen) (a2 := y.flushed) (a3 := y.next) (a4 := y.low) (a5 := y.clock) (hsty.upd hu (fun k e hs => by
            have h1 := hby k (List.mem_append_left _ (by rw [e]; simp)); have h2 := hsty.lt k e; have := hS k hs; omega)) (L := Ly) (rs := .slice o4 l2 j4) (base := Wb.heap.size) ⟨owns_upd hroy.row hu (fun k e hs => by have h1 := hroy.row.lt k e; have := hS k hs; omega), fun q hq => ⟨(hroy.data q hq).1.upd hu (fun k e hs => by
            have h1 := hby k (List.mem_append_right _ (List.mem_flatMap.2 ⟨q, hq, List.mem_append_left _ (by rw [e]; simp)⟩)); have h2 := (hroy.data q hq).1.lt k e; have := hS k hs; omega), (hroy.data q hq).2.upd hu (fun k e hs => by
            have h1 := hby k (List.mem_append_right _ (List.mem_flatMap.2 ⟨q, hq, List.mem_append_right _ (by rw [e]; simp)⟩)); have h2 := (hroy.data q hq).2.lt k e; have := hS k hs; omega)⟩⟩
          rw [← hrly] at h
          exact h)
        have HUY := hid (show Upd (fun _ => False) W18 Wy from (HUB.out).trans huy (fun _ _ e => e))
        have hHeldy : (fun V => V.heap[p11]? = some (.cells #[.int .i64 x.gen, .int .i64 x.flushed, .int .i64 x.next, .int .i64 x.low, .int .i64 x.clock, .slice a1 m1 k1, .slice a2 m2 k2] 25 (0, 0)) ∧ V.heap[p6]? = some (.cells #[.int .i64 y.gen, .int .i64 y.flushed, .int .i64 y.next, .int .i64 y.low, .int .i64 y.clock, .slice r1 l1 e1, .slice r2 l2 e2] 25 (0, 0)) ∧ V.heap[p12]? = some (.cells #[.int .i64 z.gen, .int .i64 z.flushed, .int .i64 z.next, .int .i64 z.low, .int .i64 z.clock, .slice o1 n1 g1, .slice o2 n2 g2] 25 (0, 0))) Wy := ⟨huy.get hHeldb.1 (fun e => e), huy.get hHeldb.2.1 (fun e => e), huy.get hHeldb.2.2 (fun e => e)⟩
        refine hK.out _ _ (fun _ => hHeldy) ?_
        clear hK K
        have HRQ := hid (huy.get HRB.out (fun e => e)); have HUYQ := hid (Upd.refl (fun _ => False) Wy); have HUWQ := hid HUY.out
        have HKQ := hid (show W18.drew.heap.size = W18.heap.size ∧ (pq < Wb.heap.size ∨ Wy.heap.size ≤ pq) ∧ W18.heap.size ≤ Wb.heap.size from ⟨rfl, by have := HSZB.out; omega, HUB.out.size⟩)
        (try simp only [Act.put, List.setIfInBounds_toArray, List.set_cons_zero, List.set_cons_succ])
        refine' wpAnyL_take 6 [8] (v := _) rfl (by kernel_rfl) (by kernel_rfl) (by kernel_rfl) (by kernel_rfl) (by simp) (fun _ _ _ h => h) (Or.inl ⟨by rfl, ?hyb6⟩) (by assumption) ?restb6
        case hyb6 => (intro wS hSw; skip; go_simp; (try with_reducible rfl))
        (try simp only [Act.put, List.setIfInBounds_toArray, List.set_cons_zero, List.set_cons_succ])
        refine wpAnyL_one 8 rfl (by kernel_rfl) (fun K hK => ?_)
        rw [if_pos (by kernel_rfl)]
        refine wp_store_row 60 _ _ rfl pq (([⟨x, .slice a1 m1 k1, .slice a2 m2 k2⟩, ⟨y, .slice o3 l1 j3, .slice o4 l2 j4⟩, ⟨x, .slice a1 m1 k1, .slice a2 m2 k2⟩, ⟨z, .slice o1 n1 g1, .slice o2 n2 g2⟩, ⟨x, .slice a1 m1 k1, .slice a2 m2 k2⟩] : List VS).flatMap VS.cells).toArray rfl rfl 60 _ HRQ.out (by kernel_rfl) rfl (by simp [VS.cells, Value.oneCell']) ?_
        refine hK.out _ _ (fun h => absurd rfl h) ?_
        clear hK K
        (try simp only [Act.put, List.setIfInBounds_toArray, List.set_cons_zero, List.set_cons_succ])
        refine wpAnyL_done (by kernel_rfl) ?_ _
        go_wp2
        go_meet
        have hrw := setRow_heap Wy pq _ (([⟨x, .slice a1 m1 k1, .slice a2 m2 k2⟩, ⟨y, .slice o3 l1 j3, .slice o4 l2 j4⟩, ⟨x, .slice a1 m1 k1, .slice a2 m2 k2⟩, ⟨z, .slice o1 n1 g1, .slice o2 n2 g2⟩, ⟨x, .slice a1 m1 k1, .slice a2 m2 k2⟩] : List VS).flatMap VS.cells).toArray 60 _ HRQ.out
        have hus : Upd (fun k => k = pq) Wy (Wy.setRow pq (([⟨x, .slice a1 m1 k1, .slice a2 m2 k2⟩, ⟨y, .slice o3 l1 j3, .slice o4 l2 j4⟩, ⟨x, .slice a1 m1 k1, .slice a2 m2 k2⟩, ⟨z, .slice o1 n1 g1, .slice o2 n2 g2⟩, ⟨x, .slice a1 m1 k1, .slice a2 m2 k2⟩] : List VS).flatMap VS.cells).toArray) := ⟨rfl, rfl, rfl, by simp, fun k _ hk => setRow_other Wy pq k _ hk⟩
        refine ⟨pq, o3, o4, j3, j4, rfl, hrw, HUWQ.out.trans hus (fun k hk e => by have := HPQ.out; omega), HPQ.out, fun W' hW' => HVY.out (fun k => k = pq ∨ k ≤ p14 ∨ (Wy.setRow pq (([⟨x, .slice a1 m1 k1, .slice a2 m2 k2⟩, ⟨y, .slice o3 l1 j3, .slice o4 l2 j4⟩, ⟨x, .slice a1 m1 k1, .slice a2 m2 k2⟩, ⟨z, .slice o1 n1 g1, .slice o2 n2 g2⟩, ⟨x, .slice a1 m1 k1, .slice a2 m2 k2⟩] : List VS).flatMap VS.cells).toArray).heap.size ≤ k) W' (fun k hk => ?_) ?_⟩
        · have h1 := hus.size; have h2 := HUYQ.out.size; have h3 := HNP.out; have h4 := HKQ.out
          omega
        · exact ((HUYQ.out.mono (T := fun k => k = pq ∨ k ≤ p14 ∨ (Wy.setRow pq (([⟨x, .slice a1 m1 k1, .slice a2 m2 k2⟩, ⟨y, .slice o3 l1 j3, .slice o4 l2 j4⟩, ⟨x, .slice a1 m1 k1, .slice a2 m2 k2⟩, ⟨z, .slice o1 n1 g1, .slice o2 n2 g2⟩, ⟨x, .slice a1 m1 k1, .slice a2 m2 k2⟩] : List VS).flatMap VS.cells).toArray).heap.size ≤ k) (fun _ _ e => e.elim)).trans hus (fun k _ e => .inl e)).trans hW' (fun k _ e => .inr e)
    case rest =>
      obtain ⟨pl, o3, o4, j3, j4, htv, hlst, hu19, hpl, hvy⟩ := hcut
      subst htv
      have HLST := hid hlst; have HU19 := hid hu19; have HPL := hid hpl; have HVY := hid hvy
      have HP14B := hid (show p14 < wc.heap.size from Nat.lt_of_lt_of_le HNP.out hu19.size)
      have HP0 := hid (show p14 ≠ 0 from fun e => by have h1 := HT.out.1; have h2 := HPW.out; omega)
      have HUW := hid (HU18.out.trans hu19 (fun _ _ e => e))
      have hrm0 : RmIn p14 wc.heap.size wc (.slice none 0 0) [] (.slice none 0 0) none [] [] :=
        ⟨fun _ => 0, hu19.get HR14.out (fun e => e), SRow.nil _ _ _, SRow.nil _ _ _, (fun k e => by cases e), (fun i k e => by simp at e), HP14B.out, Nat.le_refl _, (fun b e => by cases e), (fun b e => by cases e), (fun k e => by cases e), (fun i k e => by simp at e), (fun r hr => by cases hr)⟩
      have HRM0 := hid hrm0
      obtain ⟨LS, hLS⟩ : ∃ LS : List VS, LS = ([⟨x, .slice a1 m1 k1, .slice a2 m2 k2⟩, ⟨y, .slice o3 l1 j3, .slice o4 l2 j4⟩, ⟨x, .slice a1 m1 k1, .slice a2 m2 k2⟩, ⟨z, .slice o1 n1 g1, .slice o2 n2 g2⟩, ⟨x, .slice a1 m1 k1, .slice a2 m2 k2⟩] : List VS) := ⟨_, rfl⟩
      rw [← hLS] at HLST
      have hsmx : VerSm x := ⟨by have := HINA.out.2.2.2.2.2.1; omega, HINA.out.2.2.2.2.2.2.1, fun r hr => (HINA.out.2.2.2.2.2.2.2 r hr).2.2.2.2.2.2⟩
      have hsmy : VerSm y := ⟨by have := HINB.out.2.2.2.2.2.1; omega, HINB.out.2.2.2.2.2.2.1, fun r hr => (HINB.out.2.2.2.2.2.2.2 r hr).2.2.2.2.2.2⟩
      have hkx : VerK p14 wc.heap.size wc (VS.val ⟨x, .slice a1 m1 k1, .slice a2 m2 k2⟩) x := fun W' hu => HWAS.out W' (((HWS9.out.trans HU1418.out (fun _ _ e => e.elim)).trans HU19.out (fun _ _ e => e.elim)).trans hu (fun k hk e => by
        have h1 := HWS9.out.size; have h2 := HU1418.out.size; have h3 := HU19.out.size; have h4 := HN11.out; have h5 := HP14.out
        rcases e with e | e <;> omega))
      have hkz : VerK p14 wc.heap.size wc (VS.val ⟨z, .slice o1 n1 g1, .slice o2 n2 g2⟩) z := fun W' hu => HVZ.out W' (((HU1418.out.mono (fun _ _ e => e.elim)).trans HU19.out (fun _ _ e => e.elim)).trans hu (fun k hk e => by
        have h2 := HU1418.out.size; have h3 := HU19.out.size; have h5 := HP14.out
        rcases e with e | e <;> omega))
      have hky : VerK p14 wc.heap.size wc (VS.val ⟨y, .slice o3 l1 j3, .slice o4 l2 j4⟩) y := fun W' hu => HVY.out W' (hu.mono (fun k _ e => by rcases e with e | e <;> omega))
      have HALL := hid (show LS.length = 5 ∧ ∀ i (h : i < LS.length), VerK p14 wc.heap.size wc LS[i].val LS[i].x ∧ VerSm LS[i].x from by
        subst hLS
        refine ⟨rfl, fun i h => ?_⟩
        have h5 : i < 5 := h
        match i, h5 with
        | 0, _ => exact ⟨hkx, hsmx⟩
        | 1, _ => exact ⟨hky, hsmy⟩
        | 2, _ => exact ⟨hkx, hsmx⟩
        | 3, _ => exact ⟨hkz, HSZ.out⟩
        | 4, _ => exact ⟨hkx, hsmx⟩)
      clear hLS hsmx hsmy hkx hky hkz hrm0 hlst hu19 hpl hvy HVY HVZ HWAS HU1418 HWS9 HR14 HR6e HR11e HRZe HSZ HVA HVB HINA HINB HL HM HU18
      obtain ⟨B, hB⟩ : ∃ B, B = wc.heap.size := ⟨_, rfl⟩
      rw [← hB] at HRM0 HALL HP14B
      have HB0 := hid hB
      clear hB
      go_wp2
      go_loopw [16] (fun iv wr => ∃ i : Nat, iv = .int .i64 i ∧ i ≤ 5 ∧ ∃ lv Ms dv st ds, RmIn p14 B wr lv Ms dv st ds [] ∧ Upd (OutR p14 B) wc wr ∧ (Ms : List MV).length ≤ 3000000000000 ∧ (ds : List DK).length ≤ 4000000000000) (fun iv _ => 5 - (intOf iv).toNat)
      case atStart => exact ⟨0, rfl, by omega, _, _, _, _, _, HRM0.out, Upd.refl _ _, by simp, by simp⟩
      case round =>
        clear HRM0
        obtain ⟨i, rfl, hi, lv, Ms, dv, st, ds, hrm, hup, hms, hds⟩ := hrel
        have HRM := hid hrm; have HUP := hid hup
        have HUWR := hid (HUW.out.trans hup (fun k hk e => by have := HUW.out.size; have := HPW.out; have := HB0.out; rcases e with e | e <;> omega))
        by_cases hlt : i < 5
        · have hil : i < LS.length := by rw [HALL.out.1]; exact hlt
          have hlr := hup.get HLST.out (fun e => by have := lt_of_heap HLST.out; have := HPL.out; have := HNP.out; have := HB0.out; rcases e with e | e <;> omega)
          obtain ⟨c0, c1, c2, c3, c4, c5, c6, hpll⟩ := vs_at hlr hil
          have HCK := hid (checks_any (HT.out.keep HUWR.out) HP0.out hrm ((HALL.out.2 i hil).1.keep hup) (HALL.out.2 i hil).2 hms hds)
          obtain ⟨sv, hsv⟩ : ∃ s, s = LS[i] := ⟨_, rfl⟩
          rw [← hsv] at c0 c1 c2 c3 c4 c5 c6 HCK
          unfold VS.val at HCK
          have hii : (i : Int) < 5 := by omega
          clear hrm hup hms hds hlr hsv hil
          go_wp2_with fail
          refine HCK.out.mono ?_
          rintro e W' ⟨rfl, lv', Ms', dv', st', ds', hrm', hup', hms', hds'⟩
          have HFIN := hid (And.intro hrm' (And.intro (HUP.out.trans hup' (fun _ _ e => e)) (And.intro hms' hds')))
          clear hrm' hup' hms' hds' c0 c1 c2 c3 c4 c5 c6 hpll HCK
          go_wp2
          go_roundw
          case rel => exact ⟨i + 1, by go_num, by omega, lv', Ms', dv', st', ds', HFIN.out.1, HFIN.out.2.1, HFIN.out.2.2.1, HFIN.out.2.2.2⟩
          case measure => simp [intOf]; omega
        · have hge : ¬ (i : Int) < 5 := by omega
          clear hrm hup hms hds HRM HUP HALL HLST
          have hu26 := ((Upd.refl (fun _ => False) wr).alloc (.cells #[.slice none 0 0, .int .i64 0] 62)).alloc (.cells #[.slice b1 q1 c1, .slice b2 q2 c2, .slice b1 q1 c1] 63)
          have hr18 := heap_alloc_new wr (.cells #[.slice none 0 0, .int .i64 0] 62)
          have hr18' : ((wr.alloc (.cells #[.slice none 0 0, .int .i64 0] 62)).alloc (.cells #[.slice b1 q1 c1, .slice b2 q2 c2, .slice b1 q1 c1] 63)).heap[wr.heap.size]? = _ := (heap_alloc_past _ _ _ (by simp)).trans hr18
          have hr19 := heap_alloc_new (wr.alloc (.cells #[.slice none 0 0, .int .i64 0] 62)) (.cells #[.slice b1 q1 c1, .slice b2 q2 c2, .slice b1 q1 c1] 63)
          rw [World.size_alloc] at hr19
          go_upto_region 28 with fail
          obtain ⟨p18, hp18⟩ : ∃ p, p = wr.heap.size := ⟨_, rfl⟩
          obtain ⟨p19, hp19⟩ : ∃ p, p = wr.heap.size + 1 := ⟨_, rfl⟩
          rw [← hp19] at hr19
          rw [← hp18] at hr18'
          rw [← hp19, ← hp18]
          have HU26 := hid (HUWR.out.trans hu26 (fun _ _ e => e)); have HR18 := hid hr18'; have HR19 := hid hr19
          have HNN := hid (show w.heap.size ≤ p18 ∧ w.heap.size ≤ p19 ∧ p18 ≠ p19 from ⟨by rw [hp18]; exact HUWR.out.size, by have := HUWR.out.size; omega, by omega⟩)
          generalize (wr.alloc (.cells #[.slice none 0 0, .int .i64 0] 62)).alloc (.cells #[.slice b1 q1 c1, .slice b2 q2 c2, .slice b1 q1 c1] 63) = Wd at HU26 HR18 HR19 ⊢
          clear hu26 hr18 hr18' hr19 hp18 hp19 HUWR
          have HK0 := hid (show DK.In Wd ⟨p18, .slice none 0 0, [], 0⟩ from ⟨HR18.out, .inl ⟨rfl, rfl⟩, (fun e => by cases e), by simp, by simp⟩)
          clear HR18
          obtain ⟨wo, rfl⟩ : ∃ wo, wo = wr := ⟨_, rfl⟩
          go_wp2
          go_loopw [20] (fun iv wr => ∃ i : Nat, iv = .int .i64 i ∧ i ≤ 3 ∧ ∃ k : DK, k.p = p18 ∧ k.In wr ∧ (∀ b, k.own b → w.heap.size ≤ b ∧ b ≠ p19) ∧ Upd (fun _ => False) w wr ∧ wr.heap[p19]? = some (.cells #[.slice b1 q1 c1, .slice b2 q2 c2, .slice b1 q1 c1] 63 (0, 0))) (fun iv _ => 3 - (intOf iv).toNat)
          case atStart =>
            refine ⟨0, rfl, by omega, _, rfl, HK0.out, ?_, HU26.out, HR19.out⟩
            rintro b (e | e)
            · rw [e]
              exact ⟨HNN.out.1, HNN.out.2.2⟩
            · cases e
          case round =>
            clear HK0 HU26 HR19
            obtain ⟨i, rfl, hi, k, hkp, hkin, hko, hup, hr19⟩ := hrel
            have HKP := hid hkp; have HKIN := hid hkin; have HKO := hid hko; have HUP := hid hup; have HR19 := hid hr19
            clear hkp hkin hko hup hr19
            by_cases hlt : i < 3
            · skip
              have htx : ∃ ta tl tc tb, tl = (tb : List UInt8).length ∧ BAt w (.slice ta tl tc) tb ∧ tb.length ≤ 140737488351232 ∧ ∀ W : World, W.heap[p19]? = some (.cells #[.slice b1 q1 c1, .slice b2 q2 c2, .slice b1 q1 c1] 63 (0, 0)) → W.cell? ⟨p19, i, none⟩ = some (.slice ta tl tc) := by
                match i, hlt with
                | 0, _ => exact ⟨b1, q1, c1, b, HQ.out.1, HB.out, HBL.out.1, fun W h => cell_of_row _ _ 0 _ _ _ h⟩
                | 1, _ => exact ⟨b2, q2, c2, c, HQ.out.2, HC.out, HBL.out.2, fun W h => cell_of_row _ _ 1 _ _ _ h⟩
                | 2, _ => exact ⟨b1, q1, c1, b, HQ.out.1, HB.out, HBL.out.1, fun W h => cell_of_row _ _ 2 _ _ _ h⟩
              obtain ⟨ta, tl, tc, tb, htl, hbt, hbl, hcell⟩ := htx
              have HTL := hid htl; have HBT := hid hbt; have HBTL := hid hbl; have HCELL := hid hcell
              have hii : (i : Int) < 3 := by omega
              clear htl hbt hbl
              have c19 := hcell wr HR19.out
              have hpl19 := lt_of_heap HR19.out
              have HLE := hid (lend_any HKIN.out (HBT.out.keep HUP.out).bytes (fun a l c' e h0 => ⟨fun e2 => by have h1 := (HKO.out _ e2).1; have h2 := HBT.out.old a l c' e h0; omega, Nat.lt_of_lt_of_le (HBT.out.old a l c' e h0) HUP.out.size⟩) (by have := HBTL.out; omega))
              rw [HKP.out, ← HTL.out] at HLE
              clear hcell
              go_wp2_with fail
              refine HLE.out.mono ?_
              rintro e W1 ⟨k1, g, c', rfl, hst1, hln1, hrv1⟩
              have HST1 := hid hst1; have HLN1 := hid hln1
              have HUP1 := hid (HUP.out.trans hst1.upd (fun q hq e => by have := (HKO.out q e).1; omega))
              have HKO1 := hid (show ∀ q, k1.own q → w.heap.size ≤ q ∧ q ≠ p19 from fun q e => (hst1.foot q e).elim (fun e => HKO.out q e) (fun e => ⟨Nat.le_trans HUP.out.size e, fun e2 => by have := lt_of_heap HR19.out; omega⟩))
              have HR19b := hid (hst1.upd.get HR19.out (fun e => (HKO.out _ e).2 rfl))
              have hbd : BAt W1 (.slice (some ⟨g, 0, none⟩) tl c') tb := by
                obtain ⟨g', cc, e1, -, e3, -⟩ := DK.part_bat hst1.ins hln1
                rw [hrv1] at e1
                injection e1 with i1 _ i3
                injection i1 with i1
                injection i1 with i1
                subst i1; subst i3
                rw [HTL.out]
                exact e3
              have HDE := hid (decode_any (HT.out.keep HUP1.out) hbd HBTL.out)
              have HKI1 := hid hst1.ins
              have HK1P := hid (hst1.p.trans HKP.out)
              clear c19 hpl19 hst1 hln1 hrv1 hbd HLE
              obtain ⟨O, hO⟩ : ∃ O, O = decodeA tb := ⟨_, rfl⟩
              rw [← hO] at HDE
              have HO := hid hO
              have HOR := hid (show (verOr O).runs.length ≤ 64 from by rw [hO]; exact verOr_runs tb)
              have HOE := hid (show 0 ≤ errOf O ∧ errOf O ≤ 100 from by unfold errOf; split <;> omega)
              clear hO
              go_wp2_with fail
              refine HDE.out.mono ?_
              rintro e W2 ⟨hdo, hu2⟩
              obtain ⟨x1, x2, x3, x4, x5, x6, rfl, hvx⟩ := hdo.told
              obtain ⟨eo, heo⟩ : ∃ z, z = errOf O := ⟨_, rfl⟩
              obtain ⟨vo, hvo⟩ : ∃ z, z = verOr O := ⟨_, rfl⟩
              rw [← heo, ← hvo]
              rw [← hvo] at hvx HOR
              rw [← heo] at HOE
              have HEO := hid heo; have HVO := hid hvo; have HVX := hid hvx
              have hu3 := (Upd.refl (fun _ => False) W2).alloc (.cells #[.int .i64 vo.gen, .int .i64 vo.flushed, .int .i64 vo.next, .int .i64 vo.low, .int .i64 vo.clock, .slice x1 x2 x3, .slice x4 x5 x6] 25)
              have hr21 := heap_alloc_new W2 (.cells #[.int .i64 vo.gen, .int .i64 vo.flushed, .int .i64 vo.next, .int .i64 vo.low, .int .i64 vo.clock, .slice x1 x2 x3, .slice x4 x5 x6] 25)
              have HS2 := hid hu2.size
              have HU12 := hid hu2
              clear hdo heo hvo hvx HDE
              go_upto_region 32 with fail
              obtain ⟨p21, hp21⟩ : ∃ p, p = W2.heap.size := ⟨_, rfl⟩
              rw [← hp21] at hr21
              rw [← hp21]
              have HU13 := hid (hu2.trans hu3 (fun _ _ e => e)); have HR21 := hid hr21; have HP21 := hid (show W1.heap.size ≤ p21 from by rw [hp21]; exact hu2.size)
              have HVX3 := hid (show ∀ (S : Nat → Prop) W', (∀ k, S k → k < W1.heap.size) → Upd S (W2.alloc (.cells #[.int .i64 vo.gen, .int .i64 vo.flushed, .int .i64 vo.next, .int .i64 vo.low, .int .i64 vo.clock, .slice x1 x2 x3, .slice x4 x5 x6] 25)) W' → VerAt W' (.agg #[.int .i64 vo.gen, .int .i64 vo.flushed, .int .i64 vo.next, .int .i64 vo.low, .int .i64 vo.clock, .slice x1 x2 x3, .slice x4 x5 x6]) vo from fun S W' hS hu => HVX.out S W' hS ((hu3.mono (fun _ _ e => e.elim)).trans hu (fun _ _ e => e)))
              generalize W2.alloc (.cells #[.int .i64 vo.gen, .int .i64 vo.flushed, .int .i64 vo.next, .int .i64 vo.low, .int .i64 vo.clock, .slice x1 x2 x3, .slice x4 x5 x6] 25) = W3 at HU13 HR21 HVX3 ⊢
              clear hu2 hu3 hr21 hp21 HVX HU12 HS2
              have HUP3 := hid (HUP1.out.trans HU13.out (fun _ _ e => e))
              have HR19c := hid (HU13.out.get HR19b.out (fun e => e))
              have HRD := hid (refDecode_kept (HBT.out.keep HUP3.out) HBTL.out)
              rw [← decode_alike, ← HO.out] at HRD
              have c19 := HCELL.out W3 HR19c.out
              have hpl19 := lt_of_heap HR19c.out
              go_wp2_with fail
              refine HRD.out.mono ?_
              rintro e W4 ⟨hdk, hu4⟩
              obtain ⟨y1, y2, y3, y4, y5, y6, rfl, hvy⟩ := hdk.told
              rw [← HEO.out, ← HVO.out]
              rw [← HVO.out] at hvy
              have HVY := hid hvy
              have hu5 := (Upd.refl (fun _ => False) W4).alloc (.cells #[.int .i64 vo.gen, .int .i64 vo.flushed, .int .i64 vo.next, .int .i64 vo.low, .int .i64 vo.clock, .slice y1 y2 y3, .slice y4 y5 y6] 25)
              have hr23 := heap_alloc_new W4 (.cells #[.int .i64 vo.gen, .int .i64 vo.flushed, .int .i64 vo.next, .int .i64 vo.low, .int .i64 vo.clock, .slice y1 y2 y3, .slice y4 y5 y6] 25)
              clear hdk hvy HRD c19 hpl19
              go_upto_region 33 with fail
              obtain ⟨p23, hp23⟩ : ∃ p, p = W4.heap.size := ⟨_, rfl⟩
              rw [← hp23] at hr23
              rw [← hp23]
              have HU35 := hid (hu4.trans hu5 (fun _ _ e => e)); have HR23 := hid hr23
              have HP23 := hid (show W3.heap.size ≤ p23 from by rw [hp23]; exact hu4.size)
              have HVY5 := hid (show ∀ (S : Nat → Prop) W', (∀ k, S k → k < W3.heap.size) → Upd S (W4.alloc (.cells #[.int .i64 vo.gen, .int .i64 vo.flushed, .int .i64 vo.next, .int .i64 vo.low, .int .i64 vo.clock, .slice y1 y2 y3, .slice y4 y5 y6] 25)) W' → VerAt W' (.agg #[.int .i64 vo.gen, .int .i64 vo.flushed, .int .i64 vo.next, .int .i64 vo.low, .int .i64 vo.clock, .slice y1 y2 y3, .slice y4 y5 y6]) vo from fun S W' hS hu => HVY.out S W' hS ((hu5.mono (fun _ _ e => e.elim)).trans hu (fun _ _ e => e)))
              generalize W4.alloc (.cells #[.int .i64 vo.gen, .int .i64 vo.flushed, .int .i64 vo.next, .int .i64 vo.low, .int .i64 vo.clock, .slice y1 y2 y3, .slice y4 y5 y6] 25) = W5 at HU35 HR23 HVY5 ⊢
              clear hu4 hu5 hr23 hp23 HVY
              have HUP5 := hid (HUP3.out.trans HU35.out (fun _ _ e => e))
              have HU15 := hid (HU13.out.trans HU35.out (fun _ _ e => e))
              have HR19d := hid (HU35.out.get HR19c.out (fun e => e)); have HR21d := hid (HU35.out.get HR21.out (fun e => e))
              have HKI5 := hid (HKI1.out.upd HU15.out (fun _ _ e => e))
              have HBK := hid (back_any HKI5.out HLN1.out (HBT.out.keep HUP5.out).bytes)
              rw [HK1P.out] at HBK
              have c19 := HCELL.out W5 HR19d.out
              have hpl19 := lt_of_heap HR19d.out
              clear HUP3 HR19c HR21
              go_wp2_with fail
              refine HBK.out.mono ?_
              rintro e W6 ⟨rfl, m6, hw6⟩
              have hu6 : Upd (fun _ => False) W5 W6 := by rw [hw6]; exact (Upd.refl _ _).drewN m6
              have HU6 := hid hu6
              have HKI6 := hid (HKI5.out.upd hu6 (fun _ _ e => e))
              have HWI := hid (wipe_any HKI6.out)
              rw [HK1P.out] at HWI
              clear c19 hpl19 hw6 hu6 HBK HKI5
              go_wp2_with fail
              refine HWI.out.mono ?_
              rintro e W7 ⟨rfl, k2, hst2⟩
              have hlo : ∀ q, k1.own q → q < W1.heap.size := fun q e => HKI1.out.lt e
              have hne1 : ¬ k1.own p21 := fun e => by have h1 := hlo _ e; have h2 := HP21.out; omega
              have hne2 : ¬ k1.own p23 := fun e => by have h1 := hlo _ e; have h2 := HP23.out; have h3 := HU13.out.size; omega
              have hr21 := hst2.upd.get (HU6.out.get HR21d.out (fun e => e)) hne1
              have hr23 := hst2.upd.get (HU6.out.get HR23.out (fun e => e)) hne2
              have HR19e := hid (hst2.upd.get (HU6.out.get HR19d.out (fun e => e)) (fun e => (HKO1.out _ e).2 rfl))
              have hux : Upd k1.own W3 W7 := ((HU35.out.mono (T := k1.own) (fun _ _ e => e.elim)).trans HU6.out (fun _ _ e => e.elim)).trans hst2.upd (fun _ _ e => e)
              have huy : Upd k1.own W5 W7 := (HU6.out.mono (T := k1.own) (fun _ _ e => e.elim)).trans hst2.upd (fun _ _ e => e)
              have hvx7 := HVX3.out k1.own W7 hlo hux
              have hvy7 := HVY5.out k1.own W7 (fun q e => by have h1 := hlo q e; have h3 := HU13.out.size; omega) huy
              have HSV := hid (sameVer_any hvx7 hvy7 (by have := HOR.out; omega))
              rw [sameVerB_iff.2 rfl] at HSV
              have HUP7 := hid ((HUP5.out.trans HU6.out (fun _ _ e => e)).trans hst2.upd (fun q hq e => by have := (HKO1.out q e).1; omega))
              have HKI7 := hid hst2.ins
              have HKP7 := hid (hst2.p.trans HK1P.out)
              have HKO7 := hid (show ∀ q, k2.own q → w.heap.size ≤ q ∧ q ≠ p19 from fun q e => (hst2.foot q e).elim (fun e => HKO1.out q e) (fun e => ⟨by have h1 := HUP5.out.size; have h2 := HU6.out.size; omega, fun e2 => by have := lt_of_heap HR19d.out; have h2 := HU6.out.size; omega⟩))
              obtain ⟨⟨s0, s1', s2', s3, s4, s5, s6⟩, -, hsl⟩ := verCells hr21
              obtain ⟨⟨t0, t1, t2, t3, t4, t5, t6⟩, -, htl⟩ := verCells hr23
              clear hlo hne1 hne2 hr21 hr23 hux huy hvx7 hvy7 hst2 HWI
              have hneq : (eo != eo) = false := by simp
              go_wp2_with fail
              refine (lawNum_any _ _ (by have := HOE.out; omega)).mono ?_
              rintro e W ⟨rfl, hww⟩
              obtain rfl := hww.symm
              go_wp2_with fail
              refine HSV.out.mono ?_
              rintro e W8 ⟨rfl, hu8⟩
              have HU8 := hid hu8
              clear hu8 s0 s1' s2' s3 s4 s5 s6 t0 t1 t2 t3 t4 t5 t6 hsl htl HSV
              go_wp2
              go_roundw
              case rel => exact ⟨i + 1, by go_num, by omega, k2, HKP7.out, HKI7.out.upd HU8.out (fun _ _ e => e), HKO7.out, HUP7.out.trans HU8.out (fun _ _ e => e), HU8.out.get HR19e.out (fun e => e)⟩
              case measure => simp [intOf]; omega
            · obtain rfl : i = 3 := by omega
              have HST := hid (started_any (HT.out.keep HUP.out))
              go_wp2_with fail
              refine HST.out.mono ?_
              rintro e W9 ⟨rfl, hu9⟩
              go_wp2
              go_ret
              exact ⟨rfl, HUP.out.trans hu9 (fun _ _ e => e)⟩

end Go.Proofs.YtgaidmohdhaonaaGreatDoor
