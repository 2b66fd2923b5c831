/-
  Package stratalaw1's Desk: bytes that are handed in out of one place in memory; Lend, Back, Wipe, walked.
  Package stratalaw1's Desk, walked: Wipe, Lend.
  Package stratalaw1's Desk, walked: Lend.
-/
import Derived.Test.YtgaidmohdhaonaaGreatDoorSG
import Derived.Test.YtgaidmohdhaonaaGreatDoorYL
import Derived.Deep.OwnRows
import Derived.Laws.CopyRow
import Derived.Laws.IdiomCopy
import Derived.Lib.SlBuf
namespace Go.Proofs.YtgaidmohdhaonaaGreatDoor
set_option linter.unusedVariables false
set_option linter.unusedSimpArgs false
set_option linter.unnecessarySimpa false
set_option linter.unusedSectionVars false
open Go Go.RowKit

theorem DataIs.c_at {w : World} {g cap k : Nat} {bs : List UInt8} (h : DataIs w (.slice (some ⟨g, 0, none⟩) bs.length cap) bs) (hk : k < bs.length) : w.cell? ⟨g, k, none⟩ = some (byteV bs[k]) ∧ w.frozen? ⟨g, k, none⟩ = false ∧ g < w.heap.size := by
  refine ⟨?_, ?_, h.lt g rfl⟩
  · obtain ⟨ao, cp, he, -, -, -, hs⟩ := h.shape
    injection he with e1 _ _
    subst e1
    exact (hs _ rfl).2.2.2 k hk
  · rcases h with ⟨e, _⟩ | ⟨g', cap', cur, e, h1, -⟩
    · cases e
    · injection e with e1 _ _; injection e1 with e1; injection e1 with e1; subst e1
      exact frozen_of_row _ _ _ _ _ h1

theorem DataIs.setAt {w : World} {g cap k : Nat} {bs : List UInt8} (h : DataIs w (.slice (some ⟨g, 0, none⟩) bs.length cap) bs) (hk : k < bs.length) (m : UInt8) :
    DataIs (w.setCell ⟨g, k, none⟩ (byteV m)) (.slice (some ⟨g, 0, none⟩) bs.length cap) (bs.set k m) := by
  rcases h with ⟨e, _⟩ | ⟨g', cap', cur, e, h1, h2, h3, h4, h5⟩
  · cases e
  · injection e with e1 _ e3
    injection e1 with e1; injection e1 with e1
    subst e1 e3
    refine .inr ⟨g, cap, cur.setIfInBounds k (byteV m), by simp, heap_setCell_at _ _ _ _ _ _ h1, by simpa using h2, by simpa using h3, h4, ?_⟩
    rw [List.length_set, List.map_set, Array.toList_setIfInBounds, List.take_set, h5]

theorem BytesAt.upd {S : Nat → Prop} {w w' : World} {v : Value} {bs : List UInt8} (h : BytesAt w v bs) (hu : Upd S w w') (hn : ∀ a l c, v = .slice (some a) l c → 0 < l → ¬ S a.block ∧ a.block < w.heap.size) : BytesAt w' v bs := by
  obtain ⟨ao, cap, rfl, h1, h2⟩ := h
  refine ⟨ao, cap, rfl, h1, fun a ha j u hu' => ?_⟩
  subst ha
  have h0l : 0 < bs.length := by
    rcases Nat.eq_zero_or_pos bs.length with h | h
    · rw [List.getElem?_eq_none (by simp; omega)] at hu'; cases hu'
    · exact h
  obtain ⟨n1, n2⟩ := hn a _ _ rfl h0l
  rw [← h2 a rfl j u hu']
  have hab : (a.add j).block = a.block := by unfold Addr.add; split <;> rfl
  exact World.cell?_of_block (w := w) (by rw [hab]; exact hu.block a.block n2 n1)

theorem set_middle {α : Type} (A : List α) (x y : α) (B : List α) : (A ++ x :: B).set A.length y = A ++ y :: B := by simp

theorem set_replicate {bs : List UInt8} {k : Nat} (hk : k < bs.length) (m : UInt8) : (List.replicate k m ++ bs.drop k).set k m = List.replicate (k + 1) m ++ bs.drop (k + 1) := by
  rw [List.drop_eq_getElem_cons hk]
  have h := set_middle (List.replicate k m) bs[k] m (bs.drop (k + 1))
  rw [List.length_replicate] at h
  rw [h, List.replicate_succ', List.append_assoc]
  rfl

theorem BytesAt.take {w : World} {bo : Option Addr} {cap : Nat} {bs : List UInt8} (h : BytesAt w (.slice bo bs.length cap) bs) {n : Nat} (hn : n ≤ bs.length) (c : Nat) (hc : bo = none → c = 0) :
    BytesAt w (.slice bo n c) (bs.take n) := by
  obtain ⟨ao, cp, he, h1, h2⟩ := h
  injection he with e1 e2 e3
  subst e1 e3
  refine ⟨bo, c, by simp [Nat.min_eq_left hn], fun h => ?_, fun a ha j u hu => h2 a ha j u ?_⟩
  · obtain ⟨rfl, rfl⟩ := h1 h
    exact ⟨by simp, hc h⟩
  · rw [List.map_take, List.getElem?_take] at hu
    split at hu
    · exact hu
    · cases hu

def Drawn (w w' : World) : Prop := ∃ q, w' = w.drewN q
theorem Drawn.heap {w w' : World} (h : Drawn w w') : w'.heap = w.heap := by obtain ⟨q, rfl⟩ := h; rfl
theorem Drawn.upd {w w' : World} (h : Drawn w w') : Upd (fun _ => False) w w' := by obtain ⟨q, rfl⟩ := h; exact (Upd.refl _ _).drewN q
theorem Drawn.cell {w w' : World} (h : Drawn w w') (a : Addr) : w'.cell? a = w.cell? a := World.cell?_of_block (by rw [h.heap])
theorem Drawn.drewN {w w' : World} (h : Drawn w w') (n : Nat) : Drawn w (w'.drewN n) := by obtain ⟨q, rfl⟩ := h; exact ⟨q + n, by rw [World.drewN_drewN]⟩

/-- What lies at a place behind what is lent. -/
def markB (i : Nat) : UInt8 := UInt8.ofNat (IntKind.u8.wrap (203 - 5 * (i : Int))).toNat

theorem markB_val (i : Nat) : ((markB i).toNat : Int) = IntKind.u8.wrap (203 - 5 * (i : Int)) := by
  unfold markB
  rw [UInt8.toNat_ofNat', IntKind.wrap_u8]
  omega

def marks (N : Nat) : List UInt8 := (List.range N).map markB
theorem marks_length (N : Nat) : (marks N).length = N := by simp [marks]

/-- A room of N bytes from which these were lent. -/
def lent (data : List UInt8) (N : Nat) : List UInt8 := data ++ (marks N).drop data.length

set_option maxRecDepth 100000 in
theorem mark_any (i : Nat) (hi : i ≤ 281474976710656) (w : World) : Calls Tryz.prog 84 #[.int .i64 i] w fun e w' => e = .returned (.int .u8 ((markB i).toNat : Int)) ∧ w' = w := by
  have h := markB_val i
  go_enter Tryz.func84, Tryz.ntmps84
  go_wp2
  go_ret
  exact ⟨by rw [h, IntKind.wrap_u8]; rfl, rfl⟩

set_option maxRecDepth 100000 in
theorem same1_any {w : World} {a b : Value} {xs bs : List UInt8} (ha : BytesAt w a xs) (hb : BytesAt w b bs) :
    Calls Tryz.prog 88 #[a, b] w fun e w' => e = .returned (.bool (decide (xs = bs))) ∧ w' = w := by
  have h1 := run_string_of ha
  have h2 := run_string_of hb
  have hq := beq_toBA xs bs
  obtain ⟨ao, ca, rfl, -, -⟩ := ha
  obtain ⟨bo, cb, rfl, -, -⟩ := hb
  go_enter Tryz.func88, Tryz.ntmps88
  go_wp2
  go_ret
  exact ⟨rfl, rfl⟩

/-- A desk in memory. -/
structure DK where
  p : Nat
  rv : Value
  bs : List UInt8
  n : Nat

def DK.own (k : DK) (b : Nat) : Prop := b = k.p ∨ k.rv.ownBlock = some b

structure DK.In (w : World) (k : DK) : Prop where
  top : w.heap[k.p]? = some (.cells #[k.rv, .int .i64 (k.n : Int)] 62 (0, 0))
  data : DataIs w k.rv k.bs
  ne : ¬ k.rv.ownBlock = some k.p
  fits : k.n ≤ k.bs.length
  short : k.bs.length ≤ 281474976710656

theorem DK.In.lt {w : World} {k : DK} (h : k.In w) {b : Nat} (hb : k.own b) : b < w.heap.size := hb.elim (fun e => by subst e; exact lt_of_heap h.top) (fun hb => h.data.lt b hb)

theorem DK.In.upd {S : Nat → Prop} {w w' : World} {k : DK} (h : k.In w) (hu : Upd S w w') (hn : ∀ b, k.own b → ¬ S b) : k.In w' :=
  ⟨hu.get h.top (hn _ (.inl rfl)), h.data.upd hu (fun b hb => hn b (.inr hb)), h.ne, h.fits, h.short⟩

/-- It has become k'; nothing else has turned, but for new blocks. -/
structure DStep (w w' : World) (k k' : DK) : Prop where
  ins : k'.In w'
  p : k'.p = k.p
  upd : Upd k.own w w'
  foot : ∀ b, k'.own b → k.own b ∨ w.heap.size ≤ b

/-- What is lent lies at the beginning of the room, marks behind it. -/
structure DK.Lent (k : DK) (data : List UInt8) : Prop where
  room : ∃ g c, k.rv = .slice (some ⟨g, 0, none⟩) k.bs.length c
  bs : k.bs = lent data k.bs.length
  n : k.n = data.length
  wide : 0 < k.bs.length

theorem run_copy_data {w : World} {g cap : Nat} {src : Value} {bs data : List UInt8} (hd : DataIs w (.slice (some ⟨g, 0, none⟩) bs.length cap) bs) (hb : BytesAt w src data) (hl : data.length ≤ bs.length) (ty : TypeId) :
    ∃ w', (Builtin.copy_ #[22, 22] ty #[.slice (some ⟨g, 0, none⟩) bs.length cap, src]).run Tryz.prog w = .ok (goInt data.length) w' ∧ DataIs w' (.slice (some ⟨g, 0, none⟩) bs.length cap) (data ++ bs.drop data.length) ∧ Upd (fun k => k = g) w w' := by
  obtain ⟨i0, hi, hz0, hz1, hz2⟩ := info_parts Tryz.infoByte
  have hs1 : (Tryz.prog.info? 5).map (·.size) = some 1 := by rw [hi]; simp [hz1]
  obtain ⟨ao, scap, rfl, hn0, hc⟩ := hb
  have hd0 := hd
  rcases hd with ⟨e, _⟩ | ⟨g', cap', cur, e, hg, hnc, hcs, hcm, htake⟩
  · cases e
  injection e with e1 _ e3
  injection e1 with e1; injection e1 with e1
  subst e1 e3
  by_cases h0 : data = []
  · subst h0
    refine ⟨w, ?_, by simpa using hd0, Upd.refl _ _⟩
    exact run_copy_none w _ _ ty 5 _ _ _ _ _ _ Tryz.underlying22 hs1 (by simp)
  · cases ao with
    | none => exact absurd (hn0 rfl).1 h0
    | some a =>
      have hr := run_copy_row (P := Tryz.prog) w 22 22 ty 5 g 0 bs.length cap a data.length scap cur 5 (data.map byteV) Tryz.underlying22 hs1 hg (by rw [List.length_map]; exact (Nat.min_eq_left hl).symm) (hc a rfl) (by simp; omega) (by intro u hu; obtain ⟨b, _, rfl⟩ := List.mem_map.1 hu; rfl)
      rw [List.length_map] at hr
      refine ⟨_, hr, ?_, ?_⟩
      · refine .inr ⟨g, cap, (cur.toList.take 0 ++ data.map byteV ++ cur.toList.drop (0 + data.length)).toArray, by simp; omega, ?_, by simp; omega, ?_, hcm, ?_⟩
        · simp only [World.setRow, Array.getElem?_modify, if_pos, hg, Option.map_some]
        · simp; omega
        · have hlen : (data ++ bs.drop data.length).length = bs.length := by simp; omega
          rw [hlen]
          simp only [List.take_zero, List.nil_append, Nat.zero_add]
          rw [List.map_append, List.map_drop, ← htake, List.drop_take]
          rw [List.take_append]
          simp
          rw [List.take_of_length_le (by simp; omega)]
      · refine ⟨rfl, rfl, rfl, by simp, fun k hk hn => ?_⟩
        simp only [World.setRow, Array.getElem?_modify]
        rw [if_neg (fun e => hn e.symm)]

set_option maxRecDepth 100000 in
set_option maxHeartbeats 1600000 in
theorem back_any {w : World} {k : DK} {bv : Value} {data : List UInt8} (hk : k.In w) (hl : k.Lent data) (hb : BytesAt w bv data) :
    Calls Tryz.prog 30 #[.pointer (some ⟨k.p, 0, none⟩), bv] w fun e w' => e = .returned (.bool true) ∧ ∃ m, w' = w.drewN m := by
  obtain ⟨g, c, hrv⟩ := hl.room
  have c0 : w.cell? ⟨k.p, 0, none⟩ = some (.slice (some ⟨g, 0, none⟩) k.bs.length c) := by rw [cell_of_row w _ 0 _ _ _ hk.top, ← hrv]; rfl
  have c1 : w.cell? ⟨k.p, 1, none⟩ = some (.int .i64 (data.length : Int)) := by rw [cell_of_row w _ 1 _ _ _ hk.top, ← hl.n]; rfl
  have hp : k.p < w.heap.size := lt_of_heap hk.top
  have hd := hk.data
  rw [hrv] at hd
  have hsh := hk.short
  have hfit : data.length ≤ k.bs.length := by have h1 := hk.fits; rw [hl.n] at h1; exact h1
  obtain ⟨ba, bc, hbv, -, -⟩ := id hb
  obtain ⟨ao, cc, he, hcap, hmx, -, -⟩ := hd.shape
  injection he with he1 he2 he3
  subst he3
  clear he1 he2
  have hmx' : c ≤ 9223372036854775807 := by simpa [maxLen] using hmx
  have hcell : ∀ i (hi : i < k.bs.length), w.cell? ⟨g, i, none⟩ = some (byteV k.bs[i]) ∧ g < w.heap.size := fun i hi => ⟨(hd.c_at hi).1, (hd.c_at hi).2.2⟩
  have hmk : ∀ i (hi : i < k.bs.length), data.length ≤ i → k.bs[i] = markB i := fun i hi h => by
    have e := hl.bs
    have h2 : k.bs[i]? = some (markB i) := by
      rw [e]
      unfold lent
      rw [List.getElem?_append_right h, List.getElem?_drop]
      have e2 : data.length + (i - data.length) = i := by omega
      rw [e2]
      simp [marks, hi]
    rw [List.getElem?_eq_getElem hi] at h2
    exact Option.some.inj h2
  have hsame : ∀ q, Calls Tryz.prog 88 #[.slice (some ⟨g, 0, none⟩) data.length c, bv] (w.drewN q) fun e w' => e = .returned (.bool true) ∧ w' = w.drewN q := fun q => by
    have h1 := (hd.upd ((Upd.refl (fun _ => False) w).drewN q) (fun _ _ h => h)).bytes
    have h2 := h1.take (n := data.length) hfit c (fun h => by cases h)
    have h3 : k.bs.take data.length = data := by rw [hl.bs]; unfold lent; rw [List.take_left']; rfl
    rw [h3] at h2
    have h4 : BytesAt (w.drewN q) bv data := by
      obtain ⟨x1, x2, x3, x4, x5⟩ := hb
      exact ⟨x1, x2, x3, x4, x5⟩
    exact (same1_any h2 h4).mono (by rintro e w' ⟨rfl, rfl⟩; exact ⟨by simp, rfl⟩)
  have HSAME := hid hsame; have HCELL := hid hcell; have HMK := hid hmk
  rw [hbv] at HSAME ⊢
  obtain ⟨N, hN⟩ : ∃ N, N = k.bs.length := ⟨_, rfl⟩
  obtain ⟨L, hL⟩ : ∃ L, L = data.length := ⟨_, rfl⟩
  have HN := hid hN; have HL := hid hL
  rw [← hN] at c0 hsh hcap hfit
  rw [← hL] at c1 hfit HSAME ⊢
  have hne : ((L : Int) != (L : Int)) = false := by simp
  have hLc : L ≤ c := by omega
  have hLc' : (L : Int) ≤ (c : Int) := by omega
  have hL0 : (0 : Int) ≤ (L : Int) := by omega
  clear hk hl hb hrv hd hbv hmx hcell hmk hsame hN hL
  go_enter Tryz.func30, Tryz.ntmps30
  go_wp2_with fail
  go_quiet ((go_at_call 88; exact Calls.quiet_of_same (HSAME.out _)))
  revert nq
  intro q0
  go_wp2
  go_loopw [5] (fun i wr => ∃ j : Nat, L ≤ j ∧ j ≤ N ∧ i = .int .i64 j ∧ Drawn w wr) (fun i _ => N - (intOf i).toNat)
  case atStart => exact ⟨L, Nat.le_refl _, hfit, rfl, ⟨q0, rfl⟩⟩
  case round =>
    obtain ⟨j, hj1, hj2, rfl, hdr⟩ := hrel
    have HDR := hid hdr
    have d0 : wr.cell? ⟨k.p, 0, none⟩ = some (.slice (some ⟨g, 0, none⟩) N c) := (hdr.cell _).trans c0
    have hpr : k.p < wr.heap.size := by rw [hdr.heap]; exact hp
    by_cases hlt : j < N
    · have hlt' : j < k.bs.length := by have := HN.out; omega
      have d2 : wr.cell? ⟨g, j, none⟩ = some (.int .u8 ((markB j).toNat : Int)) := by
        rw [hdr.cell, (HCELL.out j hlt').1, HMK.out j hlt' (by have := HL.out; omega)]
        rfl
      have hgr : g < wr.heap.size := by rw [hdr.heap]; exact (HCELL.out j hlt').2
      have HMA := hid (fun q => mark_any j (by omega) (wr.drewN q))
      generalize markB j = m at d2 HMA
      clear hdr hlt'
      go_wp2_with fail
      go_quiet ((go_at_call 84; exact Calls.quiet_of_same (HMA.out _)))
      go_wp2
      go_roundw
      case rel => exact ⟨j + 1, by omega, by omega, by go_num, HDR.out.drewN _⟩
      case measure => simp [intOf]; omega
    · obtain rfl : j = N := by omega
      clear hdr
      go_wp2
      go_ret
      exact ⟨rfl, HDR.out⟩

end Go.Proofs.YtgaidmohdhaonaaGreatDoor

namespace Go.Proofs.YtgaidmohdhaonaaGreatDoor
set_option linter.unusedVariables false
set_option linter.unusedSimpArgs false
set_option linter.unnecessarySimpa false
set_option linter.unusedSectionVars false
open Go Go.RowKit

def wipeU (b : UInt8) : UInt8 := UInt8.ofNat (bits .xor .u8 (b.toNat : Int) 255).toNat
theorem wipeU_val (b : UInt8) : ((wipeU b).toNat : Int) = bits .xor .u8 (b.toNat : Int) 255 := by
  have h : 0 ≤ bits .xor .u8 (b.toNat : Int) 255 ∧ bits .xor .u8 (b.toNat : Int) 255 < 256 := by
    unfold bits
    rw [IntKind.wrap_u8]
    omega
  unfold wipeU
  rw [UInt8.toNat_ofNat']
  omega

set_option maxRecDepth 100000 in
set_option maxHeartbeats 1600000 in
theorem wipe_any {w : World} {k : DK} (hk : k.In w) :
    Calls Tryz.prog 31 #[.pointer (some ⟨k.p, 0, none⟩)] w fun e w' => e = .returned (.tuple #[]) ∧ ∃ k', DStep w w' k k' := by
  obtain ⟨ao, cap, hrv, hcap, hmx, hnone, hsome⟩ := hk.data.shape
  have hmx' : cap ≤ 9223372036854775807 := by simpa [maxLen] using hmx
  have hfit := hk.fits
  have hsh := hk.short
  have HK := hid hk; have HRV := hid hrv; have HNONE := hid hnone; have HSOME := hid hsome
  obtain ⟨N, hN⟩ : ∃ N, N = k.bs.length := ⟨_, rfl⟩
  have HN := hid hN
  rw [← hN] at hfit hsh hcap
  have c0 : w.cell? ⟨k.p, 0, none⟩ = some (.slice ao N cap) := by rw [cell_of_row w _ 0 _ _ _ hk.top, hN, ← hrv]; rfl
  have c1 : w.cell? ⟨k.p, 1, none⟩ = some (.int .i64 (k.n : Int)) := by rw [cell_of_row w _ 1 _ _ _ hk.top]; rfl
  have hp : k.p < w.heap.size := lt_of_heap hk.top
  obtain ⟨n, hn⟩ : ∃ n, n = k.n := ⟨_, rfl⟩
  have HNN := hid hn
  rw [← hn] at c1 hfit
  clear hk hrv hmx hnone hsome hN hn
  go_enter Tryz.func31, Tryz.ntmps31
  go_wp2
  go_loopw [2] (fun i wr => ∃ j : Nat, j ≤ n ∧ i = .int .i64 j ∧ ∃ bs' : List UInt8, bs'.length = N ∧ DataIs wr k.rv bs' ∧ Upd (fun b => k.rv.ownBlock = some b) w wr) (fun i _ => n - (intOf i).toNat)
  case atStart => exact ⟨0, Nat.zero_le _, rfl, k.bs, HN.out.symm, HK.out.data, Upd.refl _ _⟩
  case round =>
    obtain ⟨j, hj, rfl, bs', hbl, hd, hup⟩ := hrel
    have d0 : wr.cell? ⟨k.p, 0, none⟩ = some (.slice ao N cap) := (World.cell?_of_block (a := ⟨k.p, 0, none⟩) (hup.block k.p hp HK.out.ne)).trans c0
    have d1 : wr.cell? ⟨k.p, 1, none⟩ = some (.int .i64 (n : Int)) := (World.cell?_of_block (a := ⟨k.p, 1, none⟩) (hup.block k.p hp HK.out.ne)).trans c1
    have hpr : k.p < wr.heap.size := Nat.lt_of_lt_of_le hp hup.size
    have HBL := hid hbl; have HD := hid hd; have HUP := hid hup
    by_cases hlt : j < n
    · have hjN : j < N := by omega
      obtain ⟨g, rfl⟩ : ∃ g, ao = some ⟨g, 0, none⟩ := by
        cases ao with
        | none => have h := (HNONE.out rfl).1; have h2 := HN.out; rw [h] at h2; simp at h2; omega
        | some a =>
          obtain ⟨z1, z2, -, -⟩ := HSOME.out a rfl
          obtain ⟨g, o, s⟩ := a
          simp only at z1 z2
          subst z1 z2
          exact ⟨g, rfl⟩
      have hd2 : DataIs wr (.slice (some ⟨g, 0, none⟩) bs'.length cap) bs' := by rw [hbl, HN.out, ← HRV.out]; exact hd
      have hjb : j < bs'.length := by omega
      obtain ⟨e0, e1, e2⟩ := hd2.c_at hjb
      have hset := hd2.setAt hjb (wipeU bs'[j])
      have hval := wipeU_val (bs'[j]'hjb)
      obtain ⟨x0, hx0⟩ : ∃ x0, x0 = bs'[j]'hjb := ⟨_, rfl⟩
      obtain ⟨y0, hy0⟩ : ∃ y0, y0 = wipeU (bs'[j]'hjb) := ⟨_, rfl⟩
      rw [← hx0] at e0 hval hy0
      rw [← hx0, ← hy0] at hset
      rw [← hy0] at hval
      simp only [byteV] at e0
      have HVAL := hid hval; have HSET := hid hset
      have hgp : g ≠ k.p := fun e => HK.out.ne (by rw [HRV.out, ← e]; rfl)
      clear hbl hd hup hd2 hset hval hx0 hy0 hjb
      go_wp2_with fail
      go_region
      all_goals
        rw [← HVAL.out]
        have HFIN := hid (show ∃ bs2 : List UInt8, bs2.length = N ∧ DataIs (wr.setCell ⟨g, j, none⟩ (.int .u8 (y0.toNat : Int))).drew k.rv bs2 ∧ Upd (fun b => k.rv.ownBlock = some b) w (wr.setCell ⟨g, j, none⟩ (.int .u8 (y0.toNat : Int))).drew from ⟨bs'.set j y0, by simpa using HBL.out, by
          have h := HSET.out
          rw [HBL.out, HN.out, ← HRV.out] at h
          exact h.of_block (fun b hb => rfl), (HUP.out.setCell (p := ⟨g, j, none⟩) (fun _ => by rw [HRV.out]; rfl) _).drew⟩)
        clear HSET
        go_wp2
        go_roundw
        case rel => exact ⟨j + 1, by omega, by go_num, HFIN.out⟩
        case measure => simp [intOf]; omega
    · obtain rfl : j = n := by omega
      clear hbl hd hup
      go_wp2
      go_end0
      have hfz := HK.out.fits
      exact ⟨rfl, { k with bs := bs' }, ⟨⟨HUP.out.get HK.out.top HK.out.ne, HD.out, HK.out.ne, by show k.n ≤ bs'.length; rw [HBL.out]; have := HN.out; omega, by show bs'.length ≤ _; rw [HBL.out]; exact hsh⟩, rfl, HUP.out.mono (fun b _ hb => .inr hb), fun b hb => .inl hb⟩⟩

end Go.Proofs.YtgaidmohdhaonaaGreatDoor

namespace Go.Proofs.YtgaidmohdhaonaaGreatDoor
set_option linter.unusedVariables false
set_option linter.unusedSimpArgs false
set_option linter.unnecessarySimpa false
set_option linter.unusedSectionVars false
open Go Go.RowKit

theorem set_step {A B : List UInt8} (h : A.length = B.length) {j : Nat} (hj : j < A.length) : (A.take j ++ B.drop j).set j A[j] = A.take (j + 1) ++ B.drop (j + 1) := by
  rw [List.drop_eq_getElem_cons (by omega)]
  have h1 := set_middle (A.take j) (B[j]'(by omega)) A[j] (B.drop (j + 1))
  have h2 : (A.take j).length = j := by simp; omega
  rw [h2] at h1
  rw [h1, List.take_succ_eq_append_getElem hj, List.append_assoc]
  rfl

theorem lent_length {data : List UInt8} {N : Nat} (h : data.length ≤ N) : (lent data N).length = N := by
  unfold lent
  rw [List.length_append, List.length_drop, marks_length]
  omega

set_option maxRecDepth 100000 in
set_option maxHeartbeats 3200000 in
theorem lend_any {w : World} {k : DK} {bv : Value} {data : List UInt8} (hk : k.In w) (hb : BytesAt w bv data) (hout : ∀ a l c, bv = .slice (some a) l c → 0 < l → ¬ k.own a.block ∧ a.block < w.heap.size) (hd : data.length ≤ 140737488355000) :
    Calls Tryz.prog 28 #[.pointer (some ⟨k.p, 0, none⟩), bv] w fun e w' => ∃ k' g c, e = .returned (.slice (some ⟨g, 0, none⟩) data.length c) ∧ DStep w w' k k' ∧ k'.Lent data ∧ k'.rv = .slice (some ⟨g, 0, none⟩) k'.bs.length c := by
  obtain ⟨ao, cap, hrv, hcap, hmx, hnone, hsome⟩ := hk.data.shape
  have hmx' : cap ≤ 9223372036854775807 := by simpa [maxLen] using hmx
  have hsh := hk.short
  have HK := hid hk; have HRV := hid hrv; have HNONE := hid hnone; have HSOME := hid hsome; have HB := hid hb; have HOUT := hid hout
  obtain ⟨ba, bc, hbv, -, -⟩ := id hb
  have HBV := hid hbv
  obtain ⟨N, hN⟩ : ∃ N, N = k.bs.length := ⟨_, rfl⟩
  obtain ⟨L, hL⟩ : ∃ L, L = data.length := ⟨_, rfl⟩
  have HN := hid hN; have HL := hid hL
  have c0 : w.cell? ⟨k.p, 0, none⟩ = some (.slice ao N cap) := by rw [cell_of_row w _ 0 _ _ _ hk.top, hN, ← hrv]; rfl
  have f0 : w.frozen? ⟨k.p, 0, none⟩ = false := frozen_of_row _ _ _ _ _ hk.top
  have hp : k.p < w.heap.size := lt_of_heap hk.top
  rw [hbv, ← hL]
  rw [← hN] at hsh hcap
  rw [← hL] at hd
  clear hk hb hout hrv hmx hnone hsome hbv hN hL
  go_enter Tryz.func28, Tryz.ntmps28
  go_upto_if 15 with fail
  go_cut [] (fun wx => ∃ k1 : DK, DStep w wx k k1 ∧ 2 * L + 70 ≤ k1.bs.length ∧ ∃ g c, k1.rv = .slice (some ⟨g, 0, none⟩) k1.bs.length c)
  case first =>
    by_cases hsm : N < 2 * L + 70
    · have hsm' : (N : Int) < 2 * (L : Int) + 70 := by omega
      obtain ⟨M, hM⟩ : ∃ M, M = 2 * L + 512 := ⟨_, rfl⟩
      have hM' : 2 * (L : Int) + 512 = (M : Int) := by omega
      obtain ⟨i0, hi0, hz0, hz1, hz2⟩ := info_parts Tryz.infoByte
      have hmk := run_make_row' (P := Tryz.prog) 22 5 (.int .u8 0) 1 Tryz.underlying22 (by rw [hi0]; simp [hz0, hz1, hz2]) rfl .i64 .i64 M (by omega) (by omega) w
      have hu1 : Upd k.own w ((w.setCell ⟨k.p, 0, none⟩ (.slice (some ⟨w.heap.size, 0, none⟩) M M)).alloc (.cells (madeCells #[.int .u8 0] M) 5)) := ((Upd.refl k.own w).setCell (p := ⟨k.p, 0, none⟩) (fun _ => .inl rfl) _).alloc _
      have hst : DStep w ((w.setCell ⟨k.p, 0, none⟩ (.slice (some ⟨w.heap.size, 0, none⟩) M M)).alloc (.cells (madeCells #[.int .u8 0] M) 5)) k ⟨k.p, .slice (some ⟨w.heap.size, 0, none⟩) M M, List.replicate M 0, k.n⟩ := by
        refine ⟨⟨?_, ?_, ?_, ?_, ?_⟩, rfl, hu1, fun b hb => ?_⟩
        · rw [heap_alloc_past _ _ _ (by simpa using hp)]
          exact heap_setCell_at _ _ _ _ _ _ HK.out.top
        · refine .inr ⟨w.heap.size, M, madeCells #[.int .u8 0] M, by simp, ?_, by simp, by rw [size_madeCells]; exact Nat.le_refl _, by unfold maxLen; omega, ?_⟩
          · have h := heap_alloc_new (w.setCell ⟨k.p, 0, none⟩ (.slice (some ⟨w.heap.size, 0, none⟩) M M)) (.cells (madeCells #[.int .u8 0] M) 5)
            simpa using h
          · rw [List.length_replicate, List.take_of_length_le (by simp [size_madeCells])]
            apply List.ext_getElem?
            intro i
            by_cases hi : i < M
            · simp [madeCells, hi, byteV, Nat.mod_one]
            · simp [madeCells, hi]
        · intro e
          have e' : w.heap.size = k.p := Option.some.inj e
          omega
        · show k.n ≤ (List.replicate M (0 : UInt8)).length
          have h1 := HK.out.fits; have h2 := HN.out
          rw [List.length_replicate]; omega
        · show (List.replicate M (0 : UInt8)).length ≤ _
          rw [List.length_replicate]; omega
        · rcases hb with hb | hb
          · exact .inl (.inl hb)
          · have e' : w.heap.size = b := Option.some.inj hb
            exact .inr (by omega)
      have HST := hid hst
      clear hi0 hz0 hz1 hz2 hu1 hst hM
      go_wp2
      go_meet
      case rel => exact ⟨_, HST.out, by show 2 * L + 70 ≤ (List.replicate M (0 : UInt8)).length; rw [List.length_replicate]; omega, _, _, by show _ = Value.slice _ (List.replicate M (0 : UInt8)).length _; rw [List.length_replicate]⟩
    · have hsm' : ¬ (N : Int) < 2 * (L : Int) + 70 := by omega
      go_wp2
      go_meet
      case rel =>
        refine ⟨k, ⟨HK.out, rfl, Upd.refl _ _, fun b hb => .inl hb⟩, by have := HN.out; omega, ?_⟩
        cases ao with
        | none => have h := (HNONE.out rfl).1; have h2 := HN.out; rw [h] at h2; simp at h2; omega
        | some a =>
          obtain ⟨z1, z2, -, -⟩ := HSOME.out a rfl
          obtain ⟨g, o, s⟩ := a
          simp only at z1 z2
          subst z1 z2
          exact ⟨g, cap, HRV.out⟩
  case rest =>
    obtain ⟨k1, hst, hbig, g, c, hrv1⟩ := hcut
    have HST := hid hst
    have hk1 := hst.ins
    have hp1 : k1.p = k.p := hst.p
    have hsh1 := hk1.short
    obtain ⟨N1, hN1⟩ : ∃ N1, N1 = k1.bs.length := ⟨_, rfl⟩
    have HN1 := hid hN1
    have hcp : k1.bs.length ≤ c ∧ c ≤ 9223372036854775807 := by
      obtain ⟨xo, xc, xe, xl, xm, -, -⟩ := hk1.data.shape
      rw [hrv1] at xe
      injection xe with _ _ xe3
      subst xe3
      exact ⟨xl, by simpa [maxLen] using xm⟩
    rw [← hN1] at hbig hrv1 hcp hsh1
    obtain ⟨hcp1, hcp2⟩ := hcp
    have c0' : wc.cell? ⟨k.p, 0, none⟩ = some (.slice (some ⟨g, 0, none⟩) N1 c) := by rw [← hp1, cell_of_row wc _ 0 _ _ _ hk1.top, ← hrv1]; rfl
    have hpc : k.p < wc.heap.size := by rw [← hp1]; exact lt_of_heap hk1.top
    have hgp : g ≠ k.p := fun e => hk1.ne (by rw [hrv1, hp1, e]; rfl)
    have hd1 : DataIs wc (.slice (some ⟨g, 0, none⟩) k1.bs.length c) k1.bs := by rw [← hN1, ← hrv1]; exact hk1.data
    have HD1 := hid hd1; have HRV1 := hid hrv1
    clear hst hk1 hp1 hN1 hrv1 hd1
    go_wp2
    go_loopw [5] (fun i wr => ∃ j : Nat, j ≤ N1 ∧ i = .int .i64 j ∧ ∃ xs : List UInt8, xs.length = N1 ∧ xs = (marks N1).take j ++ k1.bs.drop j ∧ DataIs wr (.slice (some ⟨g, 0, none⟩) xs.length c) xs ∧ Upd (fun b => b = g) wc wr) (fun i _ => N1 - (intOf i).toNat)
    case atStart => exact ⟨0, Nat.zero_le _, rfl, k1.bs, HN1.out.symm, by simp, HD1.out, Upd.refl _ _⟩
    case round =>
      obtain ⟨j, hj, rfl, xs, hxl, hxe, hdx, hup⟩ := hrel
      have HXL := hid hxl; have HXE := hid hxe; have HDX := hid hdx; have HUP := hid hup
      have d0 : wr.cell? ⟨k.p, 0, none⟩ = some (.slice (some ⟨g, 0, none⟩) N1 c) := (World.cell?_of_block (a := ⟨k.p, 0, none⟩) (hup.block k.p hpc (fun e => hgp e.symm))).trans c0'
      have hpr : k.p < wr.heap.size := Nat.lt_of_lt_of_le hpc hup.size
      by_cases hlt : j < N1
      · have hjx : j < xs.length := by omega
        obtain ⟨e0, e1, e2⟩ := hdx.c_at hjx
        have hset := hdx.setAt hjx (markB j)
        have hse : xs.set j (markB j) = (marks N1).take (j + 1) ++ k1.bs.drop (j + 1) := by
          rw [hxe]
          have h := set_step (A := marks N1) (B := k1.bs) (by rw [marks_length]; exact HN1.out) (j := j) (by rw [marks_length]; exact hlt)
          rw [← h]
          simp [marks]
        obtain ⟨x0, hx0⟩ : ∃ x0, x0 = xs[j]'hjx := ⟨_, rfl⟩
        rw [← hx0] at e0
        simp only [byteV] at e0
        have HMA := hid (mark_any j (by omega))
        obtain ⟨m, hm⟩ : ∃ m, m = markB j := ⟨_, rfl⟩
        rw [← hm] at hset hse HMA
        have HSET := hid hset; have HSE := hid hse
        clear hxl hxe hdx hup hset hse hx0 hm hjx
        go_wp2_with fail
        go_region_law ((go_simp; go_at_call 84; refine (HMA.out _).mono ?_; rintro e w' ⟨rfl, hww⟩; obtain rfl := hww.symm))
        all_goals
          have HFIN := hid (show ∃ xs2 : List UInt8, xs2.length = N1 ∧ xs2 = (marks N1).take (j + 1) ++ k1.bs.drop (j + 1) ∧ DataIs (wr.setCell ⟨g, j, none⟩ (.int .u8 (m.toNat : Int))).drew (.slice (some ⟨g, 0, none⟩) xs2.length c) xs2 ∧ Upd (fun b => b = g) wc (wr.setCell ⟨g, j, none⟩ (.int .u8 (m.toNat : Int))).drew from ⟨xs.set j m, by rw [List.length_set]; exact HXL.out, HSE.out, by
            have h := HSET.out
            rw [List.length_set]
            exact h.of_block (fun b hb => rfl), (HUP.out.setCell (p := ⟨g, j, none⟩) (fun _ => rfl) _).drew⟩)
          clear HSET
          go_wp2
          go_roundw
          case rel => exact ⟨j + 1, by omega, by go_num, HFIN.out⟩
          case measure => simp [intOf]; omega
      · obtain rfl : j = N1 := by omega
        have hxe2 : xs = marks j := by
          rw [hxe, List.take_of_length_le (by rw [marks_length]; exact Nat.le_refl _), List.drop_eq_nil_of_le (by have := HN1.out; omega), List.append_nil]
        have hbwr : BytesAt wr bv data := HB.out.upd (HST.out.upd.trans hup (fun q hq e => by
          subst e
          refine (HST.out.foot q (.inr (by rw [HRV1.out]; rfl))).elim id (fun h => by omega))) (fun a l cc e h0 => ⟨(HOUT.out a l cc e h0).1, (HOUT.out a l cc e h0).2⟩)
        rw [HBV.out] at hbwr
        obtain ⟨w5, hrun5, hd5, hu5⟩ := run_copy_data hdx hbwr (by have := HL.out; omega) 3
        have hlent : data ++ xs.drop data.length = lent data j := by rw [hxe2]; rfl
        rw [hlent] at hd5
        rw [hxl] at hrun5 hd5
        rw [← HL.out] at hrun5
        have htop5 : w5.heap[k.p]? = some (.cells #[.slice (some ⟨g, 0, none⟩) j c, .int .i64 (k1.n : Int)] 62 (0, 0)) := by
          have h1 := HST.out.ins.top
          rw [HST.out.p, HRV1.out] at h1
          exact hu5.get (hup.get h1 (fun e => hgp e.symm)) (fun e => hgp e.symm)
        have e0 : w5.cell? ⟨k.p, 0, none⟩ = some (.slice (some ⟨g, 0, none⟩) j c) := by rw [cell_of_row w5 _ 0 _ _ _ htop5]; rfl
        have e1 : w5.cell? ⟨k.p, 1, none⟩ = some (.int .i64 (k1.n : Int)) := by rw [cell_of_row w5 _ 1 _ _ _ htop5]; rfl
        have e2 : w5.frozen? ⟨k.p, 1, none⟩ = false := frozen_of_row _ _ _ _ _ htop5
        have hp5 : k.p < w5.heap.size := lt_of_heap htop5
        have htop6 := heap_setCell_at w5 k.p 1 _ _ (.int .i64 (L : Int)) htop5
        have hu6 : Upd k.own w (w5.setCell ⟨k.p, 1, none⟩ (.int .i64 (L : Int))) := by
          refine Upd.setCell (p := ⟨k.p, 1, none⟩) ((HST.out.upd.trans hup (fun q hq e => ?_)).trans hu5 (fun q hq e => ?_)) (fun _ => .inl rfl) _
          · subst e
            exact (HST.out.foot q (.inr (by rw [HRV1.out]; rfl))).elim id (fun h => by omega)
          · subst e
            exact (HST.out.foot q (.inr (by rw [HRV1.out]; rfl))).elim id (fun h => by omega)
        have hlen := lent_length (data := data) (N := j) (by have := HL.out; omega)
        have hfin : DStep w (w5.setCell ⟨k.p, 1, none⟩ (.int .i64 (L : Int))) k ⟨k.p, .slice (some ⟨g, 0, none⟩) j c, lent data j, L⟩ := by
          refine ⟨⟨htop6, ?_, ?_, ?_, ?_⟩, rfl, hu6, fun b hb => ?_⟩
          · show DataIs (w5.setCell ⟨k.p, 1, none⟩ (.int .i64 (L : Int))) (.slice (some ⟨g, 0, none⟩) j c) (lent data j)
            exact hd5.of_block (fun b hb => by
              have e : g = b := Option.some.inj hb
              subst e
              exact heap_setCell_ne _ _ _ _ hgp)
          · intro e
            exact hgp (Option.some.inj e)
          · show L ≤ (lent data j).length
            rw [hlen]; omega
          · show (lent data j).length ≤ _
            rw [hlen]; exact hsh1
          · rcases hb with hb | hb
            · exact .inl (.inl hb)
            · have e : g = b := Option.some.inj hb
              subst e
              exact (HST.out.foot g (.inr (by rw [HRV1.out]; rfl)))
        have HFIN := hid hfin; have HR5 := hid hrun5; have HLEN := hid hlen
        clear hxl hxe hdx hup hxe2 hbwr hrun5 hd5 hu5 hlent htop5 htop6 hu6 hlen hfin
        have hLc : L ≤ c := by omega
        have hLc' : (L : Int) ≤ (c : Int) := by omega
        go_wp2_with (refine Go.Lib.wpList_copy_run _ rfl _ _ 22 22 rfl _ _ rfl rfl HR5.out ?_)
        go_ret
        exact ⟨_, g, c, rfl, HFIN.out, ⟨⟨g, c, by show _ = Value.slice _ (lent data j).length _; rw [HLEN.out]⟩, by show lent data j = lent data (lent data j).length; rw [HLEN.out], HL.out, by show 0 < (lent data j).length; rw [HLEN.out]; omega⟩, by show _ = Value.slice _ (lent data j).length _; rw [HLEN.out]⟩

end Go.Proofs.YtgaidmohdhaonaaGreatDoor
