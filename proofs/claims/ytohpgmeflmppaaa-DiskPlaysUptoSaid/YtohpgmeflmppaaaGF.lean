/-
  Package stratalaw4, walked: num, name, act, made.
  Package stratalaw4, walked: same, begins, find, made.
  What a Crash leaves, file by file (plain lists; no program in sight); a disk of the law's own; a list of acts that came in.
-/
import Derived.Test.YtohpgmeflmppaaaGE
import Derived.Deep.RegionHeld3
import Derived.Laws.ResultCell
import Derived.Handy
namespace Go.Proofs.Ytohpgmeflmppaaa
set_option linter.unusedVariables false
set_option linter.unusedSimpArgs false
set_option linter.unnecessarySimpa false
set_option linter.unusedSectionVars false
open Go Go.RowKit

/-- 'string(b)'. -/
theorem run_string_of {w : World} {v : Value} {bs : List UInt8} (h : BytesAt w v bs) : (convert 30 9 v).run Try.prog w = .ok (.string (toBA bs)) w := by
  obtain ⟨ao, cap, rfl, hn, hs⟩ := h
  cases ao with
  | none =>
    obtain ⟨rfl, rfl⟩ := hn rfl
    exact run_convert_bytes_nil w 30 5 Try.underlying30 Try.underlying5 _ _ 9 Try.underlying9
  | some a =>
    exact run_convert_bytes_back w 30 9 5 a cap bs Try.underlying30 Try.underlying5 Try.underlying9 (fun j hj => hs a rfl j _ (by rw [List.getElem?_map, List.getElem?_eq_getElem hj]; rfl))

theorem one_byte (w : World) (b : UInt8) : (convert 30 9 (.slice (some ⟨w.heap.size, 0, none⟩) 1 1)).run Try.prog (w.alloc (.cells #[byteV b] 5)) = .ok (.string (toBA [b])) (w.alloc (.cells #[byteV b] 5)) := by
  refine run_string_of (bs := [b]) ⟨some ⟨w.heap.size, 0, none⟩, 1, rfl, (fun h => by cases h), fun a ha j u hu => ?_⟩
  cases ha
  match j, hu with
  | 0, hu => simp at hu; subst hu; simp [Addr.add]

/-- The name of the file of a number. -/
def fileName (n : Int) : ByteArray := toBA [102, 47, UInt8.ofNat (97 + (n % 8).toNat)]

theorem num_any (n : Int) (w : World) : Calls Try.prog 13 #[.int .i64 n] w fun e w' => e = .returned (.int .i64 n) ∧ w' = w := by
  go_enter Try.func13, Try.ntmps13
  go_wp2
  go_ret
  exact ⟨rfl, rfl⟩

set_option maxRecDepth 100000 in
set_option maxHeartbeats 1600000 in
theorem name_any (n : Int) (w : World) : Calls Try.prog 19 #[.int .i64 n] w fun e w' => e = .returned (.string (fileName n)) ∧ Upd (fun _ => False) w w' := by
  have hq := Int.mul_tdiv_add_tmod n 8
  have hb1 : -8 < n.tmod 8 := by have := Int.lt_tmod_of_pos n (show (0 : Int) < 8 by decide); omega
  have hb2 : n.tmod 8 < 8 := Int.tmod_lt_of_pos n (by decide)
  obtain ⟨r, hr⟩ : ∃ r, r = n.tmod 8 := ⟨_, rfl⟩
  rw [← hr] at hq hb1 hb2
  have hm : n % 8 = r % 8 := by omega
  have hf : fileName n = toBA [102, 47, UInt8.ofNat (97 + (r % 8).toNat)] := by unfold fileName; rw [hm]
  rw [hf]
  clear hf hm hq
  have hr' := hr.symm
  clear hr
  have k97 : (convert 30 9 (.slice (some ⟨w.heap.size, 0, none⟩) 1 1)).run Try.prog (w.alloc (.cells #[.int .u8 97] 5)) = .ok (.string (toBA [97])) (w.alloc (.cells #[.int .u8 97] 5)) := one_byte w 97
  have k98 : (convert 30 9 (.slice (some ⟨w.heap.size, 0, none⟩) 1 1)).run Try.prog (w.alloc (.cells #[.int .u8 98] 5)) = .ok (.string (toBA [98])) (w.alloc (.cells #[.int .u8 98] 5)) := one_byte w 98
  have k99 : (convert 30 9 (.slice (some ⟨w.heap.size, 0, none⟩) 1 1)).run Try.prog (w.alloc (.cells #[.int .u8 99] 5)) = .ok (.string (toBA [99])) (w.alloc (.cells #[.int .u8 99] 5)) := one_byte w 99
  have k100 : (convert 30 9 (.slice (some ⟨w.heap.size, 0, none⟩) 1 1)).run Try.prog (w.alloc (.cells #[.int .u8 100] 5)) = .ok (.string (toBA [100])) (w.alloc (.cells #[.int .u8 100] 5)) := one_byte w 100
  have k101 : (convert 30 9 (.slice (some ⟨w.heap.size, 0, none⟩) 1 1)).run Try.prog (w.alloc (.cells #[.int .u8 101] 5)) = .ok (.string (toBA [101])) (w.alloc (.cells #[.int .u8 101] 5)) := one_byte w 101
  have k102 : (convert 30 9 (.slice (some ⟨w.heap.size, 0, none⟩) 1 1)).run Try.prog (w.alloc (.cells #[.int .u8 102] 5)) = .ok (.string (toBA [102])) (w.alloc (.cells #[.int .u8 102] 5)) := one_byte w 102
  have k103 : (convert 30 9 (.slice (some ⟨w.heap.size, 0, none⟩) 1 1)).run Try.prog (w.alloc (.cells #[.int .u8 103] 5)) = .ok (.string (toBA [103])) (w.alloc (.cells #[.int .u8 103] 5)) := one_byte w 103
  have k104 : (convert 30 9 (.slice (some ⟨w.heap.size, 0, none⟩) 1 1)).run Try.prog (w.alloc (.cells #[.int .u8 104] 5)) = .ok (.string (toBA [104])) (w.alloc (.cells #[.int .u8 104] 5)) := one_byte w 104
  obtain rfl | rfl | rfl | rfl | rfl | rfl | rfl | rfl | rfl | rfl | rfl | rfl | rfl | rfl | rfl : r = -7 ∨ r = -6 ∨ r = -5 ∨ r = -4 ∨ r = -3 ∨ r = -2 ∨ r = -1 ∨ r = 0 ∨ r = 1 ∨ r = 2 ∨ r = 3 ∨ r = 4 ∨ r = 5 ∨ r = 6 ∨ r = 7 := by omega
  all_goals
    go_enter Try.func19, Try.ntmps19
    go_wp2
    go_ret
    exact ⟨congrArg (fun x => Ending.returned (Value.string x)) (by first | rfl | decide), (Upd.refl _ _).alloc _⟩

/-- One act, as it was handed in. -/
structure DidA where
  kind : Int
  file : Int
  to : Int
  b : List UInt8
  bv : Value

def DidA.cells (x : DidA) : Array Value := #[.int .i64 x.kind, .int .i64 x.file, .int .i64 x.to, x.bv]

/-- What it makes of a disk. -/
def didA (s : DS) (x : DidA) : Int × DiskA :=
  if x.kind = 1 then createA s (fileName x.file)
  else if x.kind = 2 then appendA s (fileName x.file) x.b
  else if x.kind = 3 then syncA s (fileName x.file)
  else if x.kind = 4 then renameA s (fileName x.file) (fileName x.to)
  else if x.kind = 5 then deleteA s (fileName x.file)
  else (0, s.abs)

/-- Its bytes can be read, and lie elsewhere than the disk. -/
structure DidA.Ok (w : World) (s : DS) (x : DidA) : Prop where
  bytes : BytesAt w x.bv x.b
  away : ∀ a l c, x.bv = .slice (some a) l c → 0 < l → a.block ∉ s.blocks ∧ a.block < w.heap.size

theorem BytesAt.upd {S : Nat → Prop} {w w' : World} {v : Value} {bs : List UInt8} (h : BytesAt w v bs) (hu : Upd S w w') (hn : ∀ a l c, v = .slice (some a) l c → 0 < l → ¬ S a.block ∧ a.block < w.heap.size) : BytesAt w' v bs := by
  obtain ⟨ao, cap, rfl, h1, h2⟩ := h
  refine ⟨ao, cap, rfl, h1, fun a ha j u hu' => ?_⟩
  subst ha
  have h0l : 0 < bs.length := by
    rcases Nat.eq_zero_or_pos bs.length with h | h
    · rw [List.getElem?_eq_none (by simp; omega)] at hu'; cases hu'
    · exact h
  obtain ⟨n1, n2⟩ := hn a _ _ rfl h0l
  rw [← h2 a rfl j u hu']
  have hab : (a.add j).block = a.block := by unfold Addr.add; split <;> rfl
  exact World.cell?_of_block (w := w) (by rw [hab]; exact hu.block a.block n2 n1)

set_option maxRecDepth 100000 in
set_option maxHeartbeats 3200000 in
theorem act4_any {w : World} {s : DS} (hs : s.In w) {x : DidA} (hx : x.Ok w s) :
    Calls Try.prog 14 #[.pointer (some ⟨s.p, 0, none⟩), .agg x.cells] w fun e w' => e = .returned (.int .i64 (didA s x).1) ∧ ∃ s2, Step w w' s s2 ∧ s2.abs = (didA s x).2 := by
  obtain ⟨kind, file, to, b, bv⟩ := x
  obtain ⟨hb, ha⟩ := hx
  simp only at hb ha
  obtain ⟨ao, cap, hbv, hb1, hb2⟩ := hb
  subst hbv
  unfold DidA.cells didA
  simp only
  have hu1 : Upd (fun _ => False) w (w.alloc (.cells #[.int .i64 kind, .int .i64 file, .int .i64 to, .slice ao b.length cap] 32)) := (Upd.refl _ _).alloc _
  have hin := hs.upd hu1 (fun _ _ h => h)
  have hplt := hs.plt
  have HIN := hid hin; have HU1 := hid hu1; have HS := hid hs
  have HB := hid (show BytesAt w (.slice ao b.length cap) b from ⟨ao, cap, rfl, hb1, hb2⟩)
  have HA := hid ha
  clear hin hu1 hs hb1 hb2 ha
  by_cases k1 : kind = 1
  · rw [if_pos k1]
    subst k1
    go_enter Try.func14, Try.ntmps14
    go_wp2_with fail
    refine (name_any _ _).mono ?_
    rintro e w1 ⟨rfl, hu⟩
    have hin1 := HIN.out.upd hu (fun _ _ h => h)
    have HU := hid hu; have HIN1 := hid hin1
    clear hu hin1
    go_wp2_with fail
    refine (create_any HIN1.out _).mono ?_
    rintro e w2 ⟨rfl, s2, hst, habs⟩
    have H1 := hid hst; have H2 := hid habs
    clear hst habs
    go_wp2
    go_ret
    exact ⟨rfl, s2, ((Step.of_upd HS.out HU1.out).trans (Step.of_upd HIN.out HU.out)).trans H1.out, H2.out⟩
  rw [if_neg k1]
  by_cases k2 : kind = 2
  · rw [if_pos k2]
    subst k2
    clear k1
    go_enter Try.func14, Try.ntmps14
    go_wp2_with fail
    have hdr : Upd (fun _ => False) w ((w.alloc (.cells #[.int .i64 2, .int .i64 file, .int .i64 to, .slice ao b.length cap] 32)).drew) := HU1.out.drew
    have HDR := hid hdr
    have HIN2 := hid (HS.out.upd hdr (fun _ _ h => h))
    have hnb : w.heap.size ∉ s.blocks := fun hm => by have := HS.out.lt _ hm; omega
    have HNB := hid hnb
    clear hdr hnb
    go_region_held3 (fun W => W.cell? ⟨w.heap.size, 1, none⟩ = some (.int .i64 file) ∧ W.cell? ⟨w.heap.size, 3, none⟩ = some (.slice ao b.length cap))
      (first
        | go_keep
        | (go_split_ands
           refine ⟨?_, ?_⟩
           · (first | (rw [World.cell?_of_block (w := (w.alloc (.cells #[.int .i64 2, .int .i64 file, .int .i64 to, .slice ao b.length cap] 32)).drew) (hu.block w.heap.size (by simp) (fun h => h))]; simp [go_sem]; done) | (rw [hst.other HNB.out (by have := hu.size; simp at this; omega)]; assumption))
           · (first | (rw [World.cell?_of_block (w := (w.alloc (.cells #[.int .i64 2, .int .i64 file, .int .i64 to, .slice ao b.length cap] 32)).drew) (hu.block w.heap.size (by simp) (fun h => h))]; simp [go_sem]; done) | (rw [hst.other HNB.out (by have := hu.size; simp at this; omega)]; assumption))))
      (first
        | (go_at_call 19; refine (name_any _ _).mono ?_; rintro e w1 ⟨rfl, hu⟩; have hin1 := HIN2.out.upd hu (fun _ _ h => h); have hby1 := HB.out.upd (HDR.out.trans hu (fun _ _ h => h)) (fun a l c h h0 => ⟨fun h => h, (HA.out a l c h h0).2⟩); have haw1 : ∀ (a : Addr) (l c : Nat), Value.slice ao b.length cap = Value.slice (some a) l c → 0 < l → a.block ≠ s.p ∧ a.block < w1.heap.size := fun a l c h h0 => ⟨fun e => (HA.out a l c h h0).1 (by simp [DS.blocks, e]), Nat.lt_of_lt_of_le (HA.out a l c h h0).2 (HDR.out.trans hu (fun _ _ h => h)).size⟩)
        | (go_at_call 31; refine (append_any (by assumption) _ (by assumption) (by assumption)).mono ?_; rintro e w2 ⟨rfl, s2, hst, habs⟩))
    have H1 := hid (((Step.of_upd HS.out HDR.out).trans (Step.of_upd HIN2.out hu)).trans hst)
    have H2 := hid habs
    clear hu hin1 hby1 haw1 hst habs
    go_wp2
    go_ret
    exact ⟨rfl, s2, H1.out, H2.out⟩
  rw [if_neg k2]
  by_cases k3 : kind = 3
  · rw [if_pos k3]
    subst k3
    clear k1 k2
    go_enter Try.func14, Try.ntmps14
    go_wp2_with fail
    refine (name_any _ _).mono ?_
    rintro e w1 ⟨rfl, hu⟩
    have hin1 := HIN.out.upd hu (fun _ _ h => h)
    have HU := hid hu; have HIN1 := hid hin1
    clear hu hin1
    go_wp2_with fail
    refine (sync_any HIN1.out _).mono ?_
    rintro e w2 ⟨rfl, s2, hst, habs⟩
    have H1 := hid hst; have H2 := hid habs
    clear hst habs
    go_wp2
    go_ret
    exact ⟨rfl, s2, ((Step.of_upd HS.out HU1.out).trans (Step.of_upd HIN.out HU.out)).trans H1.out, H2.out⟩
  rw [if_neg k3]
  by_cases k4 : kind = 4
  · rw [if_pos k4]
    subst k4
    clear k1 k2 k3
    go_enter Try.func14, Try.ntmps14
    go_wp2_with fail
    have hdr : Upd (fun _ => False) w ((w.alloc (.cells #[.int .i64 4, .int .i64 file, .int .i64 to, .slice ao b.length cap] 32)).drew) := HU1.out.drew
    have HST0 := hid (Step.of_upd HS.out hdr)
    have HIN2 := hid (HS.out.upd hdr (fun _ _ h => h))
    have hnb : w.heap.size ∉ s.blocks := fun hm => by have := HS.out.lt _ hm; omega
    have HNB := hid hnb
    clear hdr hnb
    go_region_held3 (fun W => W.cell? ⟨w.heap.size, 1, none⟩ = some (.int .i64 file) ∧ W.cell? ⟨w.heap.size, 2, none⟩ = some (.int .i64 to))
      (first
        | go_keep
        | (go_split_ands
           refine ⟨?_, ?_⟩
           · (first | (rw [World.cell?_of_block (hu.block w.heap.size (by first | assumption | simp) (fun h => h))]; first | assumption | (simp [go_sem]; done)) | (rw [hst.other HNB.out (by assumption)]; assumption))
           · (first | (rw [World.cell?_of_block (hu.block w.heap.size (by first | assumption | simp) (fun h => h))]; first | assumption | (simp [go_sem]; done)) | (rw [hst.other HNB.out (by assumption)]; assumption))))
      (first
        | (go_at_call 19; refine (name_any _ _).mono ?_; rintro e w1 ⟨rfl, hu⟩; first | (have hst2 := hst1.trans (Step.of_upd hin1 hu); have hin2 := hin1.upd hu (fun _ _ h => h); have hsz : w.heap.size < w1.heap.size := Nat.lt_of_lt_of_le hsz hu.size) | (have hst1 := HST0.out.trans (Step.of_upd HIN2.out hu); have hin1 := HIN2.out.upd hu (fun _ _ h => h); have hsz : w.heap.size < w1.heap.size := Nat.lt_of_lt_of_le (by simp) hu.size))
        | (go_at_call 33; refine (rename_any hin2 _ _).mono ?_; rintro e w2 ⟨rfl, s2, hst, habs⟩))
    have H1 := hid (hst2.trans hst)
    have H2 := hid habs
    clear hst1 hin1 hst2 hin2 hst habs
    go_wp2
    go_ret
    exact ⟨rfl, s2, H1.out, H2.out⟩
  rw [if_neg k4]
  by_cases k5 : kind = 5
  · rw [if_pos k5]
    subst k5
    clear k1 k2 k3 k4
    go_enter Try.func14, Try.ntmps14
    go_wp2_with fail
    refine (name_any _ _).mono ?_
    rintro e w1 ⟨rfl, hu⟩
    have hin1 := HIN.out.upd hu (fun _ _ h => h)
    have HU := hid hu; have HIN1 := hid hin1
    clear hu hin1
    go_wp2_with fail
    refine (delete_any HIN1.out _).mono ?_
    rintro e w2 ⟨rfl, s2, hst, habs⟩
    have H1 := hid hst; have H2 := hid habs
    clear hst habs
    go_wp2
    go_ret
    exact ⟨rfl, s2, ((Step.of_upd HS.out HU1.out).trans (Step.of_upd HIN.out HU.out)).trans H1.out, H2.out⟩
  rw [if_neg k5]
  have e1 : (kind == (1 : Int)) = false := by simpa using k1
  have e2 : (kind == (2 : Int)) = false := by simpa using k2
  have e3 : (kind == (3 : Int)) = false := by simpa using k3
  have e4 : (kind == (4 : Int)) = false := by simpa using k4
  have e5 : (kind == (5 : Int)) = false := by simpa using k5
  go_enter Try.func14, Try.ntmps14
  go_wp2
  go_ret
  exact ⟨rfl, s, Step.of_upd HS.out HU1.out, rfl⟩


end Go.Proofs.Ytohpgmeflmppaaa

namespace Go.Proofs.Ytohpgmeflmppaaa
set_option linter.unusedVariables false
set_option linter.unusedSimpArgs false
set_option linter.unnecessarySimpa false
set_option linter.unusedSectionVars false
open Go Go.RowKit

theorem beq_toBA (a b : List UInt8) : ((toBA a).toList == (toBA b).toList) = decide (a = b) := by
  rw [beq_toList]
  congr 1
  apply propext
  constructor
  · intro h
    have := congrArg (fun x : ByteArray => x.data.toList) h
    simpa [toBA] using this
  · rintro rfl; rfl

set_option maxRecDepth 100000 in
theorem same_any {w : World} {a b : Value} {xs bs : List UInt8} (ha : BytesAt w a xs) (hb : BytesAt w b bs) :
    Calls Try.prog 27 #[a, b] w fun e w' => e = .returned (.bool (decide (xs = bs))) ∧ w' = w := by
  have h1 := run_string_of ha
  have h2 := run_string_of hb
  have hq := beq_toBA xs bs
  obtain ⟨ao, ca, rfl, -, -⟩ := ha
  obtain ⟨bo, cb, rfl, -, -⟩ := hb
  go_enter Try.func27, Try.ntmps27
  go_wp2
  go_ret
  exact ⟨rfl, rfl⟩

theorem BytesAt.take {w : World} {bo : Option Addr} {cap : Nat} {bs : List UInt8} (h : BytesAt w (.slice bo bs.length cap) bs) {n : Nat} (hn : n ≤ bs.length) (c : Nat) (hc : bo = none → c = 0) :
    BytesAt w (.slice bo n c) (bs.take n) := by
  obtain ⟨ao, cp, he, h1, h2⟩ := h
  injection he with e1 e2 e3
  subst e1 e3
  refine ⟨bo, c, by simp [Nat.min_eq_left hn], fun h => ?_, fun a ha j u hu => h2 a ha j u ?_⟩
  · obtain ⟨rfl, rfl⟩ := h1 h
    exact ⟨by simp, hc h⟩
  · rw [List.map_take, List.getElem?_take] at hu
    split at hu
    · exact hu
    · cases hu

set_option maxRecDepth 100000 in
theorem begins_any {w : World} {a b : Value} {xs bs : List UInt8} (ha : BytesAt w a xs) (hb : BytesAt w b bs) (hcap : ∀ o l c, b = .slice o l c → l ≤ c) :
    Calls Try.prog 22 #[a, b] w fun e w' => e = .returned (.bool (decide (xs = bs.take xs.length))) ∧ w' = w := by
  have HA := hid ha
  have HB := hid hb
  obtain ⟨ao, ca, rfl, -, -⟩ := ha
  obtain ⟨bo, cb, rfl, hbn, hbc⟩ := hb
  have hbcap := hcap _ _ _ rfl
  clear hcap
  by_cases hl : xs.length ≤ bs.length
  · have hc : xs.length ≤ cb := Nat.le_trans hl hbcap
    cases bo with
    | none =>
      obtain ⟨rfl, rfl⟩ := hbn rfl
      have hz : xs.length = 0 := by simpa using hl
      obtain rfl : xs = [] := by simpa using hz
      have H2 := hid (same_any HA.out HB.out)
      clear hbn hbc hl hc hbcap hz
      go_enter Try.func22, Try.ntmps22
      go_wp2_with (go_at_call 27; refine H2.out.mono ?_; rintro e w' ⟨rfl, rfl⟩)
      go_ret
      exact ⟨rfl, rfl⟩
    | some x =>
      have H2 := hid (same_any HA.out (BytesAt.take HB.out hl cb (fun h => by cases h)))
      have hl' : (xs.length : Int) ≤ (bs.length : Int) := by omega
      clear hbn hbc
      obtain ⟨xb, xo, xp⟩ := x
      go_enter Try.func22, Try.ntmps22
      go_wp2_with (go_at_call 27; refine H2.out.mono ?_; rintro e w' ⟨rfl, rfl⟩)
      go_ret
      exact ⟨rfl, rfl⟩
  · have hl' : ¬ (xs.length : Int) ≤ (bs.length : Int) := by omega
    have hne : decide (xs = bs.take xs.length) = false := by
      simp only [decide_eq_false_iff_not]
      intro h
      have := congrArg List.length h
      simp at this
      omega
    rw [hne]
    clear hbn hbc HA HB
    go_enter Try.func22, Try.ntmps22
    go_wp2
    go_ret
    exact ⟨rfl, rfl⟩

theorem flat_cells : ∀ (l : List FV) (k : Nat) (hk : k < l.length), (l.flatMap FV.cells)[k * 3]? = some (.string l[k].name) ∧ (l.flatMap FV.cells)[k * 3 + 1]? = some l[k].dv ∧ (l.flatMap FV.cells)[k * 3 + 2]? = some (.int .i64 l[k].synced)
  | f :: l, 0, _ => by simp [FV.cells]
  | f :: l, k + 1, hk => by
    have ih := flat_cells l k (by simpa using hk)
    have e1 : (k + 1) * 3 = k * 3 + 1 + 1 + 1 := by omega
    have e2 : (k + 1) * 3 + 1 = k * 3 + 1 + 1 + 1 + 1 := by omega
    have e3 : (k + 1) * 3 + 2 = k * 3 + 2 + 1 + 1 + 1 := by omega
    rw [e1, show k * 3 + 1 + 1 + 1 + 2 = k * 3 + 2 + 1 + 1 + 1 from by omega]
    simpa [FV.cells] using ih

theorem FilesAt.shape {w : World} {base : Nat} {v : Value} {l : List FV} (h : FilesAt w base v l) : ∃ ao cap, v = .slice ao l.length cap ∧ l.length ≤ cap ∧ cap ≤ maxLen ∧
    ∀ k (hk : k < l.length), ∃ g, ao = some ⟨g, 0, none⟩ ∧ base ≤ g ∧ g < w.heap.size ∧ w.cell? ⟨g, k * 3, none⟩ = some (.string l[k].name) ∧ w.cell? ⟨g, k * 3 + 1, none⟩ = some l[k].dv ∧ w.cell? ⟨g, k * 3 + 2, none⟩ = some (.int .i64 l[k].synced) := by
  obtain ⟨hl, h⟩ := h.row
  rcases h with ⟨rfl, h0⟩ | ⟨g, cap, cur, rfl, hb, hg, h2, h3, h4, h5⟩
  · exact ⟨none, 0, by rw [h0], by omega, by simp, fun k hk => absurd hk (by omega)⟩
  · refine ⟨some ⟨g, 0, none⟩, cap, rfl, h2, h3, fun k hk => ⟨g, rfl, hb, lt_of_heap hg, ?_⟩⟩
    obtain ⟨q0, q1, q2⟩ := flat_cells l k hk
    rw [← h5, List.getElem?_take, if_pos (by omega)] at q0 q1 q2
    refine ⟨?_, ?_, ?_⟩
    · rw [cell_of_row w g _ cur _ _ hg, ← Array.getElem?_toList]; exact q0
    · rw [cell_of_row w g _ cur _ _ hg, ← Array.getElem?_toList]; exact q1
    · rw [cell_of_row w g _ cur _ _ hg, ← Array.getElem?_toList]; exact q2

/-- What find tells. -/
def findRes (l : List FV) (n : ByteArray) : Value × Bool :=
  match l.find? (fun f => f.name == n) with
  | some f => (.agg #[.string f.name, f.dv, .int .i64 f.synced], true)
  | none => (.agg #[.string ⟨#[]⟩, .slice none 0 0, .int .i64 0], false)

theorem find_take_none {l : List FV} {n : ByteArray} {k : Nat} (hk : k < l.length) (h : ∀ j (hj : j < l.length), j < k → l[j].name ≠ n) (hn : l[k].name = n) : l.find? (fun f => f.name == n) = some l[k] := by
  rw [List.find?_eq_some_iff_getElem]
  refine ⟨by simp [hn, beq_bytes], k, hk, rfl, fun j hj => ?_⟩
  have := h j (by omega) hj
  simpa [beq_bytes] using this

set_option maxRecDepth 100000 in
set_option maxHeartbeats 1600000 in
theorem find_any {w : World} {base : Nat} {v : Value} {l : List FV} (h : FilesAt w base v l) (n : ByteArray) :
    Calls Try.prog 21 #[v, .string n] w fun e w' => e = .returned (.tuple #[(findRes l n).1, .bool (findRes l n).2]) ∧ Upd (fun _ => False) w w' := by
  obtain ⟨ao, cap, rfl, hc1, hc2, hcells⟩ := h.shape
  have HC := hid hcells
  have hdvs : ∀ k (hk : k < l.length), ∃ ao c, l[k].dv = .slice ao l[k].data.length c := fun k hk => by
    obtain ⟨ao, c, hh, -⟩ := (h.data l[k] (List.getElem_mem hk)).shape
    exact ⟨ao, c, hh⟩
  have HDV := hid hdvs
  have hm : l.length ≤ 9223372036854775807 := Nat.le_trans hc1 (by simpa [maxLen] using hc2)
  clear hcells hdvs h
  go_enter Try.func21, Try.ntmps21
  go_wp2
  go_loopw [6] (fun i wr => ∃ k : Nat, k ≤ l.length ∧ i = .int .i64 k ∧ (∀ j (hj : j < l.length), j < k → l[j].name ≠ n) ∧ Upd (fun _ => False) w wr ∧ wr.heap.size = w.heap.size + 1 ∧ wr.heap[w.heap.size]? = some (.cells #[.string ⟨#[]⟩, .slice none 0 0, .int .i64 0] 44 (0, 0)))
    (fun i _ => l.length - (intOf i).toNat)
  case atStart => exact ⟨0, Nat.zero_le _, rfl, by simp, (Upd.refl _ _).alloc _, by simp, heap_alloc_new _ _⟩
  case round =>
    obtain ⟨k, hk, rfl, hno, hup, hsz, hbox⟩ := hrel
    have HUP := hid hup; have HNO := hid hno
    have f0 := frozen_of_row wr w.heap.size 0 _ _ hbox
    have f1 := frozen_of_row wr w.heap.size 1 _ _ hbox
    have f2 := frozen_of_row wr w.heap.size 2 _ _ hbox
    have c0 : wr.cell? ⟨w.heap.size, 0, none⟩ = some (.string ⟨#[]⟩) := cell_of_row wr w.heap.size 0 _ _ _ hbox
    have c1 : wr.cell? ⟨w.heap.size, 1, none⟩ = some (.slice none 0 0) := cell_of_row wr w.heap.size 1 _ _ _ hbox
    have c2 : wr.cell? ⟨w.heap.size, 2, none⟩ = some (.int .i64 0) := cell_of_row wr w.heap.size 2 _ _ _ hbox
    have HB := hid hbox
    clear hup hno hbox
    by_cases hlt : k < l.length
    · obtain ⟨g, rfl, hg1, hg2, hg3, hg4, hg5⟩ := HC.out k hlt
      obtain ⟨x, hx⟩ : ∃ x, x = l[k].name := ⟨_, rfl⟩
      have hq := beq_toList x n
      have d0 : wr.cell? ⟨g, k * 3, none⟩ = some (.string x) := by rw [World.cell?_of_block (w := w) (HUP.out.block g hg2 (fun h => h)), hg3, hx]
      have d1 : wr.cell? ⟨g, k * 3 + 1, none⟩ = some l[k].dv := by rw [World.cell?_of_block (w := w) (HUP.out.block g hg2 (fun h => h)), hg4]
      have d2 : wr.cell? ⟨g, k * 3 + 2, none⟩ = some (.int .i64 l[k].synced) := by rw [World.cell?_of_block (w := w) (HUP.out.block g hg2 (fun h => h)), hg5]
      have HX := hid hx
      obtain ⟨ad, cd, hdv⟩ := HDV.out k hlt
      rw [hdv] at d1
      have HD := hid hdv
      clear hdv
      clear hg3 hg4 hg5
      by_cases hxn : x = n
      · have hfr := find_take_none hlt HNO.out (hx ▸ hxn)
        have hq' : (x.toList == n.toList) = true := by rw [hq]; simpa using hxn
        have HF := hid hfr; have HXE := hid hxn
        clear hq hx hfr hxn
        go_wp2
        (try simp only [Exit.inBlock, Exit.then])
        refine bodyPost_ret (v := .tuple #[.agg #[.string n, .slice ad l[k].data.length cd, .int .i64 l[k].synced], .bool true]) ?_ rfl ?_
        · rw [results_cell_tmp rfl]
          go_simp
          try exact HXE.out
        unfold findRes
        rw [HF.out]
        refine ⟨?_, ?_⟩
        · simp only []
          rw [HD.out, ← HX.out, HXE.out]
        · exact ((HUP.out.setCell (fun h => absurd h (by simp)) _).setCell (fun h => absurd h (by simp)) _).setCell (fun h => absurd h (by simp)) _
      · have hq' : (x.toList == n.toList) = false := by rw [hq]; simpa using hxn
        have HXN := hid hxn
        clear hq hx hxn
        go_wp2_with fail
        go_roundw
        case rel => 
          refine ⟨k + 1, by omega, by go_num, fun j hj hjk => ?_, HUP.out, hsz, HB.out⟩
          by_cases hjk' : j < k
          · exact HNO.out j hj hjk'
          · obtain rfl : j = k := by omega
            exact HX.out ▸ HXN.out
        case measure => simp [intOf]; omega
    · obtain rfl : k = l.length := by omega
      have hfin : l.find? (fun f => f.name == n) = none := by
        rw [List.find?_eq_none]
        intro f hf
        obtain ⟨j, hj, rfl⟩ := List.getElem_of_mem hf
        have := HNO.out j hj hj
        simpa [beq_bytes] using this
      have HF := hid hfin
      clear hfin
      go_wp2
      (try simp only [Exit.inBlock, Exit.then])
      refine bodyPost_ret (v := .tuple #[.agg #[.string ⟨#[]⟩, .slice none 0 0, .int .i64 0], .bool false]) ?_ rfl ?_
      · rw [results_cell_tmp rfl]
        go_simp
      unfold findRes
      rw [HF.out]
      refine ⟨rfl, ?_⟩
      exact ((HUP.out.setCell (fun h => absurd h (by simp)) _).setCell (fun h => absurd h (by simp)) _).setCell (fun h => absurd h (by simp)) _

def probe : ByteArray := ⟨#[112, 114, 111, 98, 101]⟩
theorem probe_ok : nameOk probe.data.toList = true := by decide

theorem fileAt_nil {s : DS} (h : s.abs.files = []) (n : ByteArray) : s.recs = [] ∧ s.fileAt n = none := by
  have : s.recs = [] := by simpa [DS.abs] using h
  exact ⟨this, by simp [DS.fileAt, this]⟩

theorem fileAt_one {s : DS} {f : FileA} (h : s.abs.files = [f]) : ∃ r, s.recs = [r] ∧ r.abs = f ∧ s.fileAt f.name = some r := by
  have h' : s.recs.map FRec.abs = [f] := h
  obtain ⟨r, hr, hf⟩ : ∃ r, s.recs = [r] ∧ r.abs = f := by
    cases hs : s.recs with
    | nil => rw [hs] at h'; simp at h'
    | cons r t =>
      rw [hs] at h'
      simp only [List.map_cons, List.cons.injEq, List.map_eq_nil_iff] at h'
      exact ⟨r, by rw [h'.2], h'.1⟩
  refine ⟨r, hr, hf, ?_⟩
  have : r.name = f.name := by rw [← hf]; rfl
  simp [DS.fileAt, hr, this, beq_bytes]

/-- What a new disk is behind 'made'. -/
def Fresh (w w' : World) (n : Nat) (s : DS) : Prop := s.In w' ∧ s.cap = n ∧ s.recs = [] ∧ s.down = false ∧ s.armed = 0 ∧ (∀ k ∈ s.blocks, w.heap.size ≤ k) ∧ Upd (fun _ => False) w w'

set_option maxRecDepth 100000 in
set_option maxHeartbeats 3200000 in
theorem made_any (w : World) (n : Nat) (h1 : 1 ≤ n) (h2 : n ≤ 67108864) :
    Calls Try.prog 10 #[.int .i64 n] w fun e w' => ∃ s : DS, e = .returned (.pointer (some ⟨s.p, 0, none⟩)) ∧ Fresh w w' n s := by
  go_enter Try.func10, Try.ntmps10
  go_wp2_with fail
  refine (new_yes w n h2).mono ?_
  rintro e w1 ⟨s1, rfl, hin1, ha1, hb1, hu1⟩
  have HIN1 := hid hin1; have HB1 := hid hb1; have HU1 := hid hu1
  have q1 : s1.down = false ∧ s1.armed = 0 ∧ s1.abs.files = [] ∧ s1.cap = n := by
    have e1 := congrArg DiskA.down ha1; have e2 := congrArg DiskA.armed ha1; have e3 := congrArg DiskA.files ha1; have e4 := congrArg DiskA.cap ha1
    exact ⟨e1, e2, e3, e4⟩
  obtain ⟨d1, a1, f1, cp1⟩ := q1
  obtain ⟨r1, ft1⟩ := fileAt_nil f1 probe
  have hcr : createA s1 probe = (0, { s1.abs with files := [⟨probe, [], 0⟩], cnt := bump s1.abs.cnt none }) := by
    unfold createA
    rw [d1, ft1, probe_ok, r1]
    simp only [lookRes, actA, DS.abs, a1, r1]
    simp
  have hcr1 : (createA s1 probe).1 = 0 := by rw [hcr]
  have HCR := hid hcr; have HCR1 := hid hcr1
  have HD1 := hid d1; have HA1 := hid a1; have HCP1 := hid cp1
  clear hin1 ha1 hb1 hu1 d1 a1 f1 r1 ft1 hcr hcr1 cp1
  go_wp2_with (go_at_call 13; refine (num_any _ _).mono ?_; rintro e w' ⟨rfl, hww⟩; obtain rfl := hww.symm)
  refine (create_any HIN1.out probe).mono ?_
  rintro e w2 ⟨rfl, s2, hst2, habs2⟩
  rw [HCR1.out]
  rw [HCR.out] at habs2
  have q2 : s2.down = false ∧ s2.armed = 0 ∧ s2.abs.files = [⟨probe, [], 0⟩] ∧ s2.cap = n := by
    have e1 := congrArg DiskA.down habs2; have e2 := congrArg DiskA.armed habs2; have e3 := congrArg DiskA.files habs2; have e4 := congrArg DiskA.cap habs2
    exact ⟨e1.trans HD1.out, e2.trans HA1.out, e3, e4.trans HCP1.out⟩
  obtain ⟨d2, a2, f2, cp2⟩ := q2
  obtain ⟨r2, hr2, hra2, ft2⟩ := fileAt_one f2
  have hlen2 : r2.data = [] := congrArg FileA.data hra2
  have hap : appendA s2 probe [5] = (0, { s2.abs with files := [⟨probe, [5], 0⟩], cnt := bump s2.abs.cnt (some 6) }) := by
    unfold appendA
    rw [d2, ft2, probe_ok]
    simp only [lookRes, actA, DS.abs, a2, DS.used, usedOf, hr2, cp2]
    have hn0 : ¬ n = 0 := by omega
    simp [hlen2, updA, hra2, hn0]
  have HAP := hid hap; have HAP1 := hid (show (appendA s2 probe [5]).1 = 0 by rw [hap])
  have HST2 := hid hst2; have HD2 := hid d2; have HA2 := hid a2; have HCP2 := hid cp2
  have hu3 : Upd (fun _ => False) w2 (w2.alloc (.cells #[.int .u8 5] 5)) := (Upd.refl _ _).alloc _
  have HST3 := hid (Step.of_upd hst2.ins hu3)
  have hby : BytesAt (w2.alloc (.cells #[.int .u8 5] 5)) (.slice (some ⟨w2.heap.size, 0, none⟩) 1 1) [5] := by
    refine ⟨some ⟨w2.heap.size, 0, none⟩, 1, rfl, (fun h => by cases h), fun a ha j u hu => ?_⟩
    cases ha
    match j, hu with
    | 0, hu => simp at hu; subst hu; simp [Addr.add, byteV]
  have HBY := hid hby
  have hne : ∀ (a : Addr) (l c : Nat), Value.slice (some ⟨w2.heap.size, 0, none⟩) 1 1 = Value.slice (some a) l c → 0 < l → a.block ≠ s2.p ∧ a.block < (w2.alloc (.cells #[.int .u8 5] 5)).heap.size := by
    intro a l c h _
    injection h with h _ _
    injection h with h
    subst h
    exact ⟨fun e => by have := hst2.ins.plt; simp only at e; omega, by simp⟩
  have HNE := hid hne
  have hp2 : s2.p = s1.p := hst2.p
  have HP2 := hid hp2
  clear hst2 habs2 d2 a2 f2 cp2 hr2 hra2 ft2 hlen2 hap hu3 hby hne hp2
  go_wp2_with (go_at_call 13; refine (num_any _ _).mono ?_; rintro e w' ⟨rfl, hww⟩; obtain rfl := hww.symm)
  rw [← HP2.out]
  refine (append_any HST3.out.ins probe HBY.out HNE.out).mono ?_
  rintro e w3 ⟨rfl, s3, hst3, habs3⟩
  rw [HAP1.out]
  rw [HAP.out] at habs3
  have q3 : s3.down = false ∧ s3.armed = 0 ∧ s3.abs.files = [⟨probe, [5], 0⟩] ∧ s3.cap = n := by
    have e1 := congrArg DiskA.down habs3; have e2 := congrArg DiskA.armed habs3; have e3 := congrArg DiskA.files habs3; have e4 := congrArg DiskA.cap habs3
    exact ⟨e1.trans HD2.out, e2.trans HA2.out, e3, e4.trans HCP2.out⟩
  obtain ⟨d3, a3, f3, cp3⟩ := q3
  obtain ⟨r3, hr3, hra3, ft3⟩ := fileAt_one f3
  have hd3 : r3.data = [5] := congrArg FileA.data hra3
  have hn3 : r3.name = probe := congrArg FileA.name hra3
  have hus3 : ((s3.cap - s3.used : Nat) : Int) = (n : Int) - 1 := by simp [DS.used, usedOf, hr3, hd3, cp3]; omega
  have hde : deleteA s3 probe = (0, { s3.abs with files := [], cnt := bump s3.abs.cnt (some 9) }) := by
    unfold deleteA
    rw [d3, ft3, probe_ok]
    simp only [lookRes, actA, DS.abs, a3, dropA, hr3]
    simp [hn3, FRec.abs]
  have HDE := hid hde; have HDE1 := hid (show (deleteA s3 probe).1 = 0 by rw [hde])
  have HST4 := hid (HST2.out.trans (HST3.out.trans hst3)); have HD3 := hid d3; have HA3 := hid a3; have HCP3 := hid cp3; have HUS := hid hus3
  have HIN3 := hid hst3.ins; have HP3 := hid hst3.p
  clear hst3 habs3 d3 a3 f3 cp3 hr3 hra3 ft3 hd3 hn3 hus3 hde
  go_wp2_with (go_at_call 13; refine (num_any _ _).mono ?_; rintro e w' ⟨rfl, hww⟩; obtain rfl := hww.symm)
  rw [← HP3.out]
  refine (free_any HIN3.out).mono ?_
  rintro e w4 ⟨rfl, k, rfl⟩
  rw [HUS.out]
  have hin4 : s3.In (w3.drewN k) := HIN3.out.upd ((Upd.refl (fun _ => False) _).drewN _) (fun _ _ h => h)
  have HIN4 := hid hin4
  have HST5 := hid (HST4.out.trans (Step.of_upd HIN3.out ((Upd.refl (fun _ => False) _).drewN k)))
  clear hin4
  go_wp2_with (go_at_call 13; refine (num_any _ _).mono ?_; rintro e w' ⟨rfl, hww⟩; obtain rfl := hww.symm)
  refine (delete_any HIN4.out probe).mono ?_
  rintro e w5 ⟨rfl, s5, hst5, habs5⟩
  rw [show (deleteA s3 probe).1 = 0 from HDE1.out]
  rw [HDE.out] at habs5
  have q5 : s5.down = false ∧ s5.armed = 0 ∧ s5.abs.files = [] ∧ s5.cap = n := by
    have e1 := congrArg DiskA.down habs5; have e2 := congrArg DiskA.armed habs5; have e3 := congrArg DiskA.files habs5; have e4 := congrArg DiskA.cap habs5
    exact ⟨e1.trans HD3.out, e2.trans HA3.out, e3, e4.trans HCP3.out⟩
  obtain ⟨d5, a5, f5, cp5⟩ := q5
  obtain ⟨r5, -⟩ := fileAt_nil f5 probe
  have hall := HST5.out.trans hst5
  have hfr : Fresh w w5 n s5 := by
    refine ⟨hall.ins, cp5, r5, d5, a5, fun k hk => ?_, HU1.out.trans hall.upd (fun k hk hm => by have := HB1.out k hm; omega)⟩
    rcases hall.foot k hk with h | h
    · exact HB1.out k h
    · exact Nat.le_trans HU1.out.size h
  have HFR := hid hfr
  have hp5 := hall.p
  have HP5 := hid (show s5.p = s3.p from hst5.p)
  clear hst5 habs5 d5 a5 f5 cp5 r5 hall hfr hp5
  go_wp2_with (go_at_call 13; refine (num_any _ _).mono ?_; rintro e w' ⟨rfl, hww⟩; obtain rfl := hww.symm)
  go_ret
  exact ⟨s5, by rw [HP5.out]; rfl, HFR.out⟩

end Go.Proofs.Ytohpgmeflmppaaa

namespace Go.Proofs.Ytohpgmeflmppaaa
set_option linter.unusedVariables false
set_option linter.unusedSimpArgs false
set_option linter.unnecessarySimpa false
set_option linter.unusedSectionVars false
open Go Go.RowKit

theorem filterMap_cong {α β : Type} {f g : α → Option β} : ∀ {l : List α}, (∀ a ∈ l, f a = g a) → l.filterMap f = l.filterMap g
  | [], _ => rfl
  | a :: l, h => by rw [List.filterMap_cons, List.filterMap_cons, h a (by simp), filterMap_cong (l := l) (fun b hb => h b (by simp [hb]))]

def findA (l : List FileA) (n : ByteArray) : Option FileA := l.find? (fun f => f.name == n)

theorem fileAt_findA (s : DS) (n : ByteArray) : (s.fileAt n).map FRec.abs = findA s.abs.files n := by
  unfold findA DS.fileAt
  show _ = (s.recs.map FRec.abs).find? _
  rw [List.find?_map]
  rfl

/-- What one Crash makes of one file, of which k files with a tail have come before. -/
def crashOne (cuts : List Int) (f : FileA) (k : Nat) : FileA × Nat :=
  if f.data.length ≤ f.synced then (f, k)
  else ({ f with synced := f.synced + keepOf cuts k (f.data.length - f.synced), data := f.data.take (f.synced + keepOf cuts k (f.data.length - f.synced)) }, k + 1)

def crashL (cuts : List Int) : List FileA → Nat → List FileA × Nat
  | [], k => ([], k)
  | f :: t, k => ((crashOne cuts f k).1 :: (crashL cuts t (crashOne cuts f k).2).1, (crashL cuts t (crashOne cuts f k).2).2)

theorem findA_updA (l : List FileA) (n m : ByteArray) (g : FileA → FileA) (hg : ∀ f, (g f).name = f.name) : findA (updA l n g) m = (findA l m).map (fun f => if f.name = n then g f else f) := by
  unfold findA updA
  rw [List.find?_map]
  have e : ((fun f : FileA => f.name == m) ∘ fun f => if f.name = n then g f else f) = fun f : FileA => f.name == m := by
    funext f
    simp only [Function.comp]
    split <;> simp [hg]
  rw [e]

theorem findA_name {l : List FileA} {n : ByteArray} {f : FileA} (h : findA l n = some f) : f.name = n := by
  have := List.find?_some h
  simpa [beq_bytes] using this

theorem crashStep_other (cuts : List Int) (F : List FileA) (k : Nat) (n m : ByteArray) (h : m ≠ n) : findA (crashStep cuts (F, k) n).1 m = findA F m := by
  unfold crashStep
  cases hf : F.find? (fun f => f.name == n) with
  | none => rfl
  | some f =>
    simp only []
    split
    · rfl
    · simp only []
      refine (findA_updA F n m _ (by intro _; rfl)).trans ?_
      cases hm : findA F m with
      | none => rfl
      | some x =>
        simp only [Option.map_some]
        rw [if_neg (by rw [findA_name hm]; exact h)]

theorem crashStep_self (cuts : List Int) (F : List FileA) (k : Nat) (n : ByteArray) {f : FileA} (h : findA F n = some f) : findA (crashStep cuts (F, k) n).1 n = some (crashOne cuts f k).1 ∧ (crashStep cuts (F, k) n).2 = (crashOne cuts f k).2 := by
  unfold crashStep crashOne
  have h' : F.find? (fun f => f.name == n) = some f := h
  simp only [h']
  split
  · exact ⟨h, rfl⟩
  · refine ⟨?_, rfl⟩
    simp only []
    refine (findA_updA F n n _ (by intro _; rfl)).trans ?_
    rw [h]
    simp only [Option.map_some]
    rw [if_pos (findA_name h)]

theorem crashFold_other (cuts : List Int) : ∀ (N : List ByteArray) (st : List FileA × Nat) (m : ByteArray), m ∉ N → findA (N.foldl (crashStep cuts) st).1 m = findA st.1 m
  | [], _, _, _ => rfl
  | n :: N, (F, k), m, h => by
    simp only [List.mem_cons, not_or] at h
    rw [List.foldl_cons, crashFold_other cuts N _ m h.2, crashStep_other cuts F k n m h.1]

theorem crashFold (cuts : List Int) : ∀ (N : List ByteArray) (F : List FileA) (k : Nat), N.Nodup → (∀ n ∈ N, ∃ f, findA F n = some f) →
    N.filterMap (findA (N.foldl (crashStep cuts) (F, k)).1) = (crashL cuts (N.filterMap (findA F)) k).1 ∧ (N.foldl (crashStep cuts) (F, k)).2 = (crashL cuts (N.filterMap (findA F)) k).2
  | [], F, k, _, _ => ⟨rfl, rfl⟩
  | n :: N, F, k, hnd, hall => by
    obtain ⟨hn, hnd'⟩ := List.nodup_cons.1 hnd
    obtain ⟨f, hf⟩ := hall n (by simp)
    obtain ⟨c1, c2⟩ := crashStep_self cuts F k n hf
    have hoth : ∀ m ∈ N, findA (crashStep cuts (F, k) n).1 m = findA F m := fun m hm => crashStep_other cuts F k n m (fun e => hn (e ▸ hm))
    have hrest : N.filterMap (findA (crashStep cuts (F, k) n).1) = N.filterMap (findA F) := filterMap_cong hoth
    obtain ⟨i1, i2⟩ := crashFold cuts N (crashStep cuts (F, k) n).1 (crashStep cuts (F, k) n).2 hnd' (fun m hm => by
      obtain ⟨f', hf'⟩ := hall m (by simp [hm])
      exact ⟨f', by rw [hoth m hm, hf']⟩)
    rw [hrest, c2] at i1 i2
    rw [show ((crashStep cuts (F, k) n).1, (crashOne cuts f k).2) = crashStep cuts (F, k) n from by rw [← c2]] at i1 i2
    rw [List.foldl_cons]
    refine ⟨?_, ?_⟩
    · rw [List.filterMap_cons, crashFold_other cuts N _ n hn, c1, List.filterMap_cons, hf, i1]
      rfl
    · rw [i2, List.filterMap_cons, hf]
      rfl

theorem crashStep_names (cuts : List Int) (st : List FileA × Nat) (n : ByteArray) : (crashStep cuts st n).1.map (·.name) = st.1.map (·.name) := by
  unfold crashStep
  cases st.1.find? (fun f => f.name == n) with
  | none => rfl
  | some f =>
    simp only []
    split
    · rfl
    · simp only [updA, List.map_map]
      refine List.map_congr_left fun g _ => ?_
      simp only [Function.comp]
      split <;> rfl

theorem crashFold_names (cuts : List Int) : ∀ (N : List ByteArray) (st : List FileA × Nat), (N.foldl (crashStep cuts) st).1.map (·.name) = st.1.map (·.name)
  | [], _ => rfl
  | n :: N, st => by rw [List.foldl_cons, crashFold_names cuts N, crashStep_names]

theorem fileList_findA (s : DS) : fileList s = (sortNames (s.abs.files.map (·.name))).filterMap (findA s.abs.files) := by
  unfold fileList
  rw [show s.abs.files.map (·.name) = s.names from by simp [DS.abs, DS.names, FRec.abs]]
  exact filterMap_cong (fun n _ => fileAt_findA s n)

theorem abs_names (s : DS) : s.abs.files.map (·.name) = s.names := by simp [DS.abs, DS.names, FRec.abs]

theorem sort_nodup {l : List ByteArray} (h : l.Nodup) : (sortNames l).Nodup := (sortNames_perm l).nodup_iff.2 h

/-- A crashed disk's files are the old ones, each cut. -/
theorem crash_files {w : World} {s s2 : DS} (hs : s.In w) {cuts : List Int} (h : s2.abs.files = (crashF cuts s.abs.files).1) :
    fileList s2 = (crashL cuts (fileList s) 0).1 ∧ (crashF cuts s.abs.files).2 = (crashL cuts (fileList s) 0).2 := by
  rw [fileList_findA s2, h, fileList_findA s]
  unfold crashF
  rw [crashFold_names]
  refine crashFold cuts _ s.abs.files 0 (sort_nodup (by rw [abs_names]; exact hs.names)) (fun n hn => ?_)
  have hm : n ∈ s.names := by rw [← abs_names]; exact (sortNames_perm _).subset hn
  obtain ⟨r, hr⟩ := fileAt_of_name hm
  exact ⟨r.abs, by rw [← fileAt_findA, hr]; rfl⟩

theorem fileList_names {w : World} {s : DS} (hs : s.In w) : (fileList s).map (·.name) = sortNames s.names := by
  rw [fileList_findA, abs_names]
  have hall : ∀ n ∈ sortNames s.names, ∃ f, findA s.abs.files n = some f ∧ f.name = n := fun n hn => by
    obtain ⟨r, hr⟩ := fileAt_of_name ((sortNames_perm _).subset hn)
    have : findA s.abs.files n = some r.abs := by rw [← fileAt_findA, hr]; rfl
    exact ⟨r.abs, this, findA_name this⟩
  generalize sortNames s.names = N at hall
  induction N with
  | nil => rfl
  | cons n N ih =>
    obtain ⟨f, hf, hn⟩ := hall n (by simp)
    rw [List.filterMap_cons, hf]
    simp only [List.map_cons, hn]
    rw [ih (fun m hm => hall m (by simp [hm]))]

theorem fileList_nodup {w : World} {s : DS} (hs : s.In w) : ((fileList s).map (·.name)).Nodup := by
  rw [fileList_names hs]; exact sort_nodup hs.names

theorem crashL_length (cuts : List Int) : ∀ (l : List FileA) (k : Nat), (crashL cuts l k).1.length = l.length
  | [], _ => rfl
  | f :: t, k => by simp [crashL, crashL_length cuts t]

/-- How many files with a tail lie ahead of the i-th. -/
def tailsBefore (cuts : List Int) (l : List FileA) (i : Nat) : Nat := (crashL cuts (l.take i) 0).2

theorem crashL_at (cuts : List Int) : ∀ (l : List FileA) (k i : Nat) (hi : i < l.length), (crashL cuts l k).1[i]? = some (crashOne cuts l[i] (crashL cuts (l.take i) k).2).1 ∧ (crashL cuts (l.take (i + 1)) k).2 = (crashOne cuts l[i] (crashL cuts (l.take i) k).2).2
  | f :: t, k, 0, _ => by simp [crashL]
  | f :: t, k, i + 1, hi => by
    have := crashL_at cuts t (crashOne cuts f k).2 i (by simpa using hi)
    simpa [crashL] using this

theorem fileList_small {w : World} {s : DS} (hs : s.In w) : ∀ f ∈ fileList s, f.synced ≤ f.data.length ∧ f.data.length ≤ 67108864 := by
  intro f hf
  obtain ⟨n, -, hn⟩ := List.mem_filterMap.1 hf
  cases hr : s.fileAt n with
  | none => rw [hr] at hn; cases hn
  | some r =>
    rw [hr] at hn
    cases hn
    obtain ⟨hm, -⟩ := fileAt_mem hr
    exact ⟨(hs.files r hm).synced, hs.data_le hm⟩

theorem crashOne_whole (cuts : List Int) (f : FileA) (k : Nat) (h : f.synced ≤ f.data.length) (ht : ¬ f.synced < f.data.length) : crashOne cuts f k = (f, k) := by
  unfold crashOne; rw [if_pos (by omega)]

theorem crashOne_tail (cuts : List Int) (f : FileA) (k : Nat) (ht : f.synced < f.data.length) {kp : Nat} (hk : keepOf cuts k (f.data.length - f.synced) = kp) :
    crashOne cuts f k = (⟨f.name, f.data.take (f.synced + kp), f.synced + kp⟩, k + 1) ∧ f.synced + kp ≤ f.data.length := by
  have := keepOf_le cuts k (f.data.length - f.synced)
  unfold crashOne; rw [if_neg (by omega), hk]
  exact ⟨rfl, by omega⟩

theorem FV_ext {f : FV} {a : FileA} (h : f.abs = a) : f.name = a.name ∧ f.data = a.data ∧ f.synced = a.synced := by subst h; exact ⟨rfl, rfl, rfl⟩

/-- The i-th of a list is what find tells by its name. -/
theorem findRes_at {l : List FV} (hnd : (l.map (·.name)).Nodup) {i : Nat} (hi : i < l.length) : findRes l l[i].name = (.agg #[.string l[i].name, l[i].dv, .int .i64 l[i].synced], true) := by
  unfold findRes
  rw [find_take_none hi (fun j hj hlt he => ?_) rfl]
  have := List.pairwise_iff_getElem.1 hnd j i (by simpa using hj) (by simpa using hi) hlt
  simp only [List.getElem_map] at this
  exact this he

end Go.Proofs.Ytohpgmeflmppaaa
