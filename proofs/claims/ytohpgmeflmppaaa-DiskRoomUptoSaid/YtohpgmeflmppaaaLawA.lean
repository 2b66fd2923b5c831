/-
  Package stratalaw4, walked: num, name, act, made.
-/
import Derived.Test.YtohpgmeflmppaaaDiskJ
import Derived.Deep.RegionHeld3
namespace Go.Proofs.Ytohpgmeflmppaaa
set_option linter.unusedVariables false
set_option linter.unusedSimpArgs false
set_option linter.unnecessarySimpa false
set_option linter.unusedSectionVars false
open Go Go.RowKit

/-- 'string(b)'. -/
theorem run_string_of {w : World} {v : Value} {bs : List UInt8} (h : BytesAt w v bs) : (convert 30 9 v).run Try.prog w = .ok (.string (toBA bs)) w := by
  obtain ⟨ao, cap, rfl, hn, hs⟩ := h
  cases ao with
  | none =>
    obtain ⟨rfl, rfl⟩ := hn rfl
    exact run_convert_bytes_nil w 30 5 Try.underlying30 Try.underlying5 _ _ 9 Try.underlying9
  | some a =>
    exact run_convert_bytes_back w 30 9 5 a cap bs Try.underlying30 Try.underlying5 Try.underlying9 (fun j hj => hs a rfl j _ (by rw [List.getElem?_map, List.getElem?_eq_getElem hj]; rfl))

theorem one_byte (w : World) (b : UInt8) : (convert 30 9 (.slice (some ⟨w.heap.size, 0, none⟩) 1 1)).run Try.prog (w.alloc (.cells #[byteV b] 5)) = .ok (.string (toBA [b])) (w.alloc (.cells #[byteV b] 5)) := by
  refine run_string_of (bs := [b]) ⟨some ⟨w.heap.size, 0, none⟩, 1, rfl, (fun h => by cases h), fun a ha j u hu => ?_⟩
  cases ha
  match j, hu with
  | 0, hu => simp at hu; subst hu; simp [Addr.add]

/-- The name of the file of a number. -/
def fileName (n : Int) : ByteArray := toBA [102, 47, UInt8.ofNat (97 + (n % 8).toNat)]

theorem num_any (n : Int) (w : World) : Calls Try.prog 13 #[.int .i64 n] w fun e w' => e = .returned (.int .i64 n) ∧ w' = w := by
  go_enter Try.func13, Try.ntmps13
  go_wp2
  go_ret
  exact ⟨rfl, rfl⟩

set_option maxRecDepth 100000 in
set_option maxHeartbeats 1600000 in
theorem name_any (n : Int) (w : World) : Calls Try.prog 19 #[.int .i64 n] w fun e w' => e = .returned (.string (fileName n)) ∧ Upd (fun _ => False) w w' := by
  have hq := Int.mul_tdiv_add_tmod n 8
  have hb1 : -8 < n.tmod 8 := by have := Int.lt_tmod_of_pos n (show (0 : Int) < 8 by decide); omega
  have hb2 : n.tmod 8 < 8 := Int.tmod_lt_of_pos n (by decide)
  obtain ⟨r, hr⟩ : ∃ r, r = n.tmod 8 := ⟨_, rfl⟩
  rw [← hr] at hq hb1 hb2
  have hm : n % 8 = r % 8 := by omega
  have hf : fileName n = toBA [102, 47, UInt8.ofNat (97 + (r % 8).toNat)] := by unfold fileName; rw [hm]
  rw [hf]
  clear hf hm hq
  have hr' := hr.symm
  clear hr
  have k97 : (convert 30 9 (.slice (some ⟨w.heap.size, 0, none⟩) 1 1)).run Try.prog (w.alloc (.cells #[.int .u8 97] 5)) = .ok (.string (toBA [97])) (w.alloc (.cells #[.int .u8 97] 5)) := one_byte w 97
  have k98 : (convert 30 9 (.slice (some ⟨w.heap.size, 0, none⟩) 1 1)).run Try.prog (w.alloc (.cells #[.int .u8 98] 5)) = .ok (.string (toBA [98])) (w.alloc (.cells #[.int .u8 98] 5)) := one_byte w 98
  have k99 : (convert 30 9 (.slice (some ⟨w.heap.size, 0, none⟩) 1 1)).run Try.prog (w.alloc (.cells #[.int .u8 99] 5)) = .ok (.string (toBA [99])) (w.alloc (.cells #[.int .u8 99] 5)) := one_byte w 99
  have k100 : (convert 30 9 (.slice (some ⟨w.heap.size, 0, none⟩) 1 1)).run Try.prog (w.alloc (.cells #[.int .u8 100] 5)) = .ok (.string (toBA [100])) (w.alloc (.cells #[.int .u8 100] 5)) := one_byte w 100
  have k101 : (convert 30 9 (.slice (some ⟨w.heap.size, 0, none⟩) 1 1)).run Try.prog (w.alloc (.cells #[.int .u8 101] 5)) = .ok (.string (toBA [101])) (w.alloc (.cells #[.int .u8 101] 5)) := one_byte w 101
  have k102 : (convert 30 9 (.slice (some ⟨w.heap.size, 0, none⟩) 1 1)).run Try.prog (w.alloc (.cells #[.int .u8 102] 5)) = .ok (.string (toBA [102])) (w.alloc (.cells #[.int .u8 102] 5)) := one_byte w 102
  have k103 : (convert 30 9 (.slice (some ⟨w.heap.size, 0, none⟩) 1 1)).run Try.prog (w.alloc (.cells #[.int .u8 103] 5)) = .ok (.string (toBA [103])) (w.alloc (.cells #[.int .u8 103] 5)) := one_byte w 103
  have k104 : (convert 30 9 (.slice (some ⟨w.heap.size, 0, none⟩) 1 1)).run Try.prog (w.alloc (.cells #[.int .u8 104] 5)) = .ok (.string (toBA [104])) (w.alloc (.cells #[.int .u8 104] 5)) := one_byte w 104
  obtain rfl | rfl | rfl | rfl | rfl | rfl | rfl | rfl | rfl | rfl | rfl | rfl | rfl | rfl | rfl : r = -7 ∨ r = -6 ∨ r = -5 ∨ r = -4 ∨ r = -3 ∨ r = -2 ∨ r = -1 ∨ r = 0 ∨ r = 1 ∨ r = 2 ∨ r = 3 ∨ r = 4 ∨ r = 5 ∨ r = 6 ∨ r = 7 := by omega
  all_goals
    go_enter Try.func19, Try.ntmps19
    go_wp2
    go_ret
    exact ⟨congrArg (fun x => Ending.returned (Value.string x)) (by first | rfl | decide), (Upd.refl _ _).alloc _⟩

/-- One act, as it was handed in. -/
structure DidA where
  kind : Int
  file : Int
  to : Int
  b : List UInt8
  bv : Value

def DidA.cells (x : DidA) : Array Value := #[.int .i64 x.kind, .int .i64 x.file, .int .i64 x.to, x.bv]

/-- What it makes of a disk. -/
def didA (s : DS) (x : DidA) : Int × DiskA :=
  if x.kind = 1 then createA s (fileName x.file)
  else if x.kind = 2 then appendA s (fileName x.file) x.b
  else if x.kind = 3 then syncA s (fileName x.file)
  else if x.kind = 4 then renameA s (fileName x.file) (fileName x.to)
  else if x.kind = 5 then deleteA s (fileName x.file)
  else (0, s.abs)

/-- Its bytes can be read, and lie elsewhere than the disk. -/
structure DidA.Ok (w : World) (s : DS) (x : DidA) : Prop where
  bytes : BytesAt w x.bv x.b
  away : ∀ a l c, x.bv = .slice (some a) l c → 0 < l → a.block ∉ s.blocks ∧ a.block < w.heap.size

theorem BytesAt.upd {S : Nat → Prop} {w w' : World} {v : Value} {bs : List UInt8} (h : BytesAt w v bs) (hu : Upd S w w') (hn : ∀ a l c, v = .slice (some a) l c → 0 < l → ¬ S a.block ∧ a.block < w.heap.size) : BytesAt w' v bs := by
  obtain ⟨ao, cap, rfl, h1, h2⟩ := h
  refine ⟨ao, cap, rfl, h1, fun a ha j u hu' => ?_⟩
  subst ha
  have h0l : 0 < bs.length := by
    rcases Nat.eq_zero_or_pos bs.length with h | h
    · rw [List.getElem?_eq_none (by simp; omega)] at hu'; cases hu'
    · exact h
  obtain ⟨n1, n2⟩ := hn a _ _ rfl h0l
  rw [← h2 a rfl j u hu']
  have hab : (a.add j).block = a.block := by unfold Addr.add; split <;> rfl
  exact World.cell?_of_block (w := w) (by rw [hab]; exact hu.block a.block n2 n1)

set_option maxRecDepth 100000 in
set_option maxHeartbeats 3200000 in
theorem act4_any {w : World} {s : DS} (hs : s.In w) {x : DidA} (hx : x.Ok w s) :
    Calls Try.prog 14 #[.pointer (some ⟨s.p, 0, none⟩), .agg x.cells] w fun e w' => e = .returned (.int .i64 (didA s x).1) ∧ ∃ s2, Step w w' s s2 ∧ s2.abs = (didA s x).2 := by
  obtain ⟨kind, file, to, b, bv⟩ := x
  obtain ⟨hb, ha⟩ := hx
  simp only at hb ha
  obtain ⟨ao, cap, hbv, hb1, hb2⟩ := hb
  subst hbv
  unfold DidA.cells didA
  simp only
  have hu1 : Upd (fun _ => False) w (w.alloc (.cells #[.int .i64 kind, .int .i64 file, .int .i64 to, .slice ao b.length cap] 32)) := (Upd.refl _ _).alloc _
  have hin := hs.upd hu1 (fun _ _ h => h)
  have hplt := hs.plt
  have HIN := hid hin; have HU1 := hid hu1; have HS := hid hs
  have HB := hid (show BytesAt w (.slice ao b.length cap) b from ⟨ao, cap, rfl, hb1, hb2⟩)
  have HA := hid ha
  clear hin hu1 hs hb1 hb2 ha
  by_cases k1 : kind = 1
  · rw [if_pos k1]
    subst k1
    go_enter Try.func14, Try.ntmps14
    go_wp2_with fail
    refine (name_any _ _).mono ?_
    rintro e w1 ⟨rfl, hu⟩
    have hin1 := HIN.out.upd hu (fun _ _ h => h)
    have HU := hid hu; have HIN1 := hid hin1
    clear hu hin1
    go_wp2_with fail
    refine (create_any HIN1.out _).mono ?_
    rintro e w2 ⟨rfl, s2, hst, habs⟩
    have H1 := hid hst; have H2 := hid habs
    clear hst habs
    go_wp2
    go_ret
    exact ⟨rfl, s2, ((Step.of_upd HS.out HU1.out).trans (Step.of_upd HIN.out HU.out)).trans H1.out, H2.out⟩
  rw [if_neg k1]
  by_cases k2 : kind = 2
  · rw [if_pos k2]
    subst k2
    clear k1
    go_enter Try.func14, Try.ntmps14
    go_wp2_with fail
    have hdr : Upd (fun _ => False) w ((w.alloc (.cells #[.int .i64 2, .int .i64 file, .int .i64 to, .slice ao b.length cap] 32)).drew) := HU1.out.drew
    have HDR := hid hdr
    have HIN2 := hid (HS.out.upd hdr (fun _ _ h => h))
    have hnb : w.heap.size ∉ s.blocks := fun hm => by have := HS.out.lt _ hm; omega
    have HNB := hid hnb
    clear hdr hnb
    go_region_held3 (fun W => W.cell? ⟨w.heap.size, 1, none⟩ = some (.int .i64 file) ∧ W.cell? ⟨w.heap.size, 3, none⟩ = some (.slice ao b.length cap))
      (first
        | go_keep
        | (go_split_ands
           refine ⟨?_, ?_⟩
           · (first | (rw [World.cell?_of_block (w := (w.alloc (.cells #[.int .i64 2, .int .i64 file, .int .i64 to, .slice ao b.length cap] 32)).drew) (hu.block w.heap.size (by simp) (fun h => h))]; simp [go_sem]; done) | (rw [hst.other HNB.out (by have := hu.size; simp at this; omega)]; assumption))
           · (first | (rw [World.cell?_of_block (w := (w.alloc (.cells #[.int .i64 2, .int .i64 file, .int .i64 to, .slice ao b.length cap] 32)).drew) (hu.block w.heap.size (by simp) (fun h => h))]; simp [go_sem]; done) | (rw [hst.other HNB.out (by have := hu.size; simp at this; omega)]; assumption))))
      (first
        | (go_at_call 19; refine (name_any _ _).mono ?_; rintro e w1 ⟨rfl, hu⟩; have hin1 := HIN2.out.upd hu (fun _ _ h => h); have hby1 := HB.out.upd (HDR.out.trans hu (fun _ _ h => h)) (fun a l c h h0 => ⟨fun h => h, (HA.out a l c h h0).2⟩); have haw1 : ∀ (a : Addr) (l c : Nat), Value.slice ao b.length cap = Value.slice (some a) l c → 0 < l → a.block ≠ s.p ∧ a.block < w1.heap.size := fun a l c h h0 => ⟨fun e => (HA.out a l c h h0).1 (by simp [DS.blocks, e]), Nat.lt_of_lt_of_le (HA.out a l c h h0).2 (HDR.out.trans hu (fun _ _ h => h)).size⟩)
        | (go_at_call 31; refine (append_any (by assumption) _ (by assumption) (by assumption)).mono ?_; rintro e w2 ⟨rfl, s2, hst, habs⟩))
    have H1 := hid (((Step.of_upd HS.out HDR.out).trans (Step.of_upd HIN2.out hu)).trans hst)
    have H2 := hid habs
    clear hu hin1 hby1 haw1 hst habs
    go_wp2
    go_ret
    exact ⟨rfl, s2, H1.out, H2.out⟩
  rw [if_neg k2]
  by_cases k3 : kind = 3
  · rw [if_pos k3]
    subst k3
    clear k1 k2
    go_enter Try.func14, Try.ntmps14
    go_wp2_with fail
    refine (name_any _ _).mono ?_
    rintro e w1 ⟨rfl, hu⟩
    have hin1 := HIN.out.upd hu (fun _ _ h => h)
    have HU := hid hu; have HIN1 := hid hin1
    clear hu hin1
    go_wp2_with fail
    refine (sync_any HIN1.out _).mono ?_
    rintro e w2 ⟨rfl, s2, hst, habs⟩
    have H1 := hid hst; have H2 := hid habs
    clear hst habs
    go_wp2
    go_ret
    exact ⟨rfl, s2, ((Step.of_upd HS.out HU1.out).trans (Step.of_upd HIN.out HU.out)).trans H1.out, H2.out⟩
  rw [if_neg k3]
  by_cases k4 : kind = 4
  · rw [if_pos k4]
    subst k4
    clear k1 k2 k3
    go_enter Try.func14, Try.ntmps14
    go_wp2_with fail
    have hdr : Upd (fun _ => False) w ((w.alloc (.cells #[.int .i64 4, .int .i64 file, .int .i64 to, .slice ao b.length cap] 32)).drew) := HU1.out.drew
    have HST0 := hid (Step.of_upd HS.out hdr)
    have HIN2 := hid (HS.out.upd hdr (fun _ _ h => h))
    have hnb : w.heap.size ∉ s.blocks := fun hm => by have := HS.out.lt _ hm; omega
    have HNB := hid hnb
    clear hdr hnb
    go_region_held3 (fun W => W.cell? ⟨w.heap.size, 1, none⟩ = some (.int .i64 file) ∧ W.cell? ⟨w.heap.size, 2, none⟩ = some (.int .i64 to))
      (first
        | go_keep
        | (go_split_ands
           refine ⟨?_, ?_⟩
           · (first | (rw [World.cell?_of_block (hu.block w.heap.size (by first | assumption | simp) (fun h => h))]; first | assumption | (simp [go_sem]; done)) | (rw [hst.other HNB.out (by assumption)]; assumption))
           · (first | (rw [World.cell?_of_block (hu.block w.heap.size (by first | assumption | simp) (fun h => h))]; first | assumption | (simp [go_sem]; done)) | (rw [hst.other HNB.out (by assumption)]; assumption))))
      (first
        | (go_at_call 19; refine (name_any _ _).mono ?_; rintro e w1 ⟨rfl, hu⟩; first | (have hst2 := hst1.trans (Step.of_upd hin1 hu); have hin2 := hin1.upd hu (fun _ _ h => h); have hsz : w.heap.size < w1.heap.size := Nat.lt_of_lt_of_le hsz hu.size) | (have hst1 := HST0.out.trans (Step.of_upd HIN2.out hu); have hin1 := HIN2.out.upd hu (fun _ _ h => h); have hsz : w.heap.size < w1.heap.size := Nat.lt_of_lt_of_le (by simp) hu.size))
        | (go_at_call 33; refine (rename_any hin2 _ _).mono ?_; rintro e w2 ⟨rfl, s2, hst, habs⟩))
    have H1 := hid (hst2.trans hst)
    have H2 := hid habs
    clear hst1 hin1 hst2 hin2 hst habs
    go_wp2
    go_ret
    exact ⟨rfl, s2, H1.out, H2.out⟩
  rw [if_neg k4]
  by_cases k5 : kind = 5
  · rw [if_pos k5]
    subst k5
    clear k1 k2 k3 k4
    go_enter Try.func14, Try.ntmps14
    go_wp2_with fail
    refine (name_any _ _).mono ?_
    rintro e w1 ⟨rfl, hu⟩
    have hin1 := HIN.out.upd hu (fun _ _ h => h)
    have HU := hid hu; have HIN1 := hid hin1
    clear hu hin1
    go_wp2_with fail
    refine (delete_any HIN1.out _).mono ?_
    rintro e w2 ⟨rfl, s2, hst, habs⟩
    have H1 := hid hst; have H2 := hid habs
    clear hst habs
    go_wp2
    go_ret
    exact ⟨rfl, s2, ((Step.of_upd HS.out HU1.out).trans (Step.of_upd HIN.out HU.out)).trans H1.out, H2.out⟩
  rw [if_neg k5]
  have e1 : (kind == (1 : Int)) = false := by simpa using k1
  have e2 : (kind == (2 : Int)) = false := by simpa using k2
  have e3 : (kind == (3 : Int)) = false := by simpa using k3
  have e4 : (kind == (4 : Int)) = false := by simpa using k4
  have e5 : (kind == (5 : Int)) = false := by simpa using k5
  go_enter Try.func14, Try.ntmps14
  go_wp2
  go_ret
  exact ⟨rfl, s, Step.of_upd HS.out HU1.out, rfl⟩


end Go.Proofs.Ytohpgmeflmppaaa
