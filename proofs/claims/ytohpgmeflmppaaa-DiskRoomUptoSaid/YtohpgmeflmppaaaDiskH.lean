/-
  Package disk, walked: List, Arm, Counts, New.
-/
import Derived.Test.YtohpgmeflmppaaaDiskG
namespace Go.Proofs.Ytohpgmeflmppaaa
set_option linter.unusedVariables false
set_option linter.unusedSimpArgs false
set_option linter.unnecessarySimpa false
set_option linter.unusedSectionVars false
open Go Go.RowKit

/-- The shape of a row that reads as a list of one-cell values. -/
theorem owns_shape {w : World} {base : Nat} {e : TypeId} {n : Nat} {v : Value} {xs : List Value} (h : w.ownsRow base e 1 v n xs) : ∃ ao cap, v = .slice ao n cap ∧ n = xs.length ∧
    ∀ k (hk : k < n), ∃ g, ao = some ⟨g, 0, none⟩ ∧ base ≤ g ∧ g < w.heap.size ∧ ∀ j (hj : j < xs.length), w.cell? ⟨g, j, none⟩ = some xs[j] := by
  obtain ⟨hl, h⟩ := h
  have hn : n = xs.length := by simpa using hl.symm
  rcases h with ⟨rfl, rfl⟩ | ⟨g, cap, cur, rfl, hb, hg, h2, h3, h4, h5⟩
  · exact ⟨none, 0, rfl, hn, fun k hk => absurd hk (by omega)⟩
  · refine ⟨some ⟨g, 0, none⟩, cap, rfl, hn, fun k hk => ⟨g, rfl, hb, lt_of_heap hg, fun j hj => ?_⟩⟩
    rw [cell_of_row w g j cur _ _ hg, ← Array.getElem?_toList]
    have := congrArg (fun l => l[j]?) h5
    simp only [List.getElem?_take, Nat.mul_one, List.getElem?_eq_getElem hj] at this
    rw [if_pos (by omega)] at this
    exact this

def hasPre (p : ByteArray) (s : ByteArray) : Bool := Lib.hasPrefix s.data.toList p.data.toList
def listNames (s : DS) (p : ByteArray) : List ByteArray := (sortNames s.names).filter (hasPre p)

theorem filter_take_step (f : ByteArray → Bool) (l : List ByteArray) (k : Nat) (h : k < l.length) : (l.take (k + 1)).filter f = (l.take k).filter f ++ (if f l[k] then [l[k]] else []) := by
  rw [List.take_succ_eq_append_getElem h, List.filter_append]
  congr 1
  by_cases hf : f l[k] = true <;> simp [List.filter_cons, hf]

set_option maxRecDepth 100000 in
set_option maxHeartbeats 2000000 in
theorem list_any {w : World} {s : DS} (hs : s.In w) (p : ByteArray) :
    Calls Try.prog 29 #[.pointer (some ⟨s.p, 0, none⟩), .string p] w fun e w' =>
      ∃ v n, e = .returned v ∧ w'.ownsRow w.heap.size 9 1 v n ((listNames s p).map Value.string) ∧ Upd (fun _ => False) w w' := by
  have HN := hid (names_any hs)
  have hcount : s.names.length ≤ 256 := by simpa [DS.names] using hs.count
  obtain ⟨i0, hi, hz0, hz1, hz2⟩ := info_parts Try.info9'
  have HS := hid hs
  clear hs
  go_enter Try.func29, Try.ntmps29
  go_wp2_with fail
  refine HN.out.mono ?_
  rintro e w1 ⟨v, n, rfl, hown, hu⟩
  obtain ⟨ao, cap, rfl, hn, hcells⟩ := owns_shape hown
  have hlen : n = (sortNames s.names).length := by simpa using hn
  have hlen2 : (sortNames s.names).length = s.names.length := (sortNames_perm s.names).length_eq
  have hn256 : n ≤ 256 := by omega
  have HU := hid hu; have HC := hid hcells; have HL := hid hlen
  clear hown hu hcells hlen hlen2 hn hcount
  go_wp2
  go_loopw [5, 11] (fun lv i wr => ∃ k : Nat, k ≤ n ∧ i = .int .i64 k ∧ (∃ m, m ≤ k ∧ wr.ownsRow w1.heap.size 9 1 lv m ((((sortNames s.names).take k).filter (hasPre p)).map Value.string)) ∧ Upd (fun _ => False) w1 wr)
    (fun _ i _ => n - (intOf i).toNat)
  case atStart => exact ⟨0, Nat.zero_le _, rfl, ⟨0, Nat.le_refl _, World.ownsRow_nil _ _ _ _⟩, Upd.refl _ _⟩
  case round =>
    obtain ⟨k, hk, rfl, ⟨m, hm, hown⟩, hup⟩ := hrel
    have HUP := hid hup
    clear hup
    by_cases hlt : k < n
    · obtain ⟨g, rfl, hg1, hg2, hg3⟩ := HC.out k hlt
      have hkl : k < (sortNames s.names).length := by have := HL.out; omega
      have hcell : wr.cell? ⟨g, k, none⟩ = some (.string (sortNames s.names)[k]) := by
        rw [World.cell?_of_block (HUP.out.block g hg2 (fun h => h))]
        have := hg3 k (by simpa using hkl)
        simpa using this
      obtain ⟨x, hx⟩ : ∃ x, x = (sortNames s.names)[k] := ⟨_, rfl⟩
      rw [← hx] at hcell
      have hstep := filter_take_step (hasPre p) (sortNames s.names) k hkl
      rw [← hx] at hstep
      have HST := hid hstep
      have hws := HUP.out.size
      have hws0 := HU.out.size
      clear hstep hg3 hx
      cases hpf : Lib.hasPrefix x.data.toList p.data.toList
      · have hpf' : hasPre p x = false := hpf
        have HPF := hid hpf'; clear hpf'
        have HO := hid hown; clear hown
        go_wp2_with (go_at_call 51; refine (Try.strings_HasPrefix _ _ _).mono ?_; rintro e w' ⟨rfl, rfl⟩)
        go_roundw
        case rel => exact ⟨k + 1, by omega, by go_num, ⟨m, by omega, by rw [HST.out, HPF.out]; simpa using HO.out⟩, HUP.out⟩
        case measure => simp [intOf]; omega
      · have hpf' : hasPre p x = true := hpf
        have HPF := hid hpf'; clear hpf'
        go_wp2_with (first
          | (go_at_call 51; refine (Try.strings_HasPrefix _ _ _).mono ?_; rintro e w' ⟨rfl, rfl⟩)
          | (at_builtin; refine wpList_append_own _ rfl _ _ 57 rfl w1.heap.size 9 i0 (.string ByteArray.empty) 1 16 Try.underlying57 hi hz0 hz1 hz2 rfl (by decide) _ _ _ rfl (hown.alloc _) ⟨_, 0, none⟩ 1 1 [.string x] rfl rfl ?c1 ?c2 ?c3 ?c4 ?c5 ?_))
        case c1 =>
          intro j u hj
          match j, hj with
          | 0, hj => simp at hj; subst hj; simp [Addr.add]
        case c2 => intro u hu; simp at hu; subst hu; rfl
        case c3 => unfold maxLen; omega
        case c4 => omega
        case c5 => simp; omega
        intro v' w3 hown3 hg3 _
        have hup3 : Upd (fun _ => False) w1 w3 := (HUP.out.alloc _).grown hg3 (fun b hb hlt => by have := (hown.lt b hb).1; omega)
        have hown4 : w3.ownsRow w1.heap.size 9 1 v' (m + 1) ((((sortNames s.names).take (k + 1)).filter (hasPre p)).map Value.string) := by
          rw [HST.out, HPF.out]; simpa using hown3
        have H1 := hid hup3; have H2 := hid hown4
        clear hup3 hown4 hown3 hg3 hown
        go_wp2
        go_roundw
        case rel => exact ⟨k + 1, by omega, by go_num, ⟨m + 1, by omega, H2.out⟩, H1.out⟩
        case measure => simp [intOf]; omega
    · obtain rfl : k = n := by omega
      have hfin : ((sortNames s.names).take k).filter (hasPre p) = listNames s p := by rw [HL.out, List.take_length]; rfl
      rw [hfin] at hown
      have H1 := hid hown
      clear hown hfin
      go_wp2
      go_ret
      exact ⟨_, m, rfl, owns_lower H1.out HU.out.size, HU.out.trans HUP.out (fun _ _ h => h)⟩

set_option maxRecDepth 100000 in
theorem arm_any {w : World} {s : DS} (hs : s.In w) (n : Int) (hn : n ≤ 9223372036854775807) :
    Calls Try.prog 11 #[.pointer (some ⟨s.p, 0, none⟩), .int .i64 n] w fun e w' => e = .returned (.tuple #[]) ∧ Step w w' s (if s.down then s else { s with armed := max n 0 }) := by
  have cd := hs.c_down
  have c4 := hs.c_armed
  have f4 := hs.free 4
  have HS := hid hs
  clear hs
  by_cases hd : s.down = false
  · rw [hd] at cd
    rw [if_neg (by simp [hd])]
    have hst : Step w (w.setCell ⟨s.p, 4, none⟩ (.int .i64 (max n 0))) s { s with armed := max n 0 } :=
      HS.out.top_turned (Upd.cell_only _ _ _ _) rfl rfl rfl rfl (heap_setCell_at _ _ _ _ _ _ HS.out.top) ⟨by show 0 ≤ max n 0; omega, by show max n 0 ≤ _; omega⟩
    have H1 := hid hst
    clear hst hd
    go_enter Try.func11, Try.ntmps11
    go_wp2
    all_goals (go_end0; exact ⟨rfl, H1.out⟩)
  · have hd' : s.down = true := by simpa using hd
    rw [hd'] at cd
    rw [if_pos hd']
    clear hd hd'
    go_enter Try.func11, Try.ntmps11
    go_wp2
    go_end0
    exact ⟨rfl, Step.refl HS.out⟩

/-- An empty disk. -/
def newA (cap : Nat) : DiskA := ⟨cap, [], false, 0, ⟨0, 0, 0, 0, 0, 0⟩⟩

set_option maxRecDepth 100000 in
theorem new_no (w : World) (n : Int) (hn : n < 0 ∨ 67108864 < n) :
    Calls Try.prog 44 #[.int .i64 n] w fun e w' => e = .returned (.tuple #[.pointer none, .int .i64 1]) ∧ w' = w := by
  rcases hn with h | h
  · go_enter Try.func44, Try.ntmps44
    go_wp2
    go_ret2
    exact ⟨rfl, rfl⟩
  · have h' : ¬ n < 0 := by omega
    go_enter Try.func44, Try.ntmps44
    go_wp2
    go_ret2
    exact ⟨rfl, rfl⟩

set_option maxRecDepth 100000 in
theorem new_yes (w : World) (n : Nat) (hn : n ≤ 67108864) :
    Calls Try.prog 44 #[.int .i64 n] w fun e w' => ∃ s : DS, e = .returned (.tuple #[.pointer (some ⟨s.p, 0, none⟩), .int .i64 0]) ∧ s.In w' ∧ s.abs = newA n ∧ (∀ k ∈ s.blocks, w.heap.size ≤ k) ∧ Upd (fun _ => False) w w' := by
  have hmm := @run_makeMap Try.prog
  have h1 : ¬ ((n : Int) < 0) := by omega
  have h2 : ¬ (67108864 < (n : Int)) := by omega
  go_enter Try.func44, Try.ntmps44
  go_wp2
  go_ret2
  refine ⟨⟨w.heap.size + 1, w.heap.size, n, [], false, 0, ⟨0, 0, 0, 0, 0, 0⟩⟩, rfl, ⟨?_, ?_, by simp, by simp, by simp [DS.blocks, recBlocks], by simp, by simp [DS.used, usedOf], hn, by simp, trivial⟩, rfl, ?_, ((Upd.refl _ _).alloc _).alloc _⟩
  · have h := heap_alloc_new (w.alloc (.map #[] 0)) (.cells #[.int .i64 n, .int .i64 0, .map (some w.heap.size), .bool false, .int .i64 0, .int .i64 0, .int .i64 0, .int .i64 0, .int .i64 0, .int .i64 0, .int .i64 0] 91)
    rw [World.size_alloc] at h
    exact h
  · exact (MapIs.made w).of_block (heap_alloc_past _ _ _ (by simp))
  · intro k hk
    simp [DS.blocks, recBlocks] at hk
    omega

end Go.Proofs.Ytohpgmeflmppaaa
