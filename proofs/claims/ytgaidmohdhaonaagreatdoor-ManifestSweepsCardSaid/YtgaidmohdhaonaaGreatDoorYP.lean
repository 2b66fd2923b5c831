/-
  Package strataref2, strataref10, walked: Bytes, out, key.
  Package strataref10, walked: key, run.
  Package strataref10, walked: Check.
-/
import Derived.Test.YtgaidmohdhaonaaGreatDoorYN
import Derived.Test.YtgaidmohdhaonaaGreatDoorYE
import Derived.Test.YtgaidmohdhaonaaGreatDoorYO
import Derived.Test.YtgaidmohdhaonaaGreatDoorYF
namespace Go.Proofs.YtgaidmohdhaonaaGreatDoor
set_option linter.unusedVariables false
set_option linter.unusedSimpArgs false
set_option linter.unnecessarySimpa false
set_option linter.unusedSectionVars false
open Go Go.RowKit

set_option maxRecDepth 100000 in
theorem refNumber2_any {w : World} {a b : Int} : Calls Tryz.prog 167 #[.int .i64 a, .int .i64 b] w fun e w' => e = .returned (.int .i64 (if a < b then -1 else if b < a then 1 else 0)) ∧ w' = w := by
  by_cases h1 : a < b
  · rw [if_pos h1]
    go_enter Tryz.func167, Tryz.ntmps167
    go_wp2
    go_ret
    exact ⟨rfl, rfl⟩
  · rw [if_neg h1]
    by_cases h2 : b < a
    · rw [if_pos h2]
      go_enter Tryz.func167, Tryz.ntmps167
      go_wp2
      go_ret
      exact ⟨rfl, rfl⟩
    · rw [if_neg h2]
      go_enter Tryz.func167, Tryz.ntmps167
      go_wp2
      go_ret
      exact ⟨rfl, rfl⟩

/-- Which of two lists of bytes is ahead. -/
def cmpB : List UInt8 → List UInt8 → Int
  | [], [] => 0
  | [], _ :: _ => -1
  | _ :: _, [] => 1
  | a :: l, b :: m => if a.toNat < b.toNat then -1 else if b.toNat < a.toNat then 1 else cmpB l m
theorem cmpB_le : ∀ a b : List UInt8, decide (0 < cmpB a b) = !leL a b
  | [], [] => rfl
  | [], _ :: _ => rfl
  | _ :: _, [] => rfl
  | a :: l, b :: m => by
    rw [cmpB, leL]
    split
    · rfl
    · split
      · rfl
      · exact cmpB_le l m
theorem cmpB_nil (a b : List UInt8) (h : a = [] ∨ b = []) : cmpB a b = if a.length < b.length then -1 else if b.length < a.length then 1 else 0 := by
  cases a with
  | nil => cases b with
    | nil => rfl
    | cons c d => simp [cmpB]
  | cons c d => cases b with
    | nil => simp [cmpB]
    | cons e f => simp at h

set_option maxRecDepth 100000 in
set_option maxHeartbeats 3200000 in
theorem refBytes2_any {w : World} {v1 v2 : Value} {a b : List UInt8} (h1 : BAt w v1 a) (h2 : BAt w v2 b) :
    Calls Tryz.prog 125 #[v1, v2] w fun e w' => e = .returned (.int .i64 (cmpB a b)) ∧ Upd (fun _ => False) w w' := by
  have H1 := hid h1; have H2 := hid h2
  obtain ⟨ao, ca, rfl, k1, k2, -, -⟩ := h1
  obtain ⟨bo, cb, rfl, l1, l2, -, -⟩ := h2
  go_enter Tryz.func125, Tryz.ntmps125
  go_wp2
  go_loopw [5] (fun i wr => ∃ k : Nat, i = .int .i64 k ∧ k ≤ a.length ∧ k ≤ b.length ∧ Upd (fun _ => False) w wr ∧ cmpB a b = cmpB (a.drop k) (b.drop k)) (fun i _ => a.length - (intOf i).toNat)
  case atStart => exact ⟨0, rfl, Nat.zero_le _, Nat.zero_le _, Upd.refl _ _, by simp⟩
  case round =>
    obtain ⟨k, rfl, ha, hb, hu, hc⟩ := hrel
    have HU := hid hu; have HC := hid hc
    clear hu hc
    by_cases ha2 : k < a.length
    · by_cases hb2 : k < b.length
      · obtain ⟨g1, o1, e1, hg1, d1⟩ := (H1.out.keep HU.out).cell ha2
        obtain ⟨g2, o2, e2, hg2, d2⟩ := (H2.out.keep HU.out).cell hb2
        subst e1
        subst e2
        have HC2 := hid (show cmpB a b = if a[k].toNat < b[k].toNat then -1 else if b[k].toNat < a[k].toNat then 1 else cmpB (a.drop (k + 1)) (b.drop (k + 1)) from by rw [HC.out, List.drop_eq_getElem_cons ha2, List.drop_eq_getElem_cons hb2, cmpB])
        generalize a[k] = x at d1 HC2
        generalize b[k] = y at d2 HC2
        have hx8 := x.toNat_lt; have hy8 := y.toNat_lt
        have hai : (k : Int) < (a.length : Int) := by omega
        have hbi : (k : Int) < (b.length : Int) := by omega
        by_cases hlt : x.toNat < y.toNat
        · have HR := hid (show cmpB a b = -1 from by rw [HC2.out, if_pos hlt])
          have hli : (x.toNat : Int) < (y.toNat : Int) := by omega
          clear hlt
          go_wp2_with fail
          go_quiet (fail)
          go_wp2
          go_ret
          exact ⟨by rw [HR.out]; rfl, HU.out.drewN _⟩
        · have hli : ¬ (x.toNat : Int) < (y.toNat : Int) := by omega
          by_cases hgt : y.toNat < x.toNat
          · have HR := hid (show cmpB a b = 1 from by rw [HC2.out, if_neg hlt, if_pos hgt])
            have hgi : (y.toNat : Int) < (x.toNat : Int) := by omega
            clear hlt hgt
            go_wp2_with fail
            go_quiet (fail)
            go_wp2_with fail
            go_quiet (fail)
            go_wp2
            go_ret
            exact ⟨by rw [HR.out]; rfl, by first | exact HU.out.drewN _ | exact (HU.out.drewN _).drewN _⟩
          · have HR := hid (show cmpB a b = cmpB (a.drop (k + 1)) (b.drop (k + 1)) from by rw [HC2.out, if_neg hlt, if_neg hgt])
            have hgi : ¬ (y.toNat : Int) < (x.toNat : Int) := by omega
            clear hlt hgt
            go_wp2_with fail
            go_quiet (fail)
            go_wp2_with fail
            go_quiet (fail)
            go_wp2
            go_roundw
            case rel => exact ⟨k + 1, by simp, by omega, by omega, by first | exact HU.out.drewN _ | exact (HU.out.drewN _).drewN _, HR.out⟩
            case measure => simp [intOf]; omega
      · obtain rfl : k = b.length := by omega
        have HR := hid (show cmpB a b = if (a.length : Int) < (b.length : Int) then -1 else if (b.length : Int) < (a.length : Int) then 1 else 0 from by
          rw [HC.out, List.drop_eq_nil_of_le (Nat.le_refl _), cmpB_nil _ _ (.inr rfl)]
          simp only [List.length_drop, List.length_nil]
          rw [if_neg (by omega), if_pos (by omega), if_neg (by omega), if_pos (by omega)])
        have HN := hid (refNumber2_any (w := wr) (a := (a.length : Int)) (b := (b.length : Int)))
        rw [← HR.out] at HN
        have hai : ((b.length : Nat) : Int) < (a.length : Int) := by omega
        go_wp2_with fail
        refine HN.out.mono ?_
        rintro e w' ⟨rfl, hww⟩
        obtain rfl := hww.symm
        go_wp2
        go_ret
        exact ⟨rfl, HU.out⟩
    · obtain rfl : k = a.length := by omega
      have HR := hid (show cmpB a b = if (a.length : Int) < (b.length : Int) then -1 else if (b.length : Int) < (a.length : Int) then 1 else 0 from by
        rw [HC.out, List.drop_eq_nil_of_le (Nat.le_refl _), cmpB_nil _ _ (.inl rfl)]
        simp only [List.length_drop, List.length_nil]
        by_cases h : a.length < b.length
        · rw [if_pos (by omega), if_pos (by omega)]
        · rw [if_neg (by omega), if_neg (by omega), if_neg (by omega), if_neg (by omega)])
      have HN := hid (refNumber2_any (w := wr) (a := (a.length : Int)) (b := (b.length : Int)))
      rw [← HR.out] at HN
      go_wp2_with fail
      refine HN.out.mono ?_
      rintro e w' ⟨rfl, hww⟩
      obtain rfl := hww.symm
      go_wp2
      go_ret
      exact ⟨rfl, HU.out⟩

set_option maxRecDepth 100000 in
theorem out10_any {w : World} {n lo hi : Int} : Calls Tryz.prog 55 #[.int .i64 n, .int .i64 lo, .int .i64 hi] w fun e w' => e = .returned (.bool (!(ins n lo hi))) ∧ w' = w := by
  unfold ins
  by_cases h1 : lo ≤ n
  · by_cases h2 : n ≤ hi
    · rw [decide_eq_true (And.intro h1 h2), Bool.not_true]
      have g1 : ¬ n < lo := by omega
      have g2 : ¬ hi < n := by omega
      clear h1 h2
      go_enter Tryz.func55, Tryz.ntmps55
      go_wp2
      go_ret
      exact ⟨rfl, rfl⟩
    · rw [decide_eq_false (fun e => h2 e.2), Bool.not_false]
      have g1 : ¬ n < lo := by omega
      have g2 : hi < n := by omega
      clear h1 h2
      go_enter Tryz.func55, Tryz.ntmps55
      go_wp2
      go_ret
      exact ⟨rfl, rfl⟩
  · rw [decide_eq_false (fun e => h1 e.1), Bool.not_false]
    have g1 : n < lo := by omega
    clear h1
    go_enter Tryz.func55, Tryz.ntmps55
    go_wp2
    go_ret
    exact ⟨rfl, rfl⟩

end Go.Proofs.YtgaidmohdhaonaaGreatDoor

namespace Go.Proofs.YtgaidmohdhaonaaGreatDoor
set_option linter.unusedVariables false
set_option linter.unusedSimpArgs false
set_option linter.unnecessarySimpa false
set_option linter.unusedSectionVars false
open Go Go.RowKit

set_option maxRecDepth 100000 in
theorem key10_any {w : World} {v : Value} {b : List UInt8} (hv : BAt w v b) (hl : b.length ≤ 140737488351232) :
    Calls Tryz.prog 124 #[v] w fun e w' => e = .returned (.bool (isKeyB b)) ∧ Upd (fun _ => False) w w' := by
  have HP := hid (refParseKey_any hv hl)
  cases hk : isKeyB b
  · rw [hk] at HP
    clear hk
    go_enter Tryz.func124, Tryz.ntmps124
    go_wp2_with fail
    refine HP.out.mono ?_
    rintro e w1 ⟨x1, x2, x3, x4, x5, x6, x7, x8, x9, x0, rfl, hu⟩
    have HU := hid (hu.alloc (.cells (entC (.slice x1 x2 x3) x4 (.slice x5 x6 x7) x8 x9 x0) 215))
    clear hu
    go_wp2
    go_ret
    exact ⟨rfl, HU.out⟩
  · rw [hk] at HP
    clear hk
    go_enter Tryz.func124, Tryz.ntmps124
    go_wp2_with fail
    refine HP.out.mono ?_
    rintro e w1 ⟨x1, x2, x3, x4, x5, x6, x7, x8, x9, x0, rfl, hu⟩
    have HU := hid (hu.alloc (.cells (entC (.slice x1 x2 x3) x4 (.slice x5 x6 x7) x8 x9 x0) 215))
    clear hu
    go_wp2
    go_ret
    exact ⟨rfl, HU.out⟩

/-- Is there such a number ahead? -/
def twin (x : VerA) (i : Nat) (n : Int) : Bool := (x.runs.take i).any fun r => decide (r.num = n)
/-- Are the numbers right? -/
def numsOk (x : VerA) (r : MetaA) : Bool := ins r.num 1 (x.next - 1) && decide (1 ≤ r.count) && ins r.index 0 x.flushed && ins r.clock 1 x.clock && ins r.low 0 x.low && decide (r.low < r.clock) && ins r.bytes 1 16777216
theorem fitsA_eq (x : VerA) (r : MetaA) : fitsA x r = (numsOk x r && (isKeyB r.first && (isKeyB r.last && leL r.first r.last))) := by
  unfold fitsA numsOk
  cases ins r.num 1 (x.next - 1) <;> cases decide (1 ≤ r.count) <;> cases ins r.index 0 x.flushed <;> cases ins r.bytes 1 16777216 <;> cases ins r.clock 1 x.clock <;> cases ins r.low 0 x.low <;> cases decide (r.low < r.clock) <;> rfl
theorem twin_eq {x : VerA} {i : Nat} {n : Int} : twin x i n = decide (n ∈ (x.runs.take i).map MetaA.num) := by
  unfold twin
  rw [Bool.eq_iff_iff]
  simp only [List.any_eq_true, decide_eq_true_eq, List.mem_map]
theorem runOkA_split {x : VerA} {k : Nat} (hk : k < x.runs.length) : runOkA x k = (!twin x k x.runs[k].num && (numsOk x x.runs[k] && ((isKeyB x.runs[k].first && (isKeyB x.runs[k].last && leL x.runs[k].first x.runs[k].last)) && (decide (k = 0) || behindA (x.runs.getD (k - 1) zeroMeta) x.runs[k])))) := by
  rw [runOkA_eq hk, twin_eq, fitsA_eq]
  generalize decide (x.runs[k].num ∈ (x.runs.take k).map MetaA.num) = A
  generalize numsOk x x.runs[k] = B
  generalize (isKeyB x.runs[k].first && (isKeyB x.runs[k].last && leL x.runs[k].first x.runs[k].last)) = C
  generalize (decide (k = 0) || behindA (x.runs.getD (k - 1) zeroMeta) x.runs[k]) = D
  cases A <;> cases B <;> cases C <;> cases D <;> rfl

set_option maxRecDepth 100000 in
set_option maxHeartbeats 6400000 in
theorem refRun_any {w : World} {v : Value} {x : VerA} {k : Nat} (hv : VerAt w v x) (hk : k < x.runs.length) (hn : 1 ≤ x.next ∧ x.next ≤ 1099511627776) (hk64 : x.runs.length ≤ 64) (hl : ∀ r ∈ x.runs, r.first.length ≤ 140737488351232 ∧ r.last.length ≤ 140737488351232) :
    Calls Tryz.prog 56 #[v, .int .i64 k] w fun e w' => e = .returned (.bool (runOkA x k)) ∧ Upd (fun _ => False) w w' := by
  obtain ⟨s1, d1, s2, d2, rfl, hb1, hb2⟩ := hv
  obtain ⟨ao, cap, e, hcap1, hcap2, hcells⟩ := hb2
  injection e with e1 e2 e3
  subst e1
  subst e3
  clear e2 hb1
  have HU0 := hid ((Upd.refl (fun _ => False) w).alloc (.cells #[.int .i64 x.gen, .int .i64 x.flushed, .int .i64 x.next, .int .i64 x.low, .int .i64 x.clock, .slice s1 x.state.length d1, .slice s2 x.runs.length d2] 25))
  have HR0 := hid (heap_alloc_new w (.cells #[.int .i64 x.gen, .int .i64 x.flushed, .int .i64 x.next, .int .i64 x.low, .int .i64 x.clock, .slice s1 x.state.length d1, .slice s2 x.runs.length d2] 25))
  obtain ⟨b, o, f1, c1, f2, c2, hs2, hb, g0, g1, g2, g3, g4, g5, g6, g7, hB1, hB2⟩ := hcells k hk
  subst hs2
  have HLR := hid (hl _ (List.getElem_mem hk))
  have HSP := hid (runOkA_split hk)
  have HCE := hid hcells
  obtain ⟨r, hr⟩ : ∃ r, r = x.runs[k] := ⟨_, rfl⟩
  rw [← hr] at g0 g1 g2 g3 g4 g5 g6 g7 hB1 hB2 HLR HSP
  have HB1 := hid hB1; have HB2 := hid hB2
  obtain ⟨R, hR⟩ : ∃ R, R = runOkA x k := ⟨_, rfl⟩
  rw [← hR] at HSP ⊢
  clear hB1 hB2 hr hcells hl hR
  obtain ⟨q, hq⟩ : ∃ q, q = w.heap.size := ⟨_, rfl⟩
  rw [← hq] at HR0
  have HQ := hid hq
  clear hq
  go_enter Tryz.func56, Tryz.ntmps56
  go_wp2
  rw [← HQ.out]
  have hrow1 := heap_alloc_new (w.alloc (.cells #[.int .i64 x.gen, .int .i64 x.flushed, .int .i64 x.next, .int .i64 x.low, .int .i64 x.clock, .slice s1 x.state.length d1, .slice (some ⟨b, o, none⟩) x.runs.length d2] 25)) (.cells #[.int .i64 r.num, .int .i64 r.count, .int .i64 r.index, .int .i64 r.low, .int .i64 r.clock, .int .i64 r.bytes, .slice f1 r.first.length c1, .slice f2 r.last.length c2] 48)
  have hsz1 : (w.alloc (.cells #[.int .i64 x.gen, .int .i64 x.flushed, .int .i64 x.next, .int .i64 x.low, .int .i64 x.clock, .slice s1 x.state.length d1, .slice (some ⟨b, o, none⟩) x.runs.length d2] 25)).heap.size = w.heap.size + 1 := by simp
  rw [hsz1, ← HQ.out] at hrow1
  have hu1 : Upd (fun _ => False) (w.alloc (.cells #[.int .i64 x.gen, .int .i64 x.flushed, .int .i64 x.next, .int .i64 x.low, .int .i64 x.clock, .slice s1 x.state.length d1, .slice (some ⟨b, o, none⟩) x.runs.length d2] 25)) ((w.alloc (.cells #[.int .i64 x.gen, .int .i64 x.flushed, .int .i64 x.next, .int .i64 x.low, .int .i64 x.clock, .slice s1 x.state.length d1, .slice (some ⟨b, o, none⟩) x.runs.length d2] 25)).alloc (.cells #[.int .i64 r.num, .int .i64 r.count, .int .i64 r.index, .int .i64 r.low, .int .i64 r.clock, .int .i64 r.bytes, .slice f1 r.first.length c1, .slice f2 r.last.length c2] 48)) := (Upd.refl _ _).alloc _
  have HU1 := hid (HU0.out.trans hu1 (fun _ _ e => e))
  have HRQ := hid (hu1.get HR0.out (fun e => e))
  obtain ⟨b5, hb5⟩ : ∃ b5, b5 = q + 1 := ⟨_, rfl⟩
  have HR5 := hid hrow1
  rw [← hb5] at HR5
  rw [← hb5]
  generalize (w.alloc (.cells #[.int .i64 x.gen, .int .i64 x.flushed, .int .i64 x.next, .int .i64 x.low, .int .i64 x.clock, .slice s1 x.state.length d1, .slice (some ⟨b, o, none⟩) x.runs.length d2] 25)).alloc (.cells #[.int .i64 r.num, .int .i64 r.count, .int .i64 r.index, .int .i64 r.low, .int .i64 r.clock, .int .i64 r.bytes, .slice f1 r.first.length c1, .slice f2 r.last.length c2] 48) = W1 at HU1 HRQ HR5 ⊢
  have hbw : b < w.heap.size := hb
  have HBW := hid hbw
  clear hrow1 hsz1 hu1 hb5 g0 g1 g2 g3 g4 g5 g6 g7 hb hbw
  go_loopw [6] (fun i wr => ∃ j : Nat, i = .int .i64 j ∧ j ≤ k ∧ twin x j r.num = false ∧ Upd (fun _ => False) W1 wr) (fun i _ => k - (intOf i).toNat)
  case atStart => exact ⟨0, rfl, Nat.zero_le _, rfl, Upd.refl _ _⟩
  case round =>
    obtain ⟨j, rfl, hj, htw, hu⟩ := hrel
    have HU := hid hu; have HTW := hid htw
    clear hu htw
    have v6 := cell_of_row wr q 6 _ _ _ (HU.out.get HRQ.out (fun e => e))
    have hql : q < wr.heap.size := lt_of_heap (HU.out.get HRQ.out (fun e => e))
    have z0 := cell_of_row wr b5 0 _ _ _ (HU.out.get HR5.out (fun e => e))
    have hzl : b5 < wr.heap.size := lt_of_heap (HU.out.get HR5.out (fun e => e))
    have hbl : b < wr.heap.size := Nat.lt_of_lt_of_le (Nat.lt_of_lt_of_le HBW.out HU1.out.size) HU.out.size
    by_cases hlt : j < k
    · have hjl : j < x.runs.length := by omega
      obtain ⟨b', o', h1, h2, h3, h4, hs2, hb', g0, -⟩ := HCE.out j hjl
      injection hs2 with hs2
      injection hs2 with hs21 hs22
      subst hs21
      subst hs22
      have u0 := HU.out.cell (Nat.lt_of_lt_of_le hb' HU1.out.size) (HU1.out.cell hb' g0)
      have hjli : (j : Int) < (x.runs.length : Int) := by omega
      have HTS := hid (show twin x (j + 1) r.num = (twin x j r.num || decide (x.runs[j].num = r.num)) from by unfold twin; rw [List.take_succ_eq_append_getElem hjl, List.any_append]; simp only [List.any_cons, List.any_nil, Bool.or_false])
      generalize x.runs[j].num = nj at u0 HTS
      clear g0 hb'
      by_cases he : nj = r.num
      · have heb : (nj == r.num) = true := by simpa using he
        have HF := hid (show R = false from by
          rw [HSP.out]
          have h9 : twin x k r.num = true := by
            have h8 : twin x (j + 1) r.num = true := by rw [HTS.out]; simp [he]
            unfold twin at h8 ⊢
            rw [List.any_eq_true] at h8 ⊢
            obtain ⟨y, hy, hy2⟩ := h8
            exact ⟨y, (List.take_subset_take_left _ (by omega : j + 1 ≤ k)) hy, hy2⟩
          rw [h9]; rfl)
        clear he
        go_wp2_with fail
        go_quiet (fail)
        go_wp2
        go_ret
        exact ⟨by rw [HF.out]; rfl, HU1.out.trans (HU.out.drewN _) (fun _ _ e => e)⟩
      · have heb : (nj == r.num) = false := by simpa using he
        have HTN := hid (show twin x (j + 1) r.num = false from by rw [HTS.out, HTW.out]; simp [he])
        clear he
        go_wp2_with fail
        go_quiet (fail)
        go_wp2
        go_roundw
        case rel => exact ⟨j + 1, by simp, by omega, HTN.out, HU.out.drewN _⟩
        case measure => simp [intOf]; omega
    · obtain rfl : j = k := by omega
      have HS2 := hid (show R = (numsOk x r && ((isKeyB r.first && (isKeyB r.last && leL r.first r.last)) && (decide (j = 0) || behindA (x.runs.getD (j - 1) zeroMeta) r))) from by rw [HSP.out, HTW.out]; rfl)
      obtain ⟨W2, rfl⟩ : ∃ W2, W2 = wr := ⟨_, rfl⟩
      have HRQ2 := hid (HU.out.get HRQ.out (fun e => e)); have HR52 := hid (HU.out.get HR5.out (fun e => e))
      have HU2 := hid (HU1.out.trans HU.out (fun _ _ e => e))
      clear v6 z0 HRQ HR5 HU HSP HTW HU1 HU0 HR0
      have v1 := cell_of_row W2 q 1 _ _ _ HRQ2.out; have v2 := cell_of_row W2 q 2 _ _ _ HRQ2.out; have v3 := cell_of_row W2 q 3 _ _ _ HRQ2.out; have v4 := cell_of_row W2 q 4 _ _ _ HRQ2.out
      have z0 := cell_of_row W2 b5 0 _ _ _ HR52.out; have z1 := cell_of_row W2 b5 1 _ _ _ HR52.out; have z2 := cell_of_row W2 b5 2 _ _ _ HR52.out; have z3 := cell_of_row W2 b5 3 _ _ _ HR52.out; have z4 := cell_of_row W2 b5 4 _ _ _ HR52.out; have z5 := cell_of_row W2 b5 5 _ _ _ HR52.out
      have HW := hid (fun (W : World) (n lo hi : Int) (h : lo ≤ n ∧ n ≤ hi) => show Calls Tryz.prog 55 #[.int .i64 n, .int .i64 lo, .int .i64 hi] W fun e w' => e = .returned (.bool false) ∧ w' = W from by have h1 := out10_any (w := W) (n := n) (lo := lo) (hi := hi); rwa [show ins n lo hi = true from by unfold ins; simpa using h] at h1)
      have HN := hid (fun (W : World) (n lo hi : Int) (h : ¬ (lo ≤ n ∧ n ≤ hi)) => show Calls Tryz.prog 55 #[.int .i64 n, .int .i64 lo, .int .i64 hi] W fun e w' => e = .returned (.bool true) ∧ w' = W from by have h1 := out10_any (w := W) (n := n) (lo := lo) (hi := hi); rwa [show ins n lo hi = false from by unfold ins; simpa using h] at h1)
      have hsub : IntKind.i64.wrap (x.next - 1) = x.next - 1 := by rw [IntKind.wrap_i64]; omega
      go_upto_region 7 with fail
      go_cut [70] (fun bv wx => bv = .bool (!numsOk x r) ∧ wx = W2)
      case first =>
        by_cases h0 : 1 ≤ r.num ∧ r.num ≤ (x.next - 1)
        · skip
          by_cases hc : r.count < 1
          · skip
            go_wp2_with fail
            refine (HW.out _ _ _ _ h0).mono ?_
            rintro e wn ⟨rfl, hww⟩
            obtain rfl := hww.symm
            go_wp2
            go_meet
            case rel => exact ⟨by (try clear hsub); first | (simp [numsOk, ins, *]; done) | (simp [numsOk, ins]; omega) | (simp [numsOk, ins, *]; omega), rfl⟩
          · skip
            by_cases h2 : 0 ≤ r.index ∧ r.index ≤ x.flushed
            · skip
              by_cases h3 : 1 ≤ r.clock ∧ r.clock ≤ x.clock
              · skip
                by_cases h4 : 0 ≤ r.low ∧ r.low ≤ x.low
                · skip
                  by_cases hlc : r.clock ≤ r.low
                  · skip
                    go_wp2_with fail
                    refine (HW.out _ _ _ _ h0).mono ?_
                    rintro e wn ⟨rfl, hww⟩
                    obtain rfl := hww.symm
                    go_wp2_with fail
                    refine (HW.out _ _ _ _ h2).mono ?_
                    rintro e wn ⟨rfl, hww⟩
                    obtain rfl := hww.symm
                    go_wp2_with fail
                    refine (HW.out _ _ _ _ h3).mono ?_
                    rintro e wn ⟨rfl, hww⟩
                    obtain rfl := hww.symm
                    go_wp2_with fail
                    refine (HW.out _ _ _ _ h4).mono ?_
                    rintro e wn ⟨rfl, hww⟩
                    obtain rfl := hww.symm
                    go_wp2
                    go_meet
                    case rel => exact ⟨by (try clear hsub); first | (simp [numsOk, ins, *]; done) | (simp [numsOk, ins]; omega) | (simp [numsOk, ins, *]; omega), rfl⟩
                  · skip
                    by_cases h6 : 1 ≤ r.bytes ∧ r.bytes ≤ 16777216
                    · skip
                      go_wp2_with fail
                      refine (HW.out _ _ _ _ h0).mono ?_
                      rintro e wn ⟨rfl, hww⟩
                      obtain rfl := hww.symm
                      go_wp2_with fail
                      refine (HW.out _ _ _ _ h2).mono ?_
                      rintro e wn ⟨rfl, hww⟩
                      obtain rfl := hww.symm
                      go_wp2_with fail
                      refine (HW.out _ _ _ _ h3).mono ?_
                      rintro e wn ⟨rfl, hww⟩
                      obtain rfl := hww.symm
                      go_wp2_with fail
                      refine (HW.out _ _ _ _ h4).mono ?_
                      rintro e wn ⟨rfl, hww⟩
                      obtain rfl := hww.symm
                      go_wp2_with fail
                      refine (HW.out _ _ _ _ h6).mono ?_
                      rintro e wn ⟨rfl, hww⟩
                      obtain rfl := hww.symm
                      go_wp2
                      go_meet
                      case rel => exact ⟨by (try clear hsub); first | (simp [numsOk, ins, *]; done) | (simp [numsOk, ins]; omega) | (simp [numsOk, ins, *]; omega), rfl⟩
                    · skip
                      go_wp2_with fail
                      refine (HW.out _ _ _ _ h0).mono ?_
                      rintro e wn ⟨rfl, hww⟩
                      obtain rfl := hww.symm
                      go_wp2_with fail
                      refine (HW.out _ _ _ _ h2).mono ?_
                      rintro e wn ⟨rfl, hww⟩
                      obtain rfl := hww.symm
                      go_wp2_with fail
                      refine (HW.out _ _ _ _ h3).mono ?_
                      rintro e wn ⟨rfl, hww⟩
                      obtain rfl := hww.symm
                      go_wp2_with fail
                      refine (HW.out _ _ _ _ h4).mono ?_
                      rintro e wn ⟨rfl, hww⟩
                      obtain rfl := hww.symm
                      go_wp2_with fail
                      refine (HN.out _ _ _ _ h6).mono ?_
                      rintro e wn ⟨rfl, hww⟩
                      obtain rfl := hww.symm
                      go_wp2
                      go_meet
                      case rel => exact ⟨by (try clear hsub); first | (simp [numsOk, ins, *]; done) | (simp [numsOk, ins]; omega) | (simp [numsOk, ins, *]; omega), rfl⟩
                · skip
                  go_wp2_with fail
                  refine (HW.out _ _ _ _ h0).mono ?_
                  rintro e wn ⟨rfl, hww⟩
                  obtain rfl := hww.symm
                  go_wp2_with fail
                  refine (HW.out _ _ _ _ h2).mono ?_
                  rintro e wn ⟨rfl, hww⟩
                  obtain rfl := hww.symm
                  go_wp2_with fail
                  refine (HW.out _ _ _ _ h3).mono ?_
                  rintro e wn ⟨rfl, hww⟩
                  obtain rfl := hww.symm
                  go_wp2_with fail
                  refine (HN.out _ _ _ _ h4).mono ?_
                  rintro e wn ⟨rfl, hww⟩
                  obtain rfl := hww.symm
                  go_wp2
                  go_meet
                  case rel => exact ⟨by (try clear hsub); first | (simp [numsOk, ins, *]; done) | (simp [numsOk, ins]; omega) | (simp [numsOk, ins, *]; omega), rfl⟩
              · skip
                go_wp2_with fail
                refine (HW.out _ _ _ _ h0).mono ?_
                rintro e wn ⟨rfl, hww⟩
                obtain rfl := hww.symm
                go_wp2_with fail
                refine (HW.out _ _ _ _ h2).mono ?_
                rintro e wn ⟨rfl, hww⟩
                obtain rfl := hww.symm
                go_wp2_with fail
                refine (HN.out _ _ _ _ h3).mono ?_
                rintro e wn ⟨rfl, hww⟩
                obtain rfl := hww.symm
                go_wp2
                go_meet
                case rel => exact ⟨by (try clear hsub); first | (simp [numsOk, ins, *]; done) | (simp [numsOk, ins]; omega) | (simp [numsOk, ins, *]; omega), rfl⟩
            · skip
              go_wp2_with fail
              refine (HW.out _ _ _ _ h0).mono ?_
              rintro e wn ⟨rfl, hww⟩
              obtain rfl := hww.symm
              go_wp2_with fail
              refine (HN.out _ _ _ _ h2).mono ?_
              rintro e wn ⟨rfl, hww⟩
              obtain rfl := hww.symm
              go_wp2
              go_meet
              case rel => exact ⟨by (try clear hsub); first | (simp [numsOk, ins, *]; done) | (simp [numsOk, ins]; omega) | (simp [numsOk, ins, *]; omega), rfl⟩
        · skip
          go_wp2_with fail
          refine (HN.out _ _ _ _ h0).mono ?_
          rintro e wn ⟨rfl, hww⟩
          obtain rfl := hww.symm
          go_wp2
          go_meet
          case rel => exact ⟨by (try clear hsub); first | (simp [numsOk, ins, *]; done) | (simp [numsOk, ins]; omega) | (simp [numsOk, ins, *]; omega), rfl⟩
      case rest =>
        obtain ⟨hv70, hww⟩ := hcut
        obtain rfl := hww.symm
        obtain ⟨A, hA⟩ : ∃ A, A = numsOk x r := ⟨_, rfl⟩
        rw [← hA] at hv70 HS2
        clear hA v1 v2 v3 v4 z0 z1 z2 z3 z4 z5 HW HN hsub
        cases A
        · simp only [Bool.not_false] at hv70
          subst hv70
          have HF := hid (show R = false from by rw [HS2.out]; rfl)
          go_wp2
          go_ret
          exact ⟨by rw [HF.out]; rfl, HU2.out⟩
        · simp only [Bool.not_true] at hv70
          subst hv70
          have HS3 := hid (show R = ((isKeyB r.first && (isKeyB r.last && leL r.first r.last)) && (decide (j = 0) || behindA (x.runs.getD (j - 1) zeroMeta) r)) from by rw [HS2.out]; rfl)
          have HK1 := hid (key10_any (HB1.out.keep HU2.out) HLR.out.1)
          have z6 := cell_of_row W2 b5 6 _ _ _ HR52.out
          obtain ⟨k1, hk1⟩ : ∃ k1, k1 = isKeyB r.first := ⟨_, rfl⟩
          rw [← hk1] at HK1 HS3
          clear hk1
          go_wp2_with fail
          refine HK1.out.mono ?_
          rintro e W3 ⟨rfl, hu3⟩
          have HU3 := hid (HU2.out.trans hu3 (fun _ _ e => e))
          have HRQ3 := hid (hu3.get HRQ2.out (fun e => e)); have HR53 := hid (hu3.get HR52.out (fun e => e))
          clear hu3 z6
          cases k1
          · have HF := hid (show R = false from by rw [HS3.out]; rfl)
            go_wp2
            go_ret
            exact ⟨by rw [HF.out]; rfl, HU3.out⟩
          have HK2 := hid (key10_any (HB2.out.keep HU3.out) HLR.out.2)
          have z7 := cell_of_row W3 b5 7 _ _ _ HR53.out
          have hzl3 := lt_of_heap HR53.out
          obtain ⟨k2, hk2⟩ : ∃ k2, k2 = isKeyB r.last := ⟨_, rfl⟩
          rw [← hk2] at HK2 HS3
          clear hk2
          go_wp2_with fail
          refine HK2.out.mono ?_
          rintro e W4 ⟨rfl, hu4⟩
          have HU4 := hid (HU3.out.trans hu4 (fun _ _ e => e))
          have HRQ4 := hid (hu4.get HRQ3.out (fun e => e)); have HR54 := hid (hu4.get HR53.out (fun e => e))
          clear hu4 z7
          cases k2
          · have HF := hid (show R = false from by rw [HS3.out]; rfl)
            go_wp2
            go_ret
            exact ⟨by rw [HF.out]; rfl, HU4.out⟩
          have HCM := hid (refBytes2_any (HB1.out.keep HU4.out) (HB2.out.keep HU4.out))
          have HLE := hid (cmpB_le r.first r.last)
          have z6 := cell_of_row W4 b5 6 _ _ _ HR54.out; have z7 := cell_of_row W4 b5 7 _ _ _ HR54.out
          have hzl4 := lt_of_heap HR54.out
          obtain ⟨cm, hcm⟩ : ∃ cm, cm = cmpB r.first r.last := ⟨_, rfl⟩
          rw [← hcm] at HCM HLE
          obtain ⟨le, hle⟩ : ∃ le, le = leL r.first r.last := ⟨_, rfl⟩
          rw [← hle] at HLE HS3
          clear hcm hle
          go_wp2_with fail
          refine HCM.out.mono ?_
          rintro e W5 ⟨rfl, hu5⟩
          have HU5 := hid (HU4.out.trans hu5 (fun _ _ e => e))
          have HRQ5 := hid (hu5.get HRQ4.out (fun e => e)); have HR55 := hid (hu5.get HR54.out (fun e => e))
          clear hu5 z6 z7
          cases le
          · have hcp : (0 : Int) < cm := by have := HLE.out; simpa using this
            have HF := hid (show R = false from by rw [HS3.out]; rfl)
            go_wp2
            go_ret
            exact ⟨by rw [HF.out]; rfl, HU5.out⟩
          have hcp : ¬ (0 : Int) < cm := by have := HLE.out; simpa using this
          have HS4 := hid (show R = (decide (j = 0) || behindA (x.runs.getD (j - 1) zeroMeta) r) from by rw [HS3.out]; rfl)
          by_cases hj0 : j = 0
          · have hjb : (((j : Nat) : Int) == 0) = true := by rw [hj0]; rfl
            have HF := hid (show R = true from by rw [HS4.out, decide_eq_true hj0]; rfl)
            clear hj0
            go_wp2
            go_ret
            exact ⟨by rw [HF.out]; rfl, HU5.out⟩
          have hjb : (((j : Nat) : Int) == 0) = false := by simpa using hj0
          obtain ⟨i, hij⟩ : ∃ i, j = i + 1 := ⟨j - 1, by omega⟩
          have hjk : IntKind.i64.wrap ((j : Int) - 1) = (i : Int) := by rw [IntKind.wrap_i64]; omega
          have hjk2 : (j : Int) - 1 = (i : Int) := by omega
          have hil : i < x.runs.length := by omega
          obtain ⟨b', o', y1, e1, y2, e2, hs2, hb', g0, g1, g2, g3, g4, g5, g6, g7, -, -⟩ := HCE.out i hil
          injection hs2 with hs2
          injection hs2 with hs21 hs22
          subst hs21
          subst hs22
          have HGD := hid (show x.runs.getD (j - 1) zeroMeta = x.runs[i] from by rw [hij, Nat.add_sub_cancel]; exact getD_at hil)
          obtain ⟨p, hp⟩ : ∃ p, p = x.runs[i] := ⟨_, rfl⟩
          rw [← hp] at g0 g1 g2 g3 g4 g5 g6 g7 HGD
          have u0 := HU5.out.cell hb' g0; have u1 := HU5.out.cell hb' g1; have u2 := HU5.out.cell hb' g2; have u3 := HU5.out.cell hb' g3
          have u4 := HU5.out.cell hb' g4; have u5 := HU5.out.cell hb' g5; have u6 := HU5.out.cell hb' g6; have u7 := HU5.out.cell hb' g7
          have hb5w : b < W5.heap.size := Nat.lt_of_lt_of_le hb' HU5.out.size
          have v6 := cell_of_row W5 q 6 _ _ _ HRQ5.out
          have hq5 := lt_of_heap HRQ5.out
          have z2 := cell_of_row W5 b5 2 _ _ _ HR55.out; have z3 := cell_of_row W5 b5 3 _ _ _ HR55.out; have z4 := cell_of_row W5 b5 4 _ _ _ HR55.out
          have hz5 := lt_of_heap HR55.out
          have HUF := hid (HU5.out.alloc (.cells #[.int .i64 p.num, .int .i64 p.count, .int .i64 p.index, .int .i64 p.low, .int .i64 p.clock, .int .i64 p.bytes, .slice y1 p.first.length e1, .slice y2 p.last.length e2] 48))
          have HS5 := hid (show R = behindA p r from by rw [HS4.out, HGD.out, decide_eq_false hj0]; rfl)
          clear g0 g1 g2 g3 g4 g5 g6 g7 hij hj0 hp hb'
          by_cases q1 : r.index < p.index
          · by_cases q2 : r.clock ≤ p.clock
            · by_cases q3 : r.low ≤ p.low
              · have HF := hid (show R = true from by rw [HS5.out]; unfold behindA; simp; omega)
                go_wp2
                go_ret
                exact ⟨by rw [HF.out]; rfl, HUF.out⟩
              · have HF := hid (show R = false from by rw [HS5.out]; unfold behindA; simp; omega)
                go_wp2
                go_ret
                exact ⟨by
                       rw [HF.out]
                       have hq3 : decide (r.low ≤ p.low) = false := by simpa using q3
                       show Ending.returned (.bool (decide (r.low ≤ p.low))) = Ending.returned (.bool false)
                       rw [hq3], HUF.out⟩
            · have HF := hid (show R = false from by rw [HS5.out]; unfold behindA; simp; omega)
              go_wp2
              go_ret
              exact ⟨by rw [HF.out]; rfl, HUF.out⟩
          · have HF := hid (show R = false from by rw [HS5.out]; unfold behindA; simp; omega)
            go_wp2
            go_ret
            exact ⟨by rw [HF.out]; rfl, HUF.out⟩

end Go.Proofs.YtgaidmohdhaonaaGreatDoor

namespace Go.Proofs.YtgaidmohdhaonaaGreatDoor
set_option linter.unusedVariables false
set_option linter.unusedSimpArgs false
set_option linter.unnecessarySimpa false
set_option linter.unusedSectionVars false
open Go Go.RowKit

set_option maxRecDepth 100000 in
set_option maxHeartbeats 6400000 in
theorem refCheck10_any {w : World} {v : Value} {x : VerA} (hv : VerAt w v x) (hl : ∀ r ∈ x.runs, r.first.length ≤ 140737488351232 ∧ r.last.length ≤ 140737488351232) :
    Calls Tryz.prog 10 #[v] w fun e w' => e = .returned (.int .i64 (checkA x)) ∧ Upd (fun _ => False) w w' := by
  have HV := hid hv; have HLN := hid hl
  obtain ⟨s1, d1, s2, d2, rfl, -, -⟩ := hv
  clear hl
  have HW := hid (fun (W : World) (n lo hi : Int) (h : lo ≤ n ∧ n ≤ hi) => show Calls Tryz.prog 55 #[.int .i64 n, .int .i64 lo, .int .i64 hi] W fun e w' => e = .returned (.bool false) ∧ w' = W from by have h1 := out10_any (w := W) (n := n) (lo := lo) (hi := hi); rwa [show ins n lo hi = true from by unfold ins; simpa using h] at h1)
  have HN := hid (fun (W : World) (n lo hi : Int) (h : ¬ (lo ≤ n ∧ n ≤ hi)) => show Calls Tryz.prog 55 #[.int .i64 n, .int .i64 lo, .int .i64 hi] W fun e w' => e = .returned (.bool true) ∧ w' = W from by have h1 := out10_any (w := W) (n := n) (lo := lo) (hi := hi); rwa [show ins n lo hi = false from by unfold ins; simpa using h] at h1)
  have HU0 := hid ((Upd.refl (fun _ => False) w).alloc (.cells #[.int .i64 x.gen, .int .i64 x.flushed, .int .i64 x.next, .int .i64 x.low, .int .i64 x.clock, .slice s1 x.state.length d1, .slice s2 x.runs.length d2] 25))
  have HR0 := hid (heap_alloc_new w (.cells #[.int .i64 x.gen, .int .i64 x.flushed, .int .i64 x.next, .int .i64 x.low, .int .i64 x.clock, .slice s1 x.state.length d1, .slice s2 x.runs.length d2] 25))
  go_enter Tryz.func10, Tryz.ntmps10
  go_upto_region 1 with fail
  go_cut [42] (fun b wx => b = .bool (!headA x) ∧ wx = (w.alloc (.cells #[.int .i64 x.gen, .int .i64 x.flushed, .int .i64 x.next, .int .i64 x.low, .int .i64 x.clock, .slice s1 x.state.length d1, .slice s2 x.runs.length d2] 25)))
  case first =>
    by_cases h0 : 1 ≤ x.gen ∧ x.gen ≤ 1099511627776
    · skip
      by_cases h1 : 0 ≤ x.flushed ∧ x.flushed ≤ 1099511627776
      · skip
        by_cases h2 : 1 ≤ x.next ∧ x.next ≤ 1099511627776
        · skip
          by_cases h3 : 1 ≤ x.clock ∧ x.clock ≤ 1099511627776
          · skip
            have hsub : IntKind.i64.wrap (x.clock - 1) = x.clock - 1 := by rw [IntKind.wrap_i64]; omega
            by_cases h4 : 0 ≤ x.low ∧ x.low ≤ (x.clock - 1)
            · skip
              by_cases h5 : (131072 : Int) < (x.state.length : Int)
              · skip
                go_wp2_with fail
                refine (HW.out _ _ _ _ h0).mono ?_
                rintro e wn ⟨rfl, hww⟩
                subst hww
                go_wp2_with fail
                refine (HW.out _ _ _ _ h1).mono ?_
                rintro e wn ⟨rfl, hww⟩
                subst hww
                go_wp2_with fail
                refine (HW.out _ _ _ _ h2).mono ?_
                rintro e wn ⟨rfl, hww⟩
                subst hww
                go_wp2_with fail
                refine (HW.out _ _ _ _ h3).mono ?_
                rintro e wn ⟨rfl, hww⟩
                subst hww
                go_wp2_with fail
                refine (HW.out _ _ _ _ h4).mono ?_
                rintro e wn ⟨rfl, hww⟩
                subst hww
                go_wp2
                go_meet
                case rel => exact ⟨by (try clear hsub); first | (simp [headA, ins, *]; done) | (simp [headA, ins]; omega) | (simp [headA, ins, *]; omega), rfl⟩
              · skip
                by_cases h6 : (64 : Int) < (x.runs.length : Int)
                · skip
                  go_wp2_with fail
                  refine (HW.out _ _ _ _ h0).mono ?_
                  rintro e wn ⟨rfl, hww⟩
                  subst hww
                  go_wp2_with fail
                  refine (HW.out _ _ _ _ h1).mono ?_
                  rintro e wn ⟨rfl, hww⟩
                  subst hww
                  go_wp2_with fail
                  refine (HW.out _ _ _ _ h2).mono ?_
                  rintro e wn ⟨rfl, hww⟩
                  subst hww
                  go_wp2_with fail
                  refine (HW.out _ _ _ _ h3).mono ?_
                  rintro e wn ⟨rfl, hww⟩
                  subst hww
                  go_wp2_with fail
                  refine (HW.out _ _ _ _ h4).mono ?_
                  rintro e wn ⟨rfl, hww⟩
                  subst hww
                  go_wp2
                  go_meet
                  case rel => exact ⟨by (try clear hsub); first | (simp [headA, ins, *]; done) | (simp [headA, ins]; omega) | (simp [headA, ins, *]; omega), rfl⟩
                · skip
                  go_wp2_with fail
                  refine (HW.out _ _ _ _ h0).mono ?_
                  rintro e wn ⟨rfl, hww⟩
                  subst hww
                  go_wp2_with fail
                  refine (HW.out _ _ _ _ h1).mono ?_
                  rintro e wn ⟨rfl, hww⟩
                  subst hww
                  go_wp2_with fail
                  refine (HW.out _ _ _ _ h2).mono ?_
                  rintro e wn ⟨rfl, hww⟩
                  subst hww
                  go_wp2_with fail
                  refine (HW.out _ _ _ _ h3).mono ?_
                  rintro e wn ⟨rfl, hww⟩
                  subst hww
                  go_wp2_with fail
                  refine (HW.out _ _ _ _ h4).mono ?_
                  rintro e wn ⟨rfl, hww⟩
                  subst hww
                  have HHD := hid (show headA x = true from by unfold headA ins; simp only [Bool.and_eq_true, decide_eq_true_eq]; exact ⟨⟨⟨⟨⟨⟨h0, h1⟩, h2⟩, h3⟩, h4⟩, by omega⟩, by omega⟩)
                  go_wp2
                  go_meet
                  case rel => exact ⟨by rw [HHD.out]; simp; omega, rfl⟩
            · skip
              go_wp2_with fail
              refine (HW.out _ _ _ _ h0).mono ?_
              rintro e wn ⟨rfl, hww⟩
              subst hww
              go_wp2_with fail
              refine (HW.out _ _ _ _ h1).mono ?_
              rintro e wn ⟨rfl, hww⟩
              subst hww
              go_wp2_with fail
              refine (HW.out _ _ _ _ h2).mono ?_
              rintro e wn ⟨rfl, hww⟩
              subst hww
              go_wp2_with fail
              refine (HW.out _ _ _ _ h3).mono ?_
              rintro e wn ⟨rfl, hww⟩
              subst hww
              go_wp2_with fail
              refine (HN.out _ _ _ _ h4).mono ?_
              rintro e wn ⟨rfl, hww⟩
              subst hww
              go_wp2
              go_meet
              case rel => exact ⟨by (try clear hsub); first | (simp [headA, ins, *]; done) | (simp [headA, ins]; omega) | (simp [headA, ins, *]; omega), rfl⟩
          · skip
            go_wp2_with fail
            refine (HW.out _ _ _ _ h0).mono ?_
            rintro e wn ⟨rfl, hww⟩
            subst hww
            go_wp2_with fail
            refine (HW.out _ _ _ _ h1).mono ?_
            rintro e wn ⟨rfl, hww⟩
            subst hww
            go_wp2_with fail
            refine (HW.out _ _ _ _ h2).mono ?_
            rintro e wn ⟨rfl, hww⟩
            subst hww
            go_wp2_with fail
            refine (HN.out _ _ _ _ h3).mono ?_
            rintro e wn ⟨rfl, hww⟩
            subst hww
            go_wp2
            go_meet
            case rel => exact ⟨by (try clear hsub); first | (simp [headA, ins, *]; done) | (simp [headA, ins]; omega) | (simp [headA, ins, *]; omega), rfl⟩
        · skip
          go_wp2_with fail
          refine (HW.out _ _ _ _ h0).mono ?_
          rintro e wn ⟨rfl, hww⟩
          subst hww
          go_wp2_with fail
          refine (HW.out _ _ _ _ h1).mono ?_
          rintro e wn ⟨rfl, hww⟩
          subst hww
          go_wp2_with fail
          refine (HN.out _ _ _ _ h2).mono ?_
          rintro e wn ⟨rfl, hww⟩
          subst hww
          go_wp2
          go_meet
          case rel => exact ⟨by (try clear hsub); first | (simp [headA, ins, *]; done) | (simp [headA, ins]; omega) | (simp [headA, ins, *]; omega), rfl⟩
      · skip
        go_wp2_with fail
        refine (HW.out _ _ _ _ h0).mono ?_
        rintro e wn ⟨rfl, hww⟩
        subst hww
        go_wp2_with fail
        refine (HN.out _ _ _ _ h1).mono ?_
        rintro e wn ⟨rfl, hww⟩
        subst hww
        go_wp2
        go_meet
        case rel => exact ⟨by (try clear hsub); first | (simp [headA, ins, *]; done) | (simp [headA, ins]; omega) | (simp [headA, ins, *]; omega), rfl⟩
    · skip
      go_wp2_with fail
      refine (HN.out _ _ _ _ h0).mono ?_
      rintro e wn ⟨rfl, hww⟩
      subst hww
      go_wp2
      go_meet
      case rel => exact ⟨by (try clear hsub); first | (simp [headA, ins, *]; done) | (simp [headA, ins]; omega) | (simp [headA, ins, *]; omega), rfl⟩
  case rest =>
    obtain ⟨hv42, hcw⟩ := hcut
    subst hcw
    obtain ⟨B, hB⟩ : ∃ B, B = !headA x := ⟨_, rfl⟩
    rw [← hB] at hv42
    subst hv42
    cases B
    rotate_left
    · skip
      have HR := hid (checkA_head (by simpa using hB.symm))
      clear hB
      go_wp2
      go_ret
      exact ⟨by rw [HR.out]; rfl, HU0.out⟩
    have hh : headA x = true := by simpa using hB.symm
    have HH := hid hh
    have HHO := hid (headA_of hh)
    clear hh hB HW HN
    obtain ⟨q, hq⟩ : ∃ q, q = w.heap.size := ⟨_, rfl⟩
    rw [← hq] at HR0 ⊢
    generalize w.alloc (.cells #[.int .i64 x.gen, .int .i64 x.flushed, .int .i64 x.next, .int .i64 x.low, .int .i64 x.clock, .slice s1 x.state.length d1, .slice s2 x.runs.length d2] 25) = W0 at HU0 HR0 ⊢
    clear hq
    go_wp2
    go_loopw [3] (fun i wr => ∃ k : Nat, i = .int .i64 k ∧ k ≤ x.runs.length ∧ Upd (fun _ => False) W0 wr ∧ ∀ j < k, runOkA x j = true) (fun i _ => x.runs.length - (intOf i).toNat)
    case atStart => exact ⟨0, rfl, Nat.zero_le _, Upd.refl _ _, fun j hj => absurd hj (by omega)⟩
    case round =>
      obtain ⟨k, rfl, hk, hup, hok⟩ := hrel
      have HUP := hid hup; have HOK := hid hok
      have HUA := hid (HU0.out.trans hup (fun _ _ e => e))
      have hrq := hup.get HR0.out (fun e => e)
      obtain ⟨⟨v0, v1, v2, v3, v4, v5, v6⟩, -, hql⟩ : (wr.cell? ⟨q, 0, none⟩ = some (.int .i64 x.gen) ∧ wr.cell? ⟨q, 1, none⟩ = some (.int .i64 x.flushed) ∧ wr.cell? ⟨q, 2, none⟩ = some (.int .i64 x.next) ∧ wr.cell? ⟨q, 3, none⟩ = some (.int .i64 x.low) ∧ wr.cell? ⟨q, 4, none⟩ = some (.int .i64 x.clock) ∧ wr.cell? ⟨q, 5, none⟩ = some (.slice s1 x.state.length d1) ∧ wr.cell? ⟨q, 6, none⟩ = some (.slice s2 x.runs.length d2)) ∧ True ∧ q < wr.heap.size :=
        ⟨⟨cell_of_row _ _ 0 _ _ _ hrq, cell_of_row _ _ 1 _ _ _ hrq, cell_of_row _ _ 2 _ _ _ hrq, cell_of_row _ _ 3 _ _ _ hrq, cell_of_row _ _ 4 _ _ _ hrq, cell_of_row _ _ 5 _ _ _ hrq, cell_of_row _ _ 6 _ _ _ hrq⟩, trivial, lt_of_heap hrq⟩
      have hk64 : k ≤ 64 := by have := HHO.out.2.2; omega
      clear hup hok hrq
      by_cases hlt : k < x.runs.length
      · have HRUN := hid (refRun_any (HV.out.keep HUA.out) hlt HHO.out.1 HHO.out.2.2 HLN.out)
        obtain ⟨R, hR⟩ : ∃ R, R = runOkA x k := ⟨_, rfl⟩
        rw [← hR] at HRUN
        have HRR := hid hR
        clear hR
        cases R
        · have HR := hid (checkA_run hlt HRR.out.symm)
          go_wp2_with fail
          refine HRUN.out.mono ?_
          rintro e w2 ⟨rfl, hu2⟩
          have HU2 := hid (HUA.out.trans hu2 (fun _ _ e => e))
          clear hu2
          go_wp2
          go_ret
          exact ⟨by rw [HR.out]; rfl, HU2.out⟩
        · have HOKN := hid (show ∀ j < k + 1, runOkA x j = true from by
            intro j hj
            rcases Nat.lt_succ_iff_lt_or_eq.1 hj with h | rfl
            · exact HOK.out j h
            · exact HRR.out.symm)
          go_wp2_with fail
          refine HRUN.out.mono ?_
          rintro e w2 ⟨rfl, hu2⟩
          have HU2 := hid (HUP.out.trans hu2 (fun _ _ e => e))
          clear hu2 v0 v1 v2 v3 v4 v5 v6 hql
          go_wp2
          go_roundw
          case rel => exact ⟨k + 1, by simp, by omega, HU2.out, HOKN.out⟩
          case measure => simp [intOf]; omega
      · obtain rfl : k = x.runs.length := by omega
        have HR := hid (checkA_ok HH.out HOK.out)
        go_wp2
        go_ret
        exact ⟨by rw [HR.out]; rfl, HUA.out⟩

end Go.Proofs.YtgaidmohdhaonaaGreatDoor
