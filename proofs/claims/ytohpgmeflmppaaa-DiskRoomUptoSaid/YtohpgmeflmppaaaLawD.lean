/-
  Package stratalaw4, walked: sameFiles, copied.
-/
import Derived.Test.YtohpgmeflmppaaaSafe
namespace Go.Proofs.Ytohpgmeflmppaaa
set_option linter.unusedVariables false
set_option linter.unusedSimpArgs false
set_option linter.unnecessarySimpa false
set_option linter.unusedSectionVars false
open Go Go.RowKit

theorem map_abs_ne {l1 l2 : List FV} {k : Nat} (h1 : k < l1.length) (h2 : k < l2.length) (h : l1[k].abs ≠ l2[k].abs) : l1.map FV.abs ≠ l2.map FV.abs := by
  intro e
  have := congrArg (fun l => l[k]?) e
  simp only [List.getElem?_map, List.getElem?_eq_getElem h1, List.getElem?_eq_getElem h2, Option.map_some, Option.some.injEq] at this
  exact h this

theorem map_abs_eq {l1 l2 : List FV} (hl : l1.length = l2.length) (h : ∀ j (h1 : j < l1.length) (h2 : j < l2.length), l1[j].abs = l2[j].abs) : l1.map FV.abs = l2.map FV.abs := by
  apply List.ext_getElem (by simp [hl])
  intro i h1 h2
  simp only [List.getElem_map]
  exact h i (by simpa using h1) (by simpa using h2)

set_option maxRecDepth 100000 in
set_option maxHeartbeats 3200000 in
theorem sameFiles_any {w : World} {b1 b2 : Nat} {v1 v2 : Value} {l1 l2 : List FV} (h1 : FilesAt w b1 v1 l1) (h2 : FilesAt w b2 v2 l2) :
    Calls Try.prog 17 #[v1, v2] w fun e w' => ∃ b, e = .returned (.bool b) ∧ (b = true ↔ l1.map FV.abs = l2.map FV.abs) ∧ Upd (fun _ => False) w w' := by
  obtain ⟨a1, c1, rfl, hc1, hm1, hs1⟩ := h1.shape
  obtain ⟨a2, c2, rfl, hc2, hm2, hs2⟩ := h2.shape
  have H1 := hid h1; have H2 := hid h2; have S1 := hid hs1; have S2 := hid hs2
  have hm1' : l1.length ≤ 9223372036854775807 := Nat.le_trans hc1 (by simpa [maxLen] using hm1)
  have hm2' : l2.length ≤ 9223372036854775807 := Nat.le_trans hc2 (by simpa [maxLen] using hm2)
  clear h1 h2 hs1 hs2
  by_cases hl : ¬ l1.length = l2.length
  · have hb : ((l1.length : Int) != (l2.length : Int)) = true := by simp; omega
    have HL := hid hl
    clear hl
    go_enter Try.func17, Try.ntmps17
    go_wp2
    go_ret
    exact ⟨false, rfl, ⟨(fun h => by cases h), fun h => absurd (by simpa using congrArg List.length h) HL.out⟩, Upd.refl _ _⟩
  have hl : l1.length = l2.length := by omega
  have hb : ((l1.length : Int) != (l2.length : Int)) = false := by simp [hl]
  have HL := hid hl
  clear hl
  go_enter Try.func17, Try.ntmps17
  go_wp2
  go_loopw [5] (fun i wr => ∃ k : Nat, k ≤ l1.length ∧ i = .int .i64 k ∧ (∀ j (h1 : j < l1.length) (h2 : j < l2.length), j < k → l1[j].abs = l2[j].abs) ∧ Upd (fun _ => False) w wr) (fun i _ => l1.length - (intOf i).toNat)
  case atStart => exact ⟨0, Nat.zero_le _, rfl, by simp, Upd.refl _ _⟩
  case round =>
    obtain ⟨k, hk, rfl, heq, hup⟩ := hrel
    have HEQ := hid heq; have HUP := hid hup
    clear heq hup
    by_cases hlt : k < l1.length
    · have hlt2 : k < l2.length := by have := HL.out; omega
      obtain ⟨g1, rfl, hg1, hg1', d0, d1, d2⟩ := S1.out k hlt
      obtain ⟨g2, rfl, hg2, hg2', e0, e1, e2⟩ := S2.out k hlt2
      have hby1 := (H1.out.data l1[k] (List.getElem_mem hlt)).bytes
      have hby2 := (H2.out.data l2[k] (List.getElem_mem hlt2)).bytes
      have lt1 := (H1.out.data l1[k] (List.getElem_mem hlt)).lt
      have lt2 := (H2.out.data l2[k] (List.getElem_mem hlt2)).lt
      obtain ⟨p1, q1, hv1, -⟩ := (H1.out.data l1[k] (List.getElem_mem hlt)).shape
      obtain ⟨p2, q2, hv2, -⟩ := (H2.out.data l2[k] (List.getElem_mem hlt2)).shape
      obtain ⟨f1, hf1⟩ : ∃ f, f = l1[k] := ⟨_, rfl⟩
      obtain ⟨f2, hf2⟩ : ∃ f, f = l2[k] := ⟨_, rfl⟩
      rw [← hf1] at d0 d1 d2 hby1 lt1 hv1
      rw [← hf2] at e0 e1 e2 hby2 lt2 hv2
      have d0' : wr.cell? ⟨g1, k * 3, none⟩ = some (.string f1.name) := by rw [World.cell?_of_block (w := w) (HUP.out.block g1 hg1' (fun h => h))]; exact d0
      have d1' : wr.cell? ⟨g1, k * 3 + 1, none⟩ = some (.slice p1 f1.data.length q1) := by rw [World.cell?_of_block (w := w) (HUP.out.block g1 hg1' (fun h => h))]; exact d1.trans (by rw [hv1])
      have d2' : wr.cell? ⟨g1, k * 3 + 2, none⟩ = some (.int .i64 f1.synced) := by rw [World.cell?_of_block (w := w) (HUP.out.block g1 hg1' (fun h => h))]; exact d2
      have e0' : wr.cell? ⟨g2, k * 3, none⟩ = some (.string f2.name) := by rw [World.cell?_of_block (w := w) (HUP.out.block g2 hg2' (fun h => h))]; exact e0
      have e1' : wr.cell? ⟨g2, k * 3 + 1, none⟩ = some (.slice p2 f2.data.length q2) := by rw [World.cell?_of_block (w := w) (HUP.out.block g2 hg2' (fun h => h))]; exact e1.trans (by rw [hv2])
      have e2' : wr.cell? ⟨g2, k * 3 + 2, none⟩ = some (.int .i64 f2.synced) := by rw [World.cell?_of_block (w := w) (HUP.out.block g2 hg2' (fun h => h))]; exact e2
      have hsame : ∀ n, Calls Try.prog 27 #[.slice p1 f1.data.length q1, .slice p2 f2.data.length q2] (wr.drewN n) fun e w' => e = .returned (.bool (decide (f1.data = f2.data))) ∧ w' = wr.drewN n := by
        intro n
        have b1 := hby1.upd (HUP.out.drewN n) (fun a l c he _ => ⟨fun h => h, lt1 a.block (by rw [he]; rfl)⟩)
        have b2 := hby2.upd (HUP.out.drewN n) (fun a l c he _ => ⟨fun h => h, lt2 a.block (by rw [he]; rfl)⟩)
        rw [hv1] at b1
        rw [hv2] at b2
        exact same_any b1 b2
      have HSM := hid hsame
      have hq := beq_toList f1.name f2.name
      have F1 := hid hf1; have F2 := hid hf2
      clear d0 d1 d2 e0 e1 e2 hby1 hby2 lt1 lt2 hv1 hv2 hsame hf1 hf2
      have hwr := HUP.out.size
      by_cases hn : f1.name = f2.name
      · have hq' : (f1.name.toList == f2.name.toList) = true := by rw [hq]; simpa using hn
        by_cases hs : f1.synced = f2.synced
        · have hs' : ((f1.synced : Int) != (f2.synced : Int)) = false := by simp [hs]
          by_cases hd : f1.data = f2.data
          · have HSM1 := hid (fun n => (HSM.out n).mono (fun e w' h => (show e = .returned (.bool true) ∧ w' = wr.drewN n from ⟨h.1.trans (by simp [hd]), h.2⟩)))
            have HE := hid (show f1.abs = f2.abs by unfold FV.abs; rw [hn, hs, hd])
            clear hq hn hs hd
            go_wp2_with fail
            go_quiet ((go_at_call 27; exact Calls.quiet_of_same (HSM1.out _)))
            go_wp2
            go_roundw
            case rel =>
              refine ⟨k + 1, by omega, by go_num, fun j h1 h2 hj => ?_, HUP.out.drewN _⟩
              by_cases hjk : j < k
              · exact HEQ.out j h1 h2 hjk
              · obtain rfl : j = k := by omega
                rw [← F1.out, ← F2.out]; exact HE.out
            case measure => simp [intOf]; omega
          · have HSM1 := hid (fun n => (HSM.out n).mono (fun e w' h => (show e = .returned (.bool false) ∧ w' = wr.drewN n from ⟨h.1.trans (by simp [hd]), h.2⟩)))
            have HE := hid (show f1.abs ≠ f2.abs by intro h; exact hd (congrArg FileA.data h))
            clear hq hn hs hd
            go_wp2_with fail
            go_quiet ((go_at_call 27; exact Calls.quiet_of_same (HSM1.out _)))
            go_wp2
            go_ret
            exact ⟨false, rfl, ⟨(fun h => by cases h), fun h => absurd h (map_abs_ne hlt hlt2 (by rw [← F1.out, ← F2.out]; exact HE.out))⟩, HUP.out.drewN _⟩
        · have hs' : ((f1.synced : Int) != (f2.synced : Int)) = true := by simp; omega
          have HE := hid (show f1.abs ≠ f2.abs by intro h; exact hs (congrArg FileA.synced h))
          clear hq hn hs
          go_wp2_with fail
          go_quiet (fail)
          go_wp2
          go_ret
          exact ⟨false, rfl, ⟨(fun h => by cases h), fun h => absurd h (map_abs_ne hlt hlt2 (by rw [← F1.out, ← F2.out]; exact HE.out))⟩, HUP.out.drewN _⟩
      · have hq' : (f1.name.toList == f2.name.toList) = false := by rw [hq]; simpa using hn
        have HE := hid (show f1.abs ≠ f2.abs by intro h; exact hn (congrArg FileA.name h))
        clear hq hn
        go_wp2_with fail
        go_quiet (fail)
        go_wp2
        go_ret
        exact ⟨false, rfl, ⟨(fun h => by cases h), fun h => absurd h (map_abs_ne hlt hlt2 (by rw [← F1.out, ← F2.out]; exact HE.out))⟩, HUP.out.drewN _⟩
    · obtain rfl : k = l1.length := by omega
      go_wp2
      go_ret
      exact ⟨true, rfl, ⟨fun _ => map_abs_eq HL.out (fun j h1 h2 => HEQ.out j h1 h2 h1), fun _ => rfl⟩, HUP.out⟩

end Go.Proofs.Ytohpgmeflmppaaa
