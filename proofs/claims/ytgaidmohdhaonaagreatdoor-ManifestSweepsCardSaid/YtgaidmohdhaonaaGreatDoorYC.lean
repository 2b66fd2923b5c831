/-
  Package cell, walked: outside, Check, flag.
  Package cell, walked: flag, Key.
  Package cell, walked: parse.
-/
import Derived.Test.YtgaidmohdhaonaaGreatDoorYB
import Derived.Deep.RegionHeld3
import Derived.Laws.ResultCell
namespace Go.Proofs.YtgaidmohdhaonaaGreatDoor
set_option linter.unusedVariables false
set_option linter.unusedSimpArgs false
set_option linter.unnecessarySimpa false
set_option linter.unusedSectionVars false
open Go Go.RowKit

set_option maxRecDepth 100000 in
theorem cell_out {w : World} {n lo hi : Int} (h : n < lo ∨ hi < n) : Calls Tryz.prog 234 #[.int .i64 n, .int .i64 lo, .int .i64 hi] w fun e w' => e = .returned (.bool true) ∧ w' = w := by
  by_cases h1 : n < lo
  · clear h
    go_enter Tryz.func234, Tryz.ntmps234
    go_wp2
    go_ret
    exact ⟨rfl, rfl⟩
  · have h2 : hi < n := h.resolve_left h1
    clear h
    go_enter Tryz.func234, Tryz.ntmps234
    go_wp2
    go_ret
    exact ⟨rfl, rfl⟩

set_option maxRecDepth 100000 in
theorem cell_in {w : World} {n lo hi : Int} (h : ¬ (n < lo ∨ hi < n)) : Calls Tryz.prog 234 #[.int .i64 n, .int .i64 lo, .int .i64 hi] w fun e w' => e = .returned (.bool false) ∧ w' = w := by
  have h1 : ¬ n < lo := fun e => h (.inl e)
  have h2 : ¬ hi < n := fun e => h (.inr e)
  clear h
  go_enter Tryz.func234, Tryz.ntmps234
  go_wp2
  go_ret
  exact ⟨rfl, rfl⟩

/-- An entry without a value, as a record of Go's. -/
def EntIs (v : Value) (e : EntA) : Prop :=
  ∃ a1 c1 a2 c2, v = .agg #[.slice a1 e.row.length c1, .int .i64 e.fam, .slice a2 e.qual.length c2, .int .i64 e.ts, .int .i64 e.seq, .int .i64 e.kind, .slice none 0 0]

set_option maxRecDepth 100000 in
set_option maxHeartbeats 3200000 in
theorem check_any {w : World} {v : Value} {e : EntA} (hv : EntIs v e) :
    Calls Tryz.prog 225 #[v] w fun x w' => x = .returned (.int .i64 e.bad) ∧ Upd (fun _ => False) w w' := by
  obtain ⟨a1, c1, a2, c2, rfl⟩ := hv
  have HU := hid ((Upd.refl (fun _ => False) w).alloc (.cells #[.slice a1 e.row.length c1, .int .i64 e.fam, .slice a2 e.qual.length c2, .int .i64 e.ts, .int .i64 e.seq, .int .i64 e.kind, .slice none 0 0] 215))
  obtain ⟨R, hR⟩ : ∃ R, R = e.bad := ⟨_, rfl⟩
  rw [← hR]
  unfold EntA.bad at hR
  obtain ⟨row, fam, qual, ts, seq, kind⟩ := e
  simp only at hR HU ⊢
  generalize row.length = nr at hR HU ⊢
  generalize qual.length = nq at hR HU ⊢
  
  
  by_cases h1 : nr < 1 ∨ 256 < nr
  · rw [if_pos h1] at hR
    have HC0 := hid (cell_out (w := (w.alloc (.cells #[.slice a1 nr c1, .int .i64 fam, .slice a2 nq c2, .int .i64 ts, .int .i64 seq, .int .i64 kind, .slice none 0 0] 215))) (n := (nr : Int)) (lo := 1) (hi := 256) (by omega))
    have HF := hid hR
    clear hR
    go_enter Tryz.func225, Tryz.ntmps225
    go_wp2_with fail
    refine HC0.out.mono ?_
    rintro x w' ⟨rfl, hww⟩
    subst hww
    go_wp2
    go_ret
    exact ⟨by rw [HF.out]; rfl, HU.out⟩
  · rw [if_neg h1] at hR
    by_cases h2 : fam < 0 ∨ 7 < fam
    · rw [if_pos h2] at hR
      have HC0 := hid (cell_in (w := (w.alloc (.cells #[.slice a1 nr c1, .int .i64 fam, .slice a2 nq c2, .int .i64 ts, .int .i64 seq, .int .i64 kind, .slice none 0 0] 215))) (n := (nr : Int)) (lo := 1) (hi := 256) (by omega))
      have HC1 := hid (cell_out (w := (w.alloc (.cells #[.slice a1 nr c1, .int .i64 fam, .slice a2 nq c2, .int .i64 ts, .int .i64 seq, .int .i64 kind, .slice none 0 0] 215))) (n := fam) (lo := 0) (hi := 7) (by omega))
      have HF := hid hR
      clear hR
      go_enter Tryz.func225, Tryz.ntmps225
      go_wp2_with fail
      refine HC0.out.mono ?_
      rintro x w' ⟨rfl, hww⟩
      subst hww
      go_wp2_with fail
      refine HC1.out.mono ?_
      rintro x w' ⟨rfl, hww⟩
      subst hww
      go_wp2
      go_ret
      exact ⟨by rw [HF.out]; rfl, HU.out⟩
    · rw [if_neg h2] at hR
      by_cases h3 : 256 < nq ∨ (kind = 5 ∧ 0 < nq)
      · rw [if_pos h3] at hR
        by_cases g1 : 256 < nq
        · have g1i : (256 : Int) < (nq : Int) := by omega
          have HC0 := hid (cell_in (w := (w.alloc (.cells #[.slice a1 nr c1, .int .i64 fam, .slice a2 nq c2, .int .i64 ts, .int .i64 seq, .int .i64 kind, .slice none 0 0] 215))) (n := (nr : Int)) (lo := 1) (hi := 256) (by omega))
          have HC1 := hid (cell_in (w := (w.alloc (.cells #[.slice a1 nr c1, .int .i64 fam, .slice a2 nq c2, .int .i64 ts, .int .i64 seq, .int .i64 kind, .slice none 0 0] 215))) (n := fam) (lo := 0) (hi := 7) (by omega))
          have HF := hid hR
          clear hR
          go_enter Tryz.func225, Tryz.ntmps225
          go_wp2_with fail
          refine HC0.out.mono ?_
          rintro x w' ⟨rfl, hww⟩
          subst hww
          go_wp2_with fail
          refine HC1.out.mono ?_
          rintro x w' ⟨rfl, hww⟩
          subst hww
          go_wp2
          go_ret
          exact ⟨by rw [HF.out]; rfl, HU.out⟩
        · have g1i : ¬ (256 : Int) < (nq : Int) := by omega
          obtain ⟨g2, g3⟩ := h3.resolve_left g1
          have g3i : (0 : Int) < (nq : Int) := by omega
          subst g2
          have HC0 := hid (cell_in (w := (w.alloc (.cells #[.slice a1 nr c1, .int .i64 fam, .slice a2 nq c2, .int .i64 ts, .int .i64 seq, .int .i64 5, .slice none 0 0] 215))) (n := (nr : Int)) (lo := 1) (hi := 256) (by omega))
          have HC1 := hid (cell_in (w := (w.alloc (.cells #[.slice a1 nr c1, .int .i64 fam, .slice a2 nq c2, .int .i64 ts, .int .i64 seq, .int .i64 5, .slice none 0 0] 215))) (n := fam) (lo := 0) (hi := 7) (by omega))
          clear h3
          have HF := hid hR
          clear hR
          go_enter Tryz.func225, Tryz.ntmps225
          go_wp2_with fail
          refine HC0.out.mono ?_
          rintro x w' ⟨rfl, hww⟩
          subst hww
          go_wp2_with fail
          refine HC1.out.mono ?_
          rintro x w' ⟨rfl, hww⟩
          subst hww
          go_wp2
          go_ret
          exact ⟨by rw [HF.out]; rfl, HU.out⟩
      · rw [if_neg h3] at hR
        have g1i : ¬ (256 : Int) < (nq : Int) := by omega
        by_cases g2 : kind = 5
        · subst g2
          have g3 : nq = 0 := by omega
          have g3i : ¬ (0 : Int) < (nq : Int) := by omega
          clear h3
          by_cases h4 : ts < 1 ∨ 1099511627776 < ts
          · rw [if_pos h4] at hR
            have HC0 := hid (cell_in (w := (w.alloc (.cells #[.slice a1 nr c1, .int .i64 fam, .slice a2 nq c2, .int .i64 ts, .int .i64 seq, .int .i64 5, .slice none 0 0] 215))) (n := (nr : Int)) (lo := 1) (hi := 256) (by omega))
            have HC1 := hid (cell_in (w := (w.alloc (.cells #[.slice a1 nr c1, .int .i64 fam, .slice a2 nq c2, .int .i64 ts, .int .i64 seq, .int .i64 5, .slice none 0 0] 215))) (n := fam) (lo := 0) (hi := 7) (by omega))
            have HC2 := hid (cell_out (w := (w.alloc (.cells #[.slice a1 nr c1, .int .i64 fam, .slice a2 nq c2, .int .i64 ts, .int .i64 seq, .int .i64 5, .slice none 0 0] 215))) (n := ts) (lo := 1) (hi := 1099511627776) (by omega))
            try subst g3
            have HF := hid hR
            clear hR
            go_enter Tryz.func225, Tryz.ntmps225
            go_wp2_with fail
            refine HC0.out.mono ?_
            rintro x w' ⟨rfl, hww⟩
            subst hww
            go_wp2_with fail
            refine HC1.out.mono ?_
            rintro x w' ⟨rfl, hww⟩
            subst hww
            go_wp2_with fail
            refine HC2.out.mono ?_
            rintro x w' ⟨rfl, hww⟩
            subst hww
            go_wp2
            go_ret
            exact ⟨by rw [HF.out]; rfl, HU.out⟩
          · rw [if_neg h4] at hR
            by_cases h5 : seq < 0 ∨ 17592186044431 < seq
            · rw [if_pos h5] at hR
              have HC0 := hid (cell_in (w := (w.alloc (.cells #[.slice a1 nr c1, .int .i64 fam, .slice a2 nq c2, .int .i64 ts, .int .i64 seq, .int .i64 5, .slice none 0 0] 215))) (n := (nr : Int)) (lo := 1) (hi := 256) (by omega))
              have HC1 := hid (cell_in (w := (w.alloc (.cells #[.slice a1 nr c1, .int .i64 fam, .slice a2 nq c2, .int .i64 ts, .int .i64 seq, .int .i64 5, .slice none 0 0] 215))) (n := fam) (lo := 0) (hi := 7) (by omega))
              have HC2 := hid (cell_in (w := (w.alloc (.cells #[.slice a1 nr c1, .int .i64 fam, .slice a2 nq c2, .int .i64 ts, .int .i64 seq, .int .i64 5, .slice none 0 0] 215))) (n := ts) (lo := 1) (hi := 1099511627776) (by omega))
              have HC3 := hid (cell_out (w := (w.alloc (.cells #[.slice a1 nr c1, .int .i64 fam, .slice a2 nq c2, .int .i64 ts, .int .i64 seq, .int .i64 5, .slice none 0 0] 215))) (n := seq) (lo := 0) (hi := 17592186044431) (by omega))
              try subst g3
              have HF := hid hR
              clear hR
              go_enter Tryz.func225, Tryz.ntmps225
              go_wp2_with fail
              refine HC0.out.mono ?_
              rintro x w' ⟨rfl, hww⟩
              subst hww
              go_wp2_with fail
              refine HC1.out.mono ?_
              rintro x w' ⟨rfl, hww⟩
              subst hww
              go_wp2_with fail
              refine HC2.out.mono ?_
              rintro x w' ⟨rfl, hww⟩
              subst hww
              go_wp2_with fail
              refine HC3.out.mono ?_
              rintro x w' ⟨rfl, hww⟩
              subst hww
              go_wp2
              go_ret
              exact ⟨by rw [HF.out]; rfl, HU.out⟩
            · rw [if_neg h5] at hR
              by_cases h6 : (5 : Int) < 1 ∨ (5 : Int) < 5
              · rw [if_pos h6] at hR
                omega
              · rw [if_neg h6] at hR
                have HC0 := hid (cell_in (w := (w.alloc (.cells #[.slice a1 nr c1, .int .i64 fam, .slice a2 nq c2, .int .i64 ts, .int .i64 seq, .int .i64 5, .slice none 0 0] 215))) (n := (nr : Int)) (lo := 1) (hi := 256) (by omega))
                have HC1 := hid (cell_in (w := (w.alloc (.cells #[.slice a1 nr c1, .int .i64 fam, .slice a2 nq c2, .int .i64 ts, .int .i64 seq, .int .i64 5, .slice none 0 0] 215))) (n := fam) (lo := 0) (hi := 7) (by omega))
                have HC2 := hid (cell_in (w := (w.alloc (.cells #[.slice a1 nr c1, .int .i64 fam, .slice a2 nq c2, .int .i64 ts, .int .i64 seq, .int .i64 5, .slice none 0 0] 215))) (n := ts) (lo := 1) (hi := 1099511627776) (by omega))
                have HC3 := hid (cell_in (w := (w.alloc (.cells #[.slice a1 nr c1, .int .i64 fam, .slice a2 nq c2, .int .i64 ts, .int .i64 seq, .int .i64 5, .slice none 0 0] 215))) (n := seq) (lo := 0) (hi := 17592186044431) (by omega))
                have HC4 := hid (cell_in (w := (w.alloc (.cells #[.slice a1 nr c1, .int .i64 fam, .slice a2 nq c2, .int .i64 ts, .int .i64 seq, .int .i64 5, .slice none 0 0] 215))) (n := 5) (lo := 1) (hi := 5) (by omega))
                try subst g3
                have HF := hid hR
                clear hR
                go_enter Tryz.func225, Tryz.ntmps225
                go_wp2_with fail
                refine HC0.out.mono ?_
                rintro x w' ⟨rfl, hww⟩
                subst hww
                go_wp2_with fail
                refine HC1.out.mono ?_
                rintro x w' ⟨rfl, hww⟩
                subst hww
                go_wp2_with fail
                refine HC2.out.mono ?_
                rintro x w' ⟨rfl, hww⟩
                subst hww
                go_wp2_with fail
                refine HC3.out.mono ?_
                rintro x w' ⟨rfl, hww⟩
                subst hww
                go_wp2_with fail
                refine HC4.out.mono ?_
                rintro x w' ⟨rfl, hww⟩
                subst hww
                go_wp2
                go_ret
                exact ⟨by rw [HF.out]; rfl, HU.out⟩
        · have g2i : (kind == 5) = false := by simp; exact g2
          clear h3
          by_cases h4 : ts < 1 ∨ 1099511627776 < ts
          · rw [if_pos h4] at hR
            have HC0 := hid (cell_in (w := (w.alloc (.cells #[.slice a1 nr c1, .int .i64 fam, .slice a2 nq c2, .int .i64 ts, .int .i64 seq, .int .i64 kind, .slice none 0 0] 215))) (n := (nr : Int)) (lo := 1) (hi := 256) (by omega))
            have HC1 := hid (cell_in (w := (w.alloc (.cells #[.slice a1 nr c1, .int .i64 fam, .slice a2 nq c2, .int .i64 ts, .int .i64 seq, .int .i64 kind, .slice none 0 0] 215))) (n := fam) (lo := 0) (hi := 7) (by omega))
            have HC2 := hid (cell_out (w := (w.alloc (.cells #[.slice a1 nr c1, .int .i64 fam, .slice a2 nq c2, .int .i64 ts, .int .i64 seq, .int .i64 kind, .slice none 0 0] 215))) (n := ts) (lo := 1) (hi := 1099511627776) (by omega))
            try subst g3
            have HF := hid hR
            clear hR
            go_enter Tryz.func225, Tryz.ntmps225
            go_wp2_with fail
            refine HC0.out.mono ?_
            rintro x w' ⟨rfl, hww⟩
            subst hww
            go_wp2_with fail
            refine HC1.out.mono ?_
            rintro x w' ⟨rfl, hww⟩
            subst hww
            go_wp2_with fail
            refine HC2.out.mono ?_
            rintro x w' ⟨rfl, hww⟩
            subst hww
            go_wp2
            go_ret
            exact ⟨by rw [HF.out]; rfl, HU.out⟩
          · rw [if_neg h4] at hR
            by_cases h5 : seq < 0 ∨ 17592186044431 < seq
            · rw [if_pos h5] at hR
              have HC0 := hid (cell_in (w := (w.alloc (.cells #[.slice a1 nr c1, .int .i64 fam, .slice a2 nq c2, .int .i64 ts, .int .i64 seq, .int .i64 kind, .slice none 0 0] 215))) (n := (nr : Int)) (lo := 1) (hi := 256) (by omega))
              have HC1 := hid (cell_in (w := (w.alloc (.cells #[.slice a1 nr c1, .int .i64 fam, .slice a2 nq c2, .int .i64 ts, .int .i64 seq, .int .i64 kind, .slice none 0 0] 215))) (n := fam) (lo := 0) (hi := 7) (by omega))
              have HC2 := hid (cell_in (w := (w.alloc (.cells #[.slice a1 nr c1, .int .i64 fam, .slice a2 nq c2, .int .i64 ts, .int .i64 seq, .int .i64 kind, .slice none 0 0] 215))) (n := ts) (lo := 1) (hi := 1099511627776) (by omega))
              have HC3 := hid (cell_out (w := (w.alloc (.cells #[.slice a1 nr c1, .int .i64 fam, .slice a2 nq c2, .int .i64 ts, .int .i64 seq, .int .i64 kind, .slice none 0 0] 215))) (n := seq) (lo := 0) (hi := 17592186044431) (by omega))
              try subst g3
              have HF := hid hR
              clear hR
              go_enter Tryz.func225, Tryz.ntmps225
              go_wp2_with fail
              refine HC0.out.mono ?_
              rintro x w' ⟨rfl, hww⟩
              subst hww
              go_wp2_with fail
              refine HC1.out.mono ?_
              rintro x w' ⟨rfl, hww⟩
              subst hww
              go_wp2_with fail
              refine HC2.out.mono ?_
              rintro x w' ⟨rfl, hww⟩
              subst hww
              go_wp2_with fail
              refine HC3.out.mono ?_
              rintro x w' ⟨rfl, hww⟩
              subst hww
              go_wp2
              go_ret
              exact ⟨by rw [HF.out]; rfl, HU.out⟩
            · rw [if_neg h5] at hR
              by_cases h6 : kind < 1 ∨ 5 < kind
              · rw [if_pos h6] at hR
                have HC0 := hid (cell_in (w := (w.alloc (.cells #[.slice a1 nr c1, .int .i64 fam, .slice a2 nq c2, .int .i64 ts, .int .i64 seq, .int .i64 kind, .slice none 0 0] 215))) (n := (nr : Int)) (lo := 1) (hi := 256) (by omega))
                have HC1 := hid (cell_in (w := (w.alloc (.cells #[.slice a1 nr c1, .int .i64 fam, .slice a2 nq c2, .int .i64 ts, .int .i64 seq, .int .i64 kind, .slice none 0 0] 215))) (n := fam) (lo := 0) (hi := 7) (by omega))
                have HC2 := hid (cell_in (w := (w.alloc (.cells #[.slice a1 nr c1, .int .i64 fam, .slice a2 nq c2, .int .i64 ts, .int .i64 seq, .int .i64 kind, .slice none 0 0] 215))) (n := ts) (lo := 1) (hi := 1099511627776) (by omega))
                have HC3 := hid (cell_in (w := (w.alloc (.cells #[.slice a1 nr c1, .int .i64 fam, .slice a2 nq c2, .int .i64 ts, .int .i64 seq, .int .i64 kind, .slice none 0 0] 215))) (n := seq) (lo := 0) (hi := 17592186044431) (by omega))
                have HC4 := hid (cell_out (w := (w.alloc (.cells #[.slice a1 nr c1, .int .i64 fam, .slice a2 nq c2, .int .i64 ts, .int .i64 seq, .int .i64 kind, .slice none 0 0] 215))) (n := kind) (lo := 1) (hi := 5) (by omega))
                have HF := hid hR
                clear hR
                go_enter Tryz.func225, Tryz.ntmps225
                go_wp2_with fail
                refine HC0.out.mono ?_
                rintro x w' ⟨rfl, hww⟩
                subst hww
                go_wp2_with fail
                refine HC1.out.mono ?_
                rintro x w' ⟨rfl, hww⟩
                subst hww
                go_wp2_with fail
                refine HC2.out.mono ?_
                rintro x w' ⟨rfl, hww⟩
                subst hww
                go_wp2_with fail
                refine HC3.out.mono ?_
                rintro x w' ⟨rfl, hww⟩
                subst hww
                go_wp2_with fail
                refine HC4.out.mono ?_
                rintro x w' ⟨rfl, hww⟩
                subst hww
                go_wp2
                go_ret
                exact ⟨by rw [HF.out]; rfl, HU.out⟩
              · rw [if_neg h6] at hR
                by_cases g4 : kind = 1
                · have HC4 := hid (cell_in (w := (w.alloc (.cells #[.slice a1 nr c1, .int .i64 fam, .slice a2 nq c2, .int .i64 ts, .int .i64 seq, .int .i64 kind, .slice none 0 0] 215))) (n := kind) (lo := 1) (hi := 5) (by omega))
                  have HC0 := hid (cell_in (w := (w.alloc (.cells #[.slice a1 nr c1, .int .i64 fam, .slice a2 nq c2, .int .i64 ts, .int .i64 seq, .int .i64 kind, .slice none 0 0] 215))) (n := (nr : Int)) (lo := 1) (hi := 256) (by omega))
                  have HC1 := hid (cell_in (w := (w.alloc (.cells #[.slice a1 nr c1, .int .i64 fam, .slice a2 nq c2, .int .i64 ts, .int .i64 seq, .int .i64 kind, .slice none 0 0] 215))) (n := fam) (lo := 0) (hi := 7) (by omega))
                  have HC2 := hid (cell_in (w := (w.alloc (.cells #[.slice a1 nr c1, .int .i64 fam, .slice a2 nq c2, .int .i64 ts, .int .i64 seq, .int .i64 kind, .slice none 0 0] 215))) (n := ts) (lo := 1) (hi := 1099511627776) (by omega))
                  have HC3 := hid (cell_in (w := (w.alloc (.cells #[.slice a1 nr c1, .int .i64 fam, .slice a2 nq c2, .int .i64 ts, .int .i64 seq, .int .i64 kind, .slice none 0 0] 215))) (n := seq) (lo := 0) (hi := 17592186044431) (by omega))
                  have HC4 := hid (cell_in (w := (w.alloc (.cells #[.slice a1 nr c1, .int .i64 fam, .slice a2 nq c2, .int .i64 ts, .int .i64 seq, .int .i64 kind, .slice none 0 0] 215))) (n := kind) (lo := 1) (hi := 5) (by omega))
                  subst g4
                  have HF := hid hR
                  clear hR
                  go_enter Tryz.func225, Tryz.ntmps225
                  go_wp2_with fail
                  refine HC0.out.mono ?_
                  rintro x w' ⟨rfl, hww⟩
                  subst hww
                  go_wp2_with fail
                  refine HC1.out.mono ?_
                  rintro x w' ⟨rfl, hww⟩
                  subst hww
                  go_wp2_with fail
                  refine HC2.out.mono ?_
                  rintro x w' ⟨rfl, hww⟩
                  subst hww
                  go_wp2_with fail
                  refine HC3.out.mono ?_
                  rintro x w' ⟨rfl, hww⟩
                  subst hww
                  go_wp2_with fail
                  refine HC4.out.mono ?_
                  rintro x w' ⟨rfl, hww⟩
                  subst hww
                  go_wp2
                  go_ret
                  exact ⟨by rw [HF.out]; rfl, HU.out⟩
                · have g4i : (kind == 1) = false := by simp; exact g4
                  have HC0 := hid (cell_in (w := (w.alloc (.cells #[.slice a1 nr c1, .int .i64 fam, .slice a2 nq c2, .int .i64 ts, .int .i64 seq, .int .i64 kind, .slice none 0 0] 215))) (n := (nr : Int)) (lo := 1) (hi := 256) (by omega))
                  have HC1 := hid (cell_in (w := (w.alloc (.cells #[.slice a1 nr c1, .int .i64 fam, .slice a2 nq c2, .int .i64 ts, .int .i64 seq, .int .i64 kind, .slice none 0 0] 215))) (n := fam) (lo := 0) (hi := 7) (by omega))
                  have HC2 := hid (cell_in (w := (w.alloc (.cells #[.slice a1 nr c1, .int .i64 fam, .slice a2 nq c2, .int .i64 ts, .int .i64 seq, .int .i64 kind, .slice none 0 0] 215))) (n := ts) (lo := 1) (hi := 1099511627776) (by omega))
                  have HC3 := hid (cell_in (w := (w.alloc (.cells #[.slice a1 nr c1, .int .i64 fam, .slice a2 nq c2, .int .i64 ts, .int .i64 seq, .int .i64 kind, .slice none 0 0] 215))) (n := seq) (lo := 0) (hi := 17592186044431) (by omega))
                  have HC4 := hid (cell_in (w := (w.alloc (.cells #[.slice a1 nr c1, .int .i64 fam, .slice a2 nq c2, .int .i64 ts, .int .i64 seq, .int .i64 kind, .slice none 0 0] 215))) (n := kind) (lo := 1) (hi := 5) (by omega))
                  have HF := hid hR
                  clear hR
                  go_enter Tryz.func225, Tryz.ntmps225
                  go_wp2_with fail
                  refine HC0.out.mono ?_
                  rintro x w' ⟨rfl, hww⟩
                  subst hww
                  go_wp2_with fail
                  refine HC1.out.mono ?_
                  rintro x w' ⟨rfl, hww⟩
                  subst hww
                  go_wp2_with fail
                  refine HC2.out.mono ?_
                  rintro x w' ⟨rfl, hww⟩
                  subst hww
                  go_wp2_with fail
                  refine HC3.out.mono ?_
                  rintro x w' ⟨rfl, hww⟩
                  subst hww
                  go_wp2_with fail
                  refine HC4.out.mono ?_
                  rintro x w' ⟨rfl, hww⟩
                  subst hww
                  go_wp2
                  go_ret
                  exact ⟨by rw [HF.out]; rfl, HU.out⟩

end Go.Proofs.YtgaidmohdhaonaaGreatDoor

namespace Go.Proofs.YtgaidmohdhaonaaGreatDoor
set_option linter.unusedVariables false
set_option linter.unusedSimpArgs false
set_option linter.unnecessarySimpa false
set_option linter.unusedSectionVars false
open Go Go.RowKit

set_option maxRecDepth 100000 in
theorem flag_no (w : World) (b : Bool) (hb : b = true) : Calls Tryz.prog 227 #[.bool b] w fun e w' => e = .returned (.int .u8 0) ∧ w' = w := by
  subst hb
  go_enter Tryz.func227, Tryz.ntmps227
  go_wp2
  go_ret
  exact ⟨rfl, rfl⟩

set_option maxRecDepth 100000 in
theorem flag_yes (w : World) (b : Bool) (hb : b = false) : Calls Tryz.prog 227 #[.bool b] w fun e w' => e = .returned (.int .u8 1) ∧ w' = w := by
  subst hb
  go_enter Tryz.func227, Tryz.ntmps227
  go_wp2
  go_ret
  exact ⟨rfl, rfl⟩

theorem NewB.rebase {w w1 w2 : World} {v : Value} {bs : List UInt8} (h : NewB w1 w2 v bs) (hu : Upd (fun _ => False) w w1) : NewB w w2 v bs := ⟨h.data, fun k hk => Nat.le_trans hu.size (h.new k hk), hu.trans h.upd (fun _ _ e => e)⟩

theorem Upd.cell {w w' : World} (hu : Upd (fun _ => False) w w') {q j : Nat} {u : Value} (hq : q < w.heap.size) (h : w.cell? ⟨q, j, none⟩ = some u) : w'.cell? ⟨q, j, none⟩ = some u := by
  rw [World.cell?_of_block (w := w) (a := ⟨q, j, none⟩) (hu.block q hq (fun e => e))]; exact h

/-- Other bytes are appended; the new slice in letters. -/
theorem NewB.glue {w w1 : World} {v s : Value} {bs news : List UInt8} (h : NewB w w1 v bs) (hs : BAt w1 s news) (hl : bs.length + news.length ≤ 140737488355328) :
    ∃ ao L cap w2, (Builtin.append_ #[22, 22] 22 #[v, s]).run Tryz.prog w1 = .ok (.slice ao L cap) w2 ∧ NewB w w2 (.slice ao L cap) (bs ++ news) := by
  obtain ⟨v', w2, hr, hn⟩ := h.join hs hl 22
  obtain ⟨ao, cap, rfl, -, -⟩ := hn.shape
  exact ⟨ao, _, cap, w2, hr, hn⟩

/-- An entry without a value, with its bytes. -/
structure EntAt (w : World) (v : Value) (e : EntA) : Prop where
  eq : ∃ a1 c1 a2 c2, v = .agg #[.slice a1 e.row.length c1, .int .i64 e.fam, .slice a2 e.qual.length c2, .int .i64 e.ts, .int .i64 e.seq, .int .i64 e.kind, .slice none 0 0] ∧ BAt w (.slice a1 e.row.length c1) e.row ∧ BAt w (.slice a2 e.qual.length c2) e.qual

theorem EntAt.is {w : World} {v : Value} {e : EntA} (h : EntAt w v e) : EntIs v e := by
  obtain ⟨a1, c1, a2, c2, h, -⟩ := h.eq
  exact ⟨a1, c1, a2, c2, h⟩

set_option maxRecDepth 100000 in
set_option maxHeartbeats 3200000 in
theorem key_bad {w : World} {v : Value} {e : EntA} (hv : EntIs v e) (hb : e.bad ≠ 0) :
    Calls Tryz.prog 209 #[v] w fun x w' => x = .returned (.tuple #[.slice none 0 0, .int .i64 e.bad]) ∧ Upd (fun _ => False) w w' := by
  have HV := hid hv
  obtain ⟨a1, c1, a2, c2, rfl⟩ := hv
  obtain ⟨R, hR⟩ : ∃ R, R = e.bad := ⟨_, rfl⟩
  have hu := (Upd.refl (fun _ => False) w).alloc (.cells #[.slice a1 e.row.length c1, .int .i64 e.fam, .slice a2 e.qual.length c2, .int .i64 e.ts, .int .i64 e.seq, .int .i64 e.kind, .slice none 0 0] 215)
  have HC := hid (check_any (w := w.alloc (.cells #[.slice a1 e.row.length c1, .int .i64 e.fam, .slice a2 e.qual.length c2, .int .i64 e.ts, .int .i64 e.seq, .int .i64 e.kind, .slice none 0 0] 215)) HV.out)
  rw [← hR] at HC hb ⊢
  have hbi : (R == 0) = false := by simp; exact hb
  have HU := hid hu
  clear hu hR hb
  go_enter Tryz.func209, Tryz.ntmps209
  go_wp2_with fail
  refine HC.out.mono ?_
  rintro x w2 ⟨rfl, hu2⟩
  have HU2 := hid (HU.out.trans hu2 (fun _ _ e => e))
  clear hu2
  go_wp2
  go_ret2
  exact ⟨rfl, HU2.out⟩

set_option maxRecDepth 100000 in
set_option maxHeartbeats 6400000 in
theorem key_any {w : World} {v : Value} {e : EntA} (hv : EntAt w v e) (hb : e.bad = 0) :
    Calls Tryz.prog 209 #[v] w fun x w' => ∃ v', x = .returned (.tuple #[v', .int .i64 0]) ∧ NewB w w' v' e.key := by
  have HV := hid hv.is
  obtain ⟨a1, c1, a2, c2, rfl, hb1, hb2⟩ := hv.eq
  have hu := (Upd.refl (fun _ => False) w).alloc (.cells #[.slice a1 e.row.length c1, .int .i64 e.fam, .slice a2 e.qual.length c2, .int .i64 e.ts, .int .i64 e.seq, .int .i64 e.kind, .slice none 0 0] 215)
  have hal := heap_alloc_new w (.cells #[.slice a1 e.row.length c1, .int .i64 e.fam, .slice a2 e.qual.length c2, .int .i64 e.ts, .int .i64 e.seq, .int .i64 e.kind, .slice none 0 0] 215)
  have HC := hid (check_any (w := w.alloc (.cells #[.slice a1 e.row.length c1, .int .i64 e.fam, .slice a2 e.qual.length c2, .int .i64 e.ts, .int .i64 e.seq, .int .i64 e.kind, .slice none 0 0] 215)) HV.out)
  rw [hb] at HC
  obtain ⟨K, hK⟩ : ∃ K, K = e.key := ⟨_, rfl⟩
  rw [← hK]
  unfold EntA.key at hK
  unfold EntA.bad at hb
  obtain ⟨row, fam, qual, ts, seq, kind⟩ := e
  simp only at hb hK hb1 hb2 hu hal HC HV ⊢
  clear hv
  by_cases h1 : row.length < 1 ∨ 256 < row.length
  · rw [if_pos h1] at hb; omega
  rw [if_neg h1] at hb
  by_cases h2 : fam < 0 ∨ 7 < fam
  · rw [if_pos h2] at hb; omega
  rw [if_neg h2] at hb
  by_cases h3 : 256 < qual.length ∨ (kind = 5 ∧ 0 < qual.length)
  · rw [if_pos h3] at hb; omega
  rw [if_neg h3] at hb
  by_cases h4 : ts < 1 ∨ 1099511627776 < ts
  · rw [if_pos h4] at hb; omega
  rw [if_neg h4] at hb
  by_cases h5 : seq < 0 ∨ 17592186044431 < seq
  · rw [if_pos h5] at hb; omega
  rw [if_neg h5] at hb
  by_cases h6 : kind < 1 ∨ 5 < kind
  · rw [if_pos h6] at hb; omega
  clear hb
  obtain ⟨f, rfl⟩ : ∃ f : Nat, fam = f := ⟨fam.toNat, by omega⟩
  obtain ⟨t, rfl⟩ : ∃ t : Nat, ts = t := ⟨ts.toNat, by omega⟩
  obtain ⟨s, rfl⟩ : ∃ s : Nat, seq = s := ⟨seq.toNat, by omega⟩
  obtain ⟨k, rfl⟩ : ∃ k : Nat, kind = k := ⟨kind.toNat, by omega⟩
  rw [Int.toNat_natCast, Int.toNat_natCast, Int.toNat_natCast, Int.toNat_natCast] at hK
  have hrl : row.length ≤ 256 := by omega
  have hql : qual.length ≤ 256 := by omega
  have hf8 : f < 8 := by omega
  have hk6 : k < 6 := by omega
  have hfu : (((UInt8.ofNat f).toNat : Nat) : Int) = (f : Int) := by rw [UInt8.toNat_ofNat']; omega
  have hku : (((UInt8.ofNat k).toNat : Nat) : Int) = (k : Int) := by rw [UInt8.toNat_ofNat']; omega
  have hfw : IntKind.u8.wrap (f : Int) = (f : Int) := by rw [IntKind.wrap_u8]; omega
  have hfm : (f : Int) % 256 = (f : Int) := by omega
  have hkm : (k : Int) % 256 = (k : Int) := by omega
  have HT := hid (fun (W : World) => falling_any (w := W) (n := t) (by omega))
  have HS := hid (fun (W : World) => falling_any (w := W) (n := s) (by omega))
  have HK := hid hK; have HU := hid hu; have HFU := hid hfu; have HKU := hid hku
  have HB1 := hid hb1; have HB2 := hid hb2; have HAL := hid hal
  have HOL := hid (ordT_len row); have HOQ := hid (ordT_len qual)
  have HRL := hid hrl; have HQL := hid hql
  obtain ⟨nr, hnr⟩ : ∃ nr, nr = row.length := ⟨_, rfl⟩
  obtain ⟨nq, hnq⟩ : ∃ nq, nq = qual.length := ⟨_, rfl⟩
  rw [← hnr, ← hnq] at HAL HC HU ⊢
  rw [← hnr] at HB1 HOL HRL
  rw [← hnq] at HB2 HOQ HQL
  have HNR := hid hnr; have HNQ := hid hnq
  clear h1 h2 h3 h4 h5 h6 hK hu hfu hku hb1 hb2 hal hrl hql hnr hnq
  by_cases hk5 : k = 5
  · have hk5i : ((k : Int) == 5) = true := by simp; omega
    have hk5n : ((k : Int) != 5) = false := by simp; omega
    have HK5 := hid hk5
    clear hk5
    have HP := hid (show ([UInt8.ofNat f, 0].map byteV).toArray = #[.int .u8 (f : Int), .int .u8 0] from by simp only [List.map, byteV, HFU.out]; rfl)
    go_enter Tryz.func209, Tryz.ntmps209
    go_wp2_with fail
    refine HC.out.mono ?_
    rintro x w2 ⟨rfl, hu2⟩
    have HU2 := hid (HU.out.trans hu2 (fun _ _ e => e))
    have hq2 := hu2.get HAL.out (fun e => e)
    have hql2 : w.heap.size < w2.heap.size := lt_of_heap hq2
    have HQ := hid (fun (W : World) (hW : Upd (fun _ => False) w2 W) => hW.get hq2 (fun e => e))
    clear hu2
    obtain ⟨q, hq⟩ : ∃ q, q = w.heap.size := ⟨_, rfl⟩
    rw [← hq] at hq2 hql2 HQ ⊢
    clear hq
    have d0 : w2.cell? ⟨q, 0, none⟩ = some (.slice a1 nr c1) := cell_of_row w2 q 0 _ _ _ hq2
    have d1 : w2.cell? ⟨q, 1, none⟩ = some (.int .i64 f) := cell_of_row w2 q 1 _ _ _ hq2
    have d5 : w2.cell? ⟨q, 5, none⟩ = some (.int .i64 k) := cell_of_row w2 q 5 _ _ _ hq2
    have hcur := hid (show Upd (fun _ => False) w2 w2.drew from (Upd.refl _ w2).drew)
    clear hq2
    go_upto_region 4 with fail
    go_region_held3 (fun V => V.cell? ⟨q, 0, none⟩ = some (.slice a1 nr c1) ∧ V.cell? ⟨q, 1, none⟩ = some (.int .i64 f) ∧ V.cell? ⟨q, 5, none⟩ = some (.int .i64 k))
      (first
        | (exact ⟨hcur.out.cell hql2 d0, hcur.out.cell hql2 d1, hcur.out.cell hql2 d5⟩)
        | go_keep)
      (first
        | (go_at_call 226; refine (ordered_any (HB1.out.keep (HU2.out.trans hcur.out (fun _ _ e => e))) (by have := HNR.out; have := HRL.out; omega)).mono ?_; rintro e w3 ⟨v3, rfl, hn3⟩; have hN := hn3.rebase hcur.out; have hcur := hid hN.upd; obtain ⟨ao4, L4, cap4, w4, hr4, hn4⟩ := hN.put [UInt8.ofNat f, 0] #[.int .u8 f, .int .u8 0] 2 HP.out rfl (by have := HOL.out; have := HNR.out; have := HRL.out; simp [ordB]; omega))
        | (go_at_call 227; refine (flag_no _ _ (by first | rfl | (simp; done) | (simp; omega))).mono ?_; rintro e w5 ⟨rfl, hww⟩; obtain rfl := hww.symm)
        | (show (if _ = true then Oper.wp _ (Oper.mk (some 26) _ _ _ _ _) _ _ _ _ else _); refine step_append_eq rfl (.tmp 17) (.tmp 25) 22 rfl rfl rfl hr4 ?_; have hcur := hid hn4.upd)
        | fail)
    all_goals
      have HN4 := hid hn4
      clear hn4 hr4 hN hn3 d0 d1 d5 hcur
      have HN9 := hid HN4.out
      have e5a : w4.cell? ⟨q, 5, none⟩ = some (.int .i64 k) := cell_of_row w4 q 5 _ _ _ (HQ.out _ HN4.out.upd)
      obtain ⟨P, hP⟩ : ∃ P, P = ordB row ++ [UInt8.ofNat f, 0] := ⟨_, rfl⟩
      rw [← hP] at HN9
      have HPE := hid hP
      obtain ⟨T1, hT1⟩ : ∃ T1, T1 = eightB (9223372036854775807 - t) := ⟨_, rfl⟩
      obtain ⟨S1, hS1⟩ : ∃ S1, S1 = eightB (9223372036854775807 - s) := ⟨_, rfl⟩
      rw [← hT1] at HT HK
      rw [← hS1] at HS HK
      have HT8 := hid (show T1.length = 8 from by rw [hT1]; rfl)
      have HS8 := hid (show S1.length = 8 from by rw [hS1]; rfl)
      have HPL := hid (show P.length ≤ 2000 from by rw [hP]; have := HOL.out; have := HRL.out; simp [ordB]; omega)
      have e3 : w4.cell? ⟨q, 3, none⟩ = some (.int .i64 t) := cell_of_row w4 q 3 _ _ _ (HQ.out _ HN9.out.upd)
      have e4 : w4.cell? ⟨q, 4, none⟩ = some (.int .i64 s) := cell_of_row w4 q 4 _ _ _ (HQ.out _ HN9.out.upd)
      have hq9 : q < w4.heap.size := Nat.lt_of_lt_of_le hql2 HN9.out.upd.size
      clear hT1 hS1 hP
      go_wp2
      go_loopw [47, 5] (fun iv ov wr => ∃ j : Nat, j ≤ 2 ∧ iv = .int .i64 j ∧ ∃ ao L cap, ov = .slice ao L cap ∧ NewB w2 wr (.slice ao L cap) (if j = 0 then P else if j = 1 then P ++ T1 else P ++ T1 ++ S1)) (fun iv _ _ => 2 - (intOf iv).toNat)
      case atStart => exact ⟨0, by omega, rfl, _, _, _, rfl, HN9.out⟩
      case round =>
        obtain ⟨j, hj, rfl, ao, L, cap, rfl, hnew⟩ := hrel
        rcases j with _ | _ | _ | j
        · rw [if_pos rfl] at hnew
          rw [show (((0 : Nat)) : Int) = 0 from rfl]
          have hix : ∀ W : World, (Instr.index 266 (.agg #[.int .i64 t, .int .i64 s]) (.int .i64 0)).run Tryz.prog W = .ok (.int .i64 t) W := fun _ => by kernel_rfl
          have HNEW := hid hnew
          clear hnew e3 e4
          go_wp2_with fail
          refine (HT.out wr).mono ?_
          rintro e wa ⟨va, rfl, hna⟩
          obtain ⟨aoa, La, capa, wb, hra, hnb⟩ := (HNEW.out.keep hna.upd).glue hna.data.bat (by have := HT8.out; have := HPL.out; omega)
          have HRA := hid hra; have HNB := hid hnb
          clear hna hra hnb
          go_wp2_with (at_builtin; refine wpList_append_run rfl _ _ _ rfl rfl rfl HRA.out ?_)
          go_roundw
          case rel => exact ⟨1, by omega, by go_num, aoa, La, capa, rfl, HNB.out⟩
          case measure => simp [intOf]
        · rw [if_neg (by omega), if_pos rfl] at hnew
          rw [show (((0 + 1 : Nat)) : Int) = 1 from rfl]
          have hix : ∀ W : World, (Instr.index 266 (.agg #[.int .i64 t, .int .i64 s]) (.int .i64 1)).run Tryz.prog W = .ok (.int .i64 s) W := fun _ => by kernel_rfl
          have HNEW := hid hnew
          clear hnew e3 e4
          go_wp2_with fail
          refine (HS.out wr).mono ?_
          rintro e wa ⟨va, rfl, hna⟩
          obtain ⟨aoa, La, capa, wb, hra, hnb⟩ := (HNEW.out.keep hna.upd).glue hna.data.bat (by have := HT8.out; have := HS8.out; have := HPL.out; rw [List.length_append]; omega)
          have HRA := hid hra; have HNB := hid hnb
          clear hna hra hnb
          go_wp2_with (at_builtin; refine wpList_append_run rfl _ _ _ rfl rfl rfl HRA.out ?_)
          go_roundw
          case rel => exact ⟨2, by omega, by go_num, aoa, La, capa, rfl, HNB.out⟩
          case measure => simp [intOf]
        · rw [if_neg (by omega), if_neg (by omega)] at hnew
          have e5 : wr.cell? ⟨q, 5, none⟩ = some (.int .i64 k) := cell_of_row wr q 5 _ _ _ (HQ.out _ hnew.upd)
          have hqr : q < wr.heap.size := Nat.lt_of_lt_of_le hql2 hnew.upd.size
          have hp2 : ([UInt8.ofNat k].map byteV).toArray = #[.int .u8 (k : Int)] := by simp only [List.map, byteV, HKU.out]
          obtain ⟨aoz, Lz, capz, wz, hrz, hnz⟩ := hnew.put [UInt8.ofNat k] #[.int .u8 (k : Int)] 1 hp2 rfl (by have := HT8.out; have := HS8.out; have := HPL.out; rw [List.length_append, List.length_append]; omega)
          have HRZ := hid hrz
          have HFIN := hid (hnz.rebase HU2.out)
          have HKE := hid (show K = P ++ T1 ++ S1 ++ [UInt8.ofNat k] from by have h := HK.out; rw [if_pos (by have := HK5.out; omega), if_pos (by have := HK5.out; omega), List.append_nil, ← HPE.out] at h; exact h)
          clear hrz hnz hnew e3 e4 hp2
          go_wp2_with (at_builtin; refine wpList_append_run rfl _ _ _ rfl rfl rfl HRZ.out ?_)
          go_ret2
          exact ⟨_, rfl, by rw [HKE.out]; exact HFIN.out⟩
        · omega
  · have hk5i : ((k : Int) == 5) = false := by simp; omega
    have HK5 := hid hk5
    clear hk5
    have HP := hid (show ([UInt8.ofNat f, 1].map byteV).toArray = #[.int .u8 (f : Int), .int .u8 1] from by simp only [List.map, byteV, HFU.out]; rfl)
    go_enter Tryz.func209, Tryz.ntmps209
    go_wp2_with fail
    refine HC.out.mono ?_
    rintro x w2 ⟨rfl, hu2⟩
    have HU2 := hid (HU.out.trans hu2 (fun _ _ e => e))
    have hq2 := hu2.get HAL.out (fun e => e)
    have hql2 : w.heap.size < w2.heap.size := lt_of_heap hq2
    have HQ := hid (fun (W : World) (hW : Upd (fun _ => False) w2 W) => hW.get hq2 (fun e => e))
    clear hu2
    obtain ⟨q, hq⟩ : ∃ q, q = w.heap.size := ⟨_, rfl⟩
    rw [← hq] at hq2 hql2 HQ ⊢
    clear hq
    have d0 : w2.cell? ⟨q, 0, none⟩ = some (.slice a1 nr c1) := cell_of_row w2 q 0 _ _ _ hq2
    have d1 : w2.cell? ⟨q, 1, none⟩ = some (.int .i64 f) := cell_of_row w2 q 1 _ _ _ hq2
    have d5 : w2.cell? ⟨q, 5, none⟩ = some (.int .i64 k) := cell_of_row w2 q 5 _ _ _ hq2
    have hcur := hid (show Upd (fun _ => False) w2 w2.drew from (Upd.refl _ w2).drew)
    clear hq2
    go_upto_region 4 with fail
    go_region_held3 (fun V => V.cell? ⟨q, 0, none⟩ = some (.slice a1 nr c1) ∧ V.cell? ⟨q, 1, none⟩ = some (.int .i64 f) ∧ V.cell? ⟨q, 5, none⟩ = some (.int .i64 k))
      (first
        | (exact ⟨hcur.out.cell hql2 d0, hcur.out.cell hql2 d1, hcur.out.cell hql2 d5⟩)
        | go_keep)
      (first
        | (go_at_call 226; refine (ordered_any (HB1.out.keep (HU2.out.trans hcur.out (fun _ _ e => e))) (by have := HNR.out; have := HRL.out; omega)).mono ?_; rintro e w3 ⟨v3, rfl, hn3⟩; have hN := hn3.rebase hcur.out; have hcur := hid hN.upd; obtain ⟨ao4, L4, cap4, w4, hr4, hn4⟩ := hN.put [UInt8.ofNat f, 1] #[.int .u8 f, .int .u8 1] 2 HP.out rfl (by have := HOL.out; have := HNR.out; have := HRL.out; simp [ordB]; omega))
        | (go_at_call 227; refine (flag_yes _ _ (by first | rfl | (simp; done) | (simp; omega))).mono ?_; rintro e w5 ⟨rfl, hww⟩; obtain rfl := hww.symm)
        | (show (if _ = true then Oper.wp _ (Oper.mk (some 26) _ _ _ _ _) _ _ _ _ else _); refine step_append_eq rfl (.tmp 17) (.tmp 25) 22 rfl rfl rfl hr4 ?_; have hcur := hid hn4.upd)
        | fail)
    all_goals
      have HN4 := hid hn4
      clear hn4 hr4 hN hn3 d0 d1 d5 hcur
      have e5a : w4.cell? ⟨q, 5, none⟩ = some (.int .i64 k) := cell_of_row w4 q 5 _ _ _ (HQ.out _ HN4.out.upd)
      have e2a : w4.cell? ⟨q, 2, none⟩ = some (.slice a2 nq c2) := cell_of_row w4 q 2 _ _ _ (HQ.out _ HN4.out.upd)
      have hq4 : q < w4.heap.size := Nat.lt_of_lt_of_le hql2 HN4.out.upd.size
      go_wp2_with fail
      refine (ordered_any (HB2.out.keep (HU2.out.trans HN4.out.upd (fun _ _ e => e))) (by have := HNQ.out; have := HQL.out; omega)).mono ?_
      rintro e w6 ⟨v6, rfl, hn6⟩
      have hol := HOL.out
      have hoq := HOQ.out
      have hrl := HRL.out
      have hql := HQL.out
      obtain ⟨ao7, L7, cap7, w7, hr7, hn7⟩ := (HN4.out.keep hn6.upd).glue hn6.data.bat (by simp [ordB]; omega)
      have HR7 := hid hr7; have HN7 := hid hn7
      have e5b : w7.cell? ⟨q, 5, none⟩ = some (.int .i64 k) := cell_of_row w7 q 5 _ _ _ (HQ.out _ hn7.upd)
      have hq7 : q < w7.heap.size := Nat.lt_of_lt_of_le hql2 hn7.upd.size
      clear hr7 hn7 hn6 e2a e5a
      by_cases hk4 : k = 4
      · have hk4i : ((k : Int) == 4) = true := by simp; omega
        have HK4 := hid hk4
        clear hk4
        obtain ⟨ao8, L8, cap8, w8, hr8, hn8⟩ := HN7.out.put [0] #[.int .u8 0] 1 rfl rfl (by simp [ordB]; omega)
        have HR8 := hid hr8; have HN9 := hid hn8
        have HLEN := hid (show (ordB row ++ [UInt8.ofNat f, 1] ++ ordB qual ++ [0]).length ≤ 2000 from by simp [ordB]; omega)
        clear hr8 hn8 hol hoq hrl hql
        go_upto_region 7 with (at_builtin; refine wpList_append_run rfl _ _ _ rfl rfl rfl HR7.out ?_)
        go_wp2_with fail
        refine (flag_no _ _ rfl).mono ?_
        rintro e wf ⟨rfl, hww⟩
        obtain rfl := hww.symm
        clear e5b
        obtain ⟨P, hP⟩ : ∃ P, P = ordB row ++ [UInt8.ofNat f, 1] ++ ordB qual ++ [0] := ⟨_, rfl⟩
        rw [← hP] at HN9 HLEN
        have HPE := hid hP
        clear hP
        obtain ⟨T1, hT1⟩ : ∃ T1, T1 = eightB (9223372036854775807 - t) := ⟨_, rfl⟩
        obtain ⟨S1, hS1⟩ : ∃ S1, S1 = eightB (9223372036854775807 - s) := ⟨_, rfl⟩
        rw [← hT1] at HT HK
        rw [← hS1] at HS HK
        have HT8 := hid (show T1.length = 8 from by rw [hT1]; rfl)
        have HS8 := hid (show S1.length = 8 from by rw [hS1]; rfl)
        have HPL := hid (show P.length ≤ 2000 from HLEN.out)
        have e3 : w8.cell? ⟨q, 3, none⟩ = some (.int .i64 t) := cell_of_row w8 q 3 _ _ _ (HQ.out _ HN9.out.upd)
        have e4 : w8.cell? ⟨q, 4, none⟩ = some (.int .i64 s) := cell_of_row w8 q 4 _ _ _ (HQ.out _ HN9.out.upd)
        have hq9 : q < w8.heap.size := Nat.lt_of_lt_of_le hql2 HN9.out.upd.size
        clear hT1 hS1
        go_wp2_with (at_builtin; refine wpList_append_run rfl _ _ _ rfl rfl rfl HR8.out ?_)
        go_loopw [47, 5] (fun iv ov wr => ∃ j : Nat, j ≤ 2 ∧ iv = .int .i64 j ∧ ∃ ao L cap, ov = .slice ao L cap ∧ NewB w2 wr (.slice ao L cap) (if j = 0 then P else if j = 1 then P ++ T1 else P ++ T1 ++ S1)) (fun iv _ _ => 2 - (intOf iv).toNat)
        case atStart => exact ⟨0, by omega, rfl, _, _, _, rfl, HN9.out⟩
        case round =>
          obtain ⟨j, hj, rfl, ao, L, cap, rfl, hnew⟩ := hrel
          rcases j with _ | _ | _ | j
          · rw [if_pos rfl] at hnew
            rw [show (((0 : Nat)) : Int) = 0 from rfl]
            have hix : ∀ W : World, (Instr.index 266 (.agg #[.int .i64 t, .int .i64 s]) (.int .i64 0)).run Tryz.prog W = .ok (.int .i64 t) W := fun _ => by kernel_rfl
            have HNEW := hid hnew
            clear hnew e3 e4
            go_wp2_with fail
            refine (HT.out wr).mono ?_
            rintro e wa ⟨va, rfl, hna⟩
            obtain ⟨aoa, La, capa, wb, hra, hnb⟩ := (HNEW.out.keep hna.upd).glue hna.data.bat (by have := HT8.out; have := HPL.out; omega)
            have HRA := hid hra; have HNB := hid hnb
            clear hna hra hnb
            go_wp2_with (at_builtin; refine wpList_append_run rfl _ _ _ rfl rfl rfl HRA.out ?_)
            go_roundw
            case rel => exact ⟨1, by omega, by go_num, aoa, La, capa, rfl, HNB.out⟩
            case measure => simp [intOf]
          · rw [if_neg (by omega), if_pos rfl] at hnew
            rw [show (((0 + 1 : Nat)) : Int) = 1 from rfl]
            have hix : ∀ W : World, (Instr.index 266 (.agg #[.int .i64 t, .int .i64 s]) (.int .i64 1)).run Tryz.prog W = .ok (.int .i64 s) W := fun _ => by kernel_rfl
            have HNEW := hid hnew
            clear hnew e3 e4
            go_wp2_with fail
            refine (HS.out wr).mono ?_
            rintro e wa ⟨va, rfl, hna⟩
            obtain ⟨aoa, La, capa, wb, hra, hnb⟩ := (HNEW.out.keep hna.upd).glue hna.data.bat (by have := HT8.out; have := HS8.out; have := HPL.out; rw [List.length_append]; omega)
            have HRA := hid hra; have HNB := hid hnb
            clear hna hra hnb
            go_wp2_with (at_builtin; refine wpList_append_run rfl _ _ _ rfl rfl rfl HRA.out ?_)
            go_roundw
            case rel => exact ⟨2, by omega, by go_num, aoa, La, capa, rfl, HNB.out⟩
            case measure => simp [intOf]
          · rw [if_neg (by omega), if_neg (by omega)] at hnew
            have e5 : wr.cell? ⟨q, 5, none⟩ = some (.int .i64 k) := cell_of_row wr q 5 _ _ _ (HQ.out _ hnew.upd)
            have hqr : q < wr.heap.size := Nat.lt_of_lt_of_le hql2 hnew.upd.size
            have hp2 : ([UInt8.ofNat k].map byteV).toArray = #[.int .u8 (k : Int)] := by simp only [List.map, byteV, HKU.out]
            obtain ⟨aoz, Lz, capz, wz, hrz, hnz⟩ := hnew.put [UInt8.ofNat k] #[.int .u8 (k : Int)] 1 hp2 rfl (by have := HT8.out; have := HS8.out; have := HPL.out; rw [List.length_append, List.length_append]; omega)
            have HRZ := hid hrz
            have HFIN := hid (hnz.rebase HU2.out)
            have HKE := hid (show K = P ++ T1 ++ S1 ++ [UInt8.ofNat k] from by have h := HK.out; rw [if_neg (by have := HK5.out; omega), if_neg (by have := HK5.out; omega), if_pos (by have := HK4.out; omega)] at h; rw [h, HPE.out]; simp only [List.append_assoc])
            clear hrz hnz hnew e3 e4 hp2
            go_wp2_with (at_builtin; refine wpList_append_run rfl _ _ _ rfl rfl rfl HRZ.out ?_)
            go_ret2
            exact ⟨_, rfl, by rw [HKE.out]; exact HFIN.out⟩
          · omega
      · have hk4i : ((k : Int) == 4) = false := by simp; omega
        have HK4 := hid hk4
        clear hk4
        obtain ⟨ao8, L8, cap8, w8, hr8, hn8⟩ := HN7.out.put [1] #[.int .u8 1] 1 rfl rfl (by simp [ordB]; omega)
        have HR8 := hid hr8; have HN9 := hid hn8
        have HLEN := hid (show (ordB row ++ [UInt8.ofNat f, 1] ++ ordB qual ++ [1]).length ≤ 2000 from by simp [ordB]; omega)
        clear hr8 hn8 hol hoq hrl hql
        go_upto_region 7 with (at_builtin; refine wpList_append_run rfl _ _ _ rfl rfl rfl HR7.out ?_)
        go_wp2_with fail
        refine (flag_yes _ _ rfl).mono ?_
        rintro e wf ⟨rfl, hww⟩
        obtain rfl := hww.symm
        clear e5b
        obtain ⟨P, hP⟩ : ∃ P, P = ordB row ++ [UInt8.ofNat f, 1] ++ ordB qual ++ [1] := ⟨_, rfl⟩
        rw [← hP] at HN9 HLEN
        have HPE := hid hP
        clear hP
        obtain ⟨T1, hT1⟩ : ∃ T1, T1 = eightB (9223372036854775807 - t) := ⟨_, rfl⟩
        obtain ⟨S1, hS1⟩ : ∃ S1, S1 = eightB (9223372036854775807 - s) := ⟨_, rfl⟩
        rw [← hT1] at HT HK
        rw [← hS1] at HS HK
        have HT8 := hid (show T1.length = 8 from by rw [hT1]; rfl)
        have HS8 := hid (show S1.length = 8 from by rw [hS1]; rfl)
        have HPL := hid (show P.length ≤ 2000 from HLEN.out)
        have e3 : w8.cell? ⟨q, 3, none⟩ = some (.int .i64 t) := cell_of_row w8 q 3 _ _ _ (HQ.out _ HN9.out.upd)
        have e4 : w8.cell? ⟨q, 4, none⟩ = some (.int .i64 s) := cell_of_row w8 q 4 _ _ _ (HQ.out _ HN9.out.upd)
        have hq9 : q < w8.heap.size := Nat.lt_of_lt_of_le hql2 HN9.out.upd.size
        clear hT1 hS1
        go_wp2_with (at_builtin; refine wpList_append_run rfl _ _ _ rfl rfl rfl HR8.out ?_)
        go_loopw [47, 5] (fun iv ov wr => ∃ j : Nat, j ≤ 2 ∧ iv = .int .i64 j ∧ ∃ ao L cap, ov = .slice ao L cap ∧ NewB w2 wr (.slice ao L cap) (if j = 0 then P else if j = 1 then P ++ T1 else P ++ T1 ++ S1)) (fun iv _ _ => 2 - (intOf iv).toNat)
        case atStart => exact ⟨0, by omega, rfl, _, _, _, rfl, HN9.out⟩
        case round =>
          obtain ⟨j, hj, rfl, ao, L, cap, rfl, hnew⟩ := hrel
          rcases j with _ | _ | _ | j
          · rw [if_pos rfl] at hnew
            rw [show (((0 : Nat)) : Int) = 0 from rfl]
            have hix : ∀ W : World, (Instr.index 266 (.agg #[.int .i64 t, .int .i64 s]) (.int .i64 0)).run Tryz.prog W = .ok (.int .i64 t) W := fun _ => by kernel_rfl
            have HNEW := hid hnew
            clear hnew e3 e4
            go_wp2_with fail
            refine (HT.out wr).mono ?_
            rintro e wa ⟨va, rfl, hna⟩
            obtain ⟨aoa, La, capa, wb, hra, hnb⟩ := (HNEW.out.keep hna.upd).glue hna.data.bat (by have := HT8.out; have := HPL.out; omega)
            have HRA := hid hra; have HNB := hid hnb
            clear hna hra hnb
            go_wp2_with (at_builtin; refine wpList_append_run rfl _ _ _ rfl rfl rfl HRA.out ?_)
            go_roundw
            case rel => exact ⟨1, by omega, by go_num, aoa, La, capa, rfl, HNB.out⟩
            case measure => simp [intOf]
          · rw [if_neg (by omega), if_pos rfl] at hnew
            rw [show (((0 + 1 : Nat)) : Int) = 1 from rfl]
            have hix : ∀ W : World, (Instr.index 266 (.agg #[.int .i64 t, .int .i64 s]) (.int .i64 1)).run Tryz.prog W = .ok (.int .i64 s) W := fun _ => by kernel_rfl
            have HNEW := hid hnew
            clear hnew e3 e4
            go_wp2_with fail
            refine (HS.out wr).mono ?_
            rintro e wa ⟨va, rfl, hna⟩
            obtain ⟨aoa, La, capa, wb, hra, hnb⟩ := (HNEW.out.keep hna.upd).glue hna.data.bat (by have := HT8.out; have := HS8.out; have := HPL.out; rw [List.length_append]; omega)
            have HRA := hid hra; have HNB := hid hnb
            clear hna hra hnb
            go_wp2_with (at_builtin; refine wpList_append_run rfl _ _ _ rfl rfl rfl HRA.out ?_)
            go_roundw
            case rel => exact ⟨2, by omega, by go_num, aoa, La, capa, rfl, HNB.out⟩
            case measure => simp [intOf]
          · rw [if_neg (by omega), if_neg (by omega)] at hnew
            have e5 : wr.cell? ⟨q, 5, none⟩ = some (.int .i64 k) := cell_of_row wr q 5 _ _ _ (HQ.out _ hnew.upd)
            have hqr : q < wr.heap.size := Nat.lt_of_lt_of_le hql2 hnew.upd.size
            have hp2 : ([UInt8.ofNat k].map byteV).toArray = #[.int .u8 (k : Int)] := by simp only [List.map, byteV, HKU.out]
            obtain ⟨aoz, Lz, capz, wz, hrz, hnz⟩ := hnew.put [UInt8.ofNat k] #[.int .u8 (k : Int)] 1 hp2 rfl (by have := HT8.out; have := HS8.out; have := HPL.out; rw [List.length_append, List.length_append]; omega)
            have HRZ := hid hrz
            have HFIN := hid (hnz.rebase HU2.out)
            have HKE := hid (show K = P ++ T1 ++ S1 ++ [UInt8.ofNat k] from by have h := HK.out; rw [if_neg (by have := HK5.out; omega), if_neg (by have := HK5.out; omega), if_neg (by have := HK4.out; omega)] at h; rw [h, HPE.out]; simp only [List.append_assoc])
            clear hrz hnz hnew e3 e4 hp2
            go_wp2_with (at_builtin; refine wpList_append_run rfl _ _ _ rfl rfl rfl HRZ.out ?_)
            go_ret2
            exact ⟨_, rfl, by rw [HKE.out]; exact HFIN.out⟩
          · omega

end Go.Proofs.YtgaidmohdhaonaaGreatDoor

namespace Go.Proofs.YtgaidmohdhaonaaGreatDoor
set_option linter.unusedVariables false
set_option linter.unusedSimpArgs false
set_option linter.unnecessarySimpa false
set_option linter.unusedSectionVars false
open Go Go.RowKit

/-- The cells of an entry without a value. -/
abbrev entC (r : Value) (f : Int) (q : Value) (t s k : Int) : Array Value := #[r, .int .i64 f, q, .int .i64 t, .int .i64 s, .int .i64 k, .slice none 0 0]

/-- parse's two variables. -/
structure PW (w W : World) (p2 p4 : Nat) (r : Value) (f : Int) (q : Value) (t s k : Int) : Prop where
  upd : Upd (fun _ => False) w W
  h2 : W.heap[p2]? = some (.cells (entC (.slice none 0 0) 0 (.slice none 0 0) 0 0 0) 215 (0, 0))
  h4 : W.heap[p4]? = some (.cells (entC r f q t s k) 215 (0, 0))
  n2 : w.heap.size ≤ p2
  n4 : w.heap.size ≤ p4
  ne : p2 ≠ p4

theorem PW.keep {w W W' : World} {p2 p4 : Nat} {r q : Value} {f t s k : Int} (h : PW w W p2 p4 r f q t s k) (hu : Upd (fun _ => False) W W') : PW w W' p2 p4 r f q t s k :=
  ⟨h.upd.trans hu (fun _ _ e => e), hu.get h.h2 (fun e => e), hu.get h.h4 (fun e => e), h.n2, h.n4, h.ne⟩

theorem PW.cells {w W : World} {p2 p4 : Nat} {r q : Value} {f t s k : Int} (h : PW w W p2 p4 r f q t s k) :
    (W.cell? ⟨p4, 0, none⟩ = some r ∧ W.cell? ⟨p4, 1, none⟩ = some (.int .i64 f) ∧ W.cell? ⟨p4, 2, none⟩ = some q ∧ W.cell? ⟨p4, 3, none⟩ = some (.int .i64 t) ∧ W.cell? ⟨p4, 4, none⟩ = some (.int .i64 s) ∧ W.cell? ⟨p4, 5, none⟩ = some (.int .i64 k) ∧ W.cell? ⟨p4, 6, none⟩ = some (.slice none 0 0)) ∧
    (W.cell? ⟨p2, 0, none⟩ = some (.slice none 0 0) ∧ W.cell? ⟨p2, 1, none⟩ = some (.int .i64 0) ∧ W.cell? ⟨p2, 2, none⟩ = some (.slice none 0 0) ∧ W.cell? ⟨p2, 3, none⟩ = some (.int .i64 0) ∧ W.cell? ⟨p2, 4, none⟩ = some (.int .i64 0) ∧ W.cell? ⟨p2, 5, none⟩ = some (.int .i64 0) ∧ W.cell? ⟨p2, 6, none⟩ = some (.slice none 0 0)) ∧
    (W.frozen? ⟨p2, 0, none⟩ = false ∧ W.frozen? ⟨p2, 1, none⟩ = false ∧ W.frozen? ⟨p2, 2, none⟩ = false ∧ W.frozen? ⟨p2, 3, none⟩ = false ∧ W.frozen? ⟨p2, 4, none⟩ = false ∧ W.frozen? ⟨p2, 5, none⟩ = false ∧ W.frozen? ⟨p2, 6, none⟩ = false) ∧ p2 < W.heap.size ∧ p4 < W.heap.size :=
  ⟨⟨cell_of_row _ _ 0 _ _ _ h.h4, cell_of_row _ _ 1 _ _ _ h.h4, cell_of_row _ _ 2 _ _ _ h.h4, cell_of_row _ _ 3 _ _ _ h.h4, cell_of_row _ _ 4 _ _ _ h.h4, cell_of_row _ _ 5 _ _ _ h.h4, cell_of_row _ _ 6 _ _ _ h.h4⟩,
   ⟨cell_of_row _ _ 0 _ _ _ h.h2, cell_of_row _ _ 1 _ _ _ h.h2, cell_of_row _ _ 2 _ _ _ h.h2, cell_of_row _ _ 3 _ _ _ h.h2, cell_of_row _ _ 4 _ _ _ h.h2, cell_of_row _ _ 5 _ _ _ h.h2, cell_of_row _ _ 6 _ _ _ h.h2⟩,
   ⟨frozen_of_row _ _ _ _ _ h.h2, frozen_of_row _ _ _ _ _ h.h2, frozen_of_row _ _ _ _ _ h.h2, frozen_of_row _ _ _ _ _ h.h2, frozen_of_row _ _ _ _ _ h.h2, frozen_of_row _ _ _ _ _ h.h2, frozen_of_row _ _ _ _ _ h.h2⟩, lt_of_heap h.h2, lt_of_heap h.h4⟩

theorem PW.start (w : World) : PW w ((w.alloc (.cells (entC (.slice none 0 0) 0 (.slice none 0 0) 0 0 0) 215)).alloc (.cells (entC (.slice none 0 0) 0 (.slice none 0 0) 0 0 0) 215)) w.heap.size (w.heap.size + 1) (.slice none 0 0) 0 (.slice none 0 0) 0 0 0 := by
  refine ⟨((Upd.refl _ w).alloc _).alloc _, ?_, ?_, Nat.le_refl _, Nat.le_succ _, by omega⟩
  · rw [heap_alloc_past _ _ _ (by simp)]; exact heap_alloc_new w _
  · have h := heap_alloc_new (w.alloc (.cells (entC (.slice none 0 0) 0 (.slice none 0 0) 0 0 0) 215)) (.cells (entC (.slice none 0 0) 0 (.slice none 0 0) 0 0 0) 215)
    simpa using h

/-- The seven stores into the result. -/
abbrev entOut (W : World) (p : Nat) (r : Value) (f : Int) (q : Value) (t s k : Int) : World :=
  (((((((W.setCell ⟨p, 0, none⟩ r).setCell ⟨p, 1, none⟩ (.int .i64 f)).setCell ⟨p, 2, none⟩ q).setCell ⟨p, 3, none⟩ (.int .i64 t)).setCell ⟨p, 4, none⟩ (.int .i64 s)).setCell ⟨p, 5, none⟩ (.int .i64 k)).setCell ⟨p, 6, none⟩ (.slice none 0 0))

theorem PW.out {w W : World} {p2 p4 : Nat} {r q : Value} {f t s k : Int} (h : PW w W p2 p4 r f q t s k) :
    (entOut W p2 r f q t s k).heap[p2]? = some (.cells (entC r f q t s k) 215 (0, 0)) ∧ Upd (fun _ => False) w (entOut W p2 r f q t s k) ∧ Upd (fun k => k = p2) W (entOut W p2 r f q t s k) := by
  refine ⟨?_, ?_, ?_⟩
  · have h1 := heap_setCell_at W p2 0 _ _ r h.h2
    have h2 := heap_setCell_at _ p2 1 _ _ (.int .i64 f) h1
    have h3 := heap_setCell_at _ p2 2 _ _ q h2
    have h4 := heap_setCell_at _ p2 3 _ _ (.int .i64 t) h3
    have h5 := heap_setCell_at _ p2 4 _ _ (.int .i64 s) h4
    have h6 := heap_setCell_at _ p2 5 _ _ (.int .i64 k) h5
    have h7 := heap_setCell_at _ p2 6 _ _ (.slice none 0 0) h6
    rw [h7]
    simp [entC]
  · have hp : ∀ j : Nat, (⟨p2, j, none⟩ : Addr).block < w.heap.size → False := fun j e => by have h1 : p2 < w.heap.size := e; have := h.n2; omega
    exact ((((((h.upd.setCell (hp 0) _).setCell (hp 1) _).setCell (hp 2) _).setCell (hp 3) _).setCell (hp 4) _).setCell (hp 5) _).setCell (hp 6) _
  · have hp : ∀ j : Nat, (⟨p2, j, none⟩ : Addr).block < W.heap.size → (⟨p2, j, none⟩ : Addr).block = p2 := fun j _ => rfl
    exact (((((((Upd.refl (fun k => k = p2) W).setCell (hp 0) _).setCell (hp 1) _).setCell (hp 2) _).setCell (hp 3) _).setCell (hp 4) _).setCell (hp 5) _).setCell (hp 6) _

theorem results_ent {fn : Func} {p u : Tmp} (h : fn.results = #[.cell p 215, .tmp u]) (tmps : Array Value) (w : World) (g : Nat) (cs : Array Value) (hsz : cs.size = 7)
    (hp : tmps.getD p undef = .pointer (some ⟨g, 0, none⟩)) (hg : w.heap[g]? = some (.cells cs 215 (0, 0))) :
    (results fn tmps).run Tryz.prog w = .ok (.tuple #[.agg cs, tmps.getD u undef]) w := by
  rw [results_cell_tmp h, hp]
  have hl := run_loadVar_row (P := Tryz.prog) w g 215 215 cs (0, 0) _ hg Tryz.underlying215 rfl (by rw [hsz]; kernel_rfl)
  simp [asAddr, Result.andThen, hl]

set_option maxRecDepth 100000 in
set_option maxHeartbeats 6400000 in
theorem parse_none0 {w : World} {v : Value} {b : List UInt8} (hv : BAt w v b) (hl : b.length ≤ 140737488351232) (hp : (readO b 0).2.2 ≠ 0) :
    Calls Tryz.prog 208 #[v] w fun e w' => ∃ x, e = .returned (.tuple #[x, .bool false]) ∧ Upd (fun _ => False) w w' := by
  have HV := hid hv
  have hpi : ((readO b 0).2.2 == 0) = false := by simp; exact hp
  have HRO := hid (readOrdered_any (hv.keep (PW.start w).upd) (a := 0) (Nat.zero_le _) hl)
  have HPW := hid (PW.start w)
  obtain ⟨ao, cap, rfl, h1, h2, -, -⟩ := hv
  obtain ⟨p, hpp⟩ : ∃ p, p = (readO b 0).2.1 := ⟨_, rfl⟩
  obtain ⟨er, her⟩ : ∃ er, er = (readO b 0).2.2 := ⟨_, rfl⟩
  have hpn : ((readO b 0).2.2 != 0) = true := by simp; exact hp
  rw [← her] at hpi hpn
  rw [← hpp, ← her] at HRO
  clear hp hpp her
  go_enter Tryz.func208, Tryz.ntmps208
  go_wp2_with fail
  refine HRO.out.mono ?_
  rintro e w3 ⟨v3, rfl, hn3⟩
  have hpw := HPW.out.keep hn3.upd
  obtain ⟨⟨a0, a1, a2, a3, a4, a5, a6⟩, ⟨b0, b1, b2, b3, b4, b5, b6⟩, ⟨z0, z1, z2, z3, z4, z5, z6⟩, l2, l4⟩ := hpw.cells
  have HPW3 := hid hpw
  obtain ⟨p2, hp2⟩ : ∃ p2, p2 = w.heap.size := ⟨_, rfl⟩
  obtain ⟨p4, hp4⟩ : ∃ p4, p4 = w.heap.size + 1 := ⟨_, rfl⟩
  rw [← hp4, ← hp2] at HPW3
  rw [← hp4] at a0 a1 a2 a3 a4 a5 a6 l4
  rw [← hp2] at b0 b1 b2 b3 b4 b5 b6 z0 z1 z2 z3 z4 z5 z6 l2
  have hne : p2 ≠ p4 := HPW3.out.ne
  have hne' : p4 ≠ p2 := hne.symm
  rw [← hp4, ← hp2]
  have HO := hid HPW3.out.out
  clear hpw hn3 hp2 hp4
  go_wp2
  (try simp only [Exit.inBlock, Exit.then])
  exact bodyPost_ret (results_ent rfl _ _ p2 _ rfl rfl HO.out.1) rfl ⟨_, rfl, HO.out.2.1⟩

end Go.Proofs.YtgaidmohdhaonaaGreatDoor
