/-
  stratalaw10.VersionMany.
-/
import Derived.Test.YthklehpkfndohaaDoorZD
import Derived.Test.YthklehpkfndohaaDoorZB
namespace Go.Proofs.YthklehpkfndohaaDoor
set_option linter.unusedVariables false
set_option linter.unusedSimpArgs false
set_option linter.unnecessarySimpa false
set_option linter.unusedSectionVars false
open Go Go.RowKit

/-- The version that is made, in its box. -/
structure MnS (w W : World) (p : Nat) (sv rs : Value) (S : Nat) (L : List MV) : Prop where
  upd : Upd (fun _ => False) w W
  row : W.heap[p]? = some (.cells (verC 1 1000 1000 0 9 sv rs) 25 (0, 0))
  new : w.heap.size ≤ p
  st : DataIs W sv (List.replicate S 0)
  runs : RunsOwn W w.heap.size rs L

theorem MnS.keep {w W W1 : World} {p S : Nat} {sv rs : Value} {L : List MV} (h : MnS w W p sv rs S L) (hu : Upd (fun _ => False) W W1) : MnS w W1 p sv rs S L :=
  ⟨h.upd.trans hu (fun _ _ e => e), hu.get h.row (fun e => e), h.new, h.st.upd hu (fun _ _ e => e), h.runs.keepT hu (fun _ e => e.elim)⟩

theorem MnS.join {w W w2 : World} {p S : Nat} {sv rs rs' : Value} {L : List MV} {x : MV} (h : MnS w W p sv rs S L) (hro : RunsOwn w2 w.heap.size rs' (L ++ [x])) (hu : Upd (fun k => rs.ownBlock = some k) W w2) :
    w2.heap[p]? = some (.cells (verC 1 1000 1000 0 9 sv rs) 25 (0, 0)) ∧ MnS w (w2.setCell ⟨p, 6, none⟩ rs') p sv rs' S (L ++ [x]) := by
  have hty : ∀ k, rs.ownBlock = some k → ∃ cur, W.heap[k]? = some (.cells cur 39 (0, 0)) ∧ w.heap.size ≤ k := by
    intro k hk
    obtain ⟨-, hh2⟩ := h.runs.row
    rcases hh2 with ⟨rfl, -⟩ | ⟨g, cap, cur', rfl, hb, hg', -⟩
    · cases hk
    · simp only [Value.ownBlock, Option.some.injEq] at hk
      subst hk
      exact ⟨_, hg', hb⟩
  have h8 := hu.get h.row (fun e => by obtain ⟨cur, hc, -⟩ := hty _ e; exact not_ty h.row (by decide) _ _ hc)
  have hc8 : Upd (fun k => k = p) w2 (w2.setCell ⟨p, 6, none⟩ rs') := Upd.cell_only w2 p 6 rs'
  have hT8 : ∀ k, k = p → ∀ cur fr, w2.heap[k]? ≠ some (.cells cur 5 fr) ∧ w2.heap[k]? ≠ some (.cells cur 39 fr) := by
    rintro k rfl cur fr
    exact ⟨not_ty h8 (by decide) cur fr, not_ty h8 (by decide) cur fr⟩
  have hT : ∀ k, rs.ownBlock = some k → ∀ cur fr, W.heap[k]? ≠ some (.cells cur 5 fr) := by
    intro k hk cur fr
    obtain ⟨cur', hc, -⟩ := hty k hk
    exact not_ty hc (by decide) cur fr
  refine ⟨h8, ⟨(h.upd.trans hu (fun k hk e => by obtain ⟨_, _, h9⟩ := hty k e; omega)).trans hc8 (fun k hk e => by have := h.new; omega), ?_, h.new, (h.st.keepT hu hT).keepT hc8 (fun k e cur fr => (hT8 k e cur fr).1), hro.keepT hc8 hT8⟩⟩
  rw [heap_setCell_at _ _ _ _ _ _ h8]; simp [verC]

theorem MnS.ver {w W : World} {p S n : Nat} {sv rs : Value} {L : List MV} (h : MnS w W p sv rs S L) (hL : L.map MV.m = runsL n) : VerAt W (.agg #[.int .i64 1, .int .i64 1000, .int .i64 1000, .int .i64 0, .int .i64 9, sv, rs]) (verL n S) := by
  have h1 := verOf (a1 := 1) (a2 := 1000) (a3 := 1000) (a4 := 0) (a5 := 9) h.st h.runs
  rw [hL] at h1
  exact h1

set_option maxRecDepth 100000 in
set_option maxHeartbeats 6400000 in
theorem versionMany_walk {w : World} {n st : Int} (hT : TabIn w) (h1 : -9223372036854775808 ≤ n ∧ n ≤ 9223372036854775807) (h2 : -9223372036854775808 ≤ st ∧ st ≤ 9223372036854775807) :
    Calls Tryd.prog 4 #[.int .i64 n, .int .i64 st] w fun e w' => e = .returned (.bool true) ∧ Upd (fun _ => False) w w' := by
  obtain ⟨N, hN⟩ : ∃ N : Nat, (N : Int) = min (max n 0) 70 := ⟨(min (max n 0) 70).toNat, by omega⟩
  obtain ⟨S, hS⟩ : ∃ S : Nat, (S : Int) = min (max st 0) 131073 := ⟨(min (max st 0) 131073).toNat, by omega⟩
  have hN7 : N ≤ 70 := by omega
  have hS7 : S ≤ 131073 := by omega
  obtain ⟨M, hM, hmk⟩ := made_zeros S (by omega)
  have HM := hid hM; have HT := hid hT; have HN := hid hN; have HS := hid hS; have HMK := hid hmk
  have HN7 := hid hN7; have HS7 := hid hS7
  clear hM hT hN hS hmk hN7
  go_enter Tryd.func4, Tryd.ntmps4
  go_upto_region 3 with fail
  rw [← HN.out, ← HS.out]
  have hmk := HMK.out w
  go_upto_region 4 with fail
  have hgM := heap_alloc_new w (.cells M 5)
  have hu1 := (Upd.refl (fun _ => False) w).alloc (.cells M 5)
  have hrow := heap_alloc_new (w.alloc (.cells M 5)) (.cells #[.int .i64 1, .int .i64 1000, .int .i64 1000, .int .i64 0, .int .i64 9, .slice (some ⟨w.heap.size, 0, none⟩) S S, .slice none 0 0] 25)
  rw [World.size_alloc] at hrow
  have hu2 := (Upd.refl (fun _ => False) (w.alloc (.cells M 5))).alloc (.cells #[.int .i64 1, .int .i64 1000, .int .i64 1000, .int .i64 0, .int .i64 9, .slice (some ⟨w.heap.size, 0, none⟩) S S, .slice none 0 0] 25)
  have hdat : DataIs (w.alloc (.cells M 5)) (.slice (some ⟨w.heap.size, 0, none⟩) S S) (List.replicate S 0) := by
    have hms : M.size = S := by have := congrArg List.length HM.out; rw [List.length_map, List.length_replicate, Array.length_toList] at this; exact this
    refine .inr ⟨w.heap.size, S, M, by rw [List.length_replicate], hgM, by rw [List.length_replicate]; exact Nat.le_refl _, by omega, by unfold maxLen; have := HS7.out; omega, ?_⟩
    rw [List.length_replicate, List.take_of_length_le (by rw [Array.length_toList]; omega), HM.out]
  have hmn : MnS w ((w.alloc (.cells M 5)).alloc (.cells #[.int .i64 1, .int .i64 1000, .int .i64 1000, .int .i64 0, .int .i64 9, .slice (some ⟨w.heap.size, 0, none⟩) S S, .slice none 0 0] 25)) (w.heap.size + 1) (.slice (some ⟨w.heap.size, 0, none⟩) S S) (.slice none 0 0) S [] :=
    ⟨hu1.trans hu2 (fun _ _ e => e), hrow, by omega, hdat.upd hu2 (fun _ _ e => e), RunsOwn.nil _ _⟩
  obtain ⟨g, hg⟩ : ∃ g, g = w.heap.size := ⟨_, rfl⟩
  obtain ⟨p5, hp5⟩ : ∃ g, g = w.heap.size + 1 := ⟨_, rfl⟩
  rw [← hp5, ← hg] at hmn
  rw [← hp5, ← hg]
  have HMN := hid hmn
  generalize (w.alloc (.cells M 5)).alloc (.cells #[.int .i64 1, .int .i64 1000, .int .i64 1000, .int .i64 0, .int .i64 9, .slice (some ⟨g, 0, none⟩) S S, .slice none 0 0] 25) = W1 at HMN ⊢
  clear hgM hu1 hrow hu2 hdat hmn hg hp5 hmk
  go_wp2
  go_loopw [6] (fun iv wr => ∃ k : Nat, iv = .int .i64 k ∧ k ≤ N ∧ ∃ ra rc L, MnS w wr p5 (.slice (some ⟨g, 0, none⟩) S S) (.slice ra (L : List MV).length rc) S L ∧ L.map MV.m = runsL k) (fun iv _ => N - (intOf iv).toNat)
  case atStart => exact ⟨0, rfl, by omega, none, 0, [], HMN.out, rfl⟩
  case round =>
    obtain ⟨k, rfl, hk, ra, rc, L, hmn, hLk⟩ := hrel
    have HMK2 := hid hmn; have HLK := hid hLk
    obtain ⟨wo, rfl⟩ : ∃ wo, wo = wr := ⟨_, rfl⟩
    have hlen : L.length = k := by have := congrArg List.length hLk; rwa [List.length_map, runsL_len] at this
    have HLEN := hid hlen
    have hN7 : N ≤ 70 := HN7.out
    obtain ⟨LL, hLL⟩ : ∃ LL, LL = L.length := ⟨_, rfl⟩
    rw [← hLL] at HMK2
    have HLL := hid hLL
    clear hmn hLk hlen hLL HMN
    by_cases hlt : k < N
    · have HLONG := hid (longKey_any wo (c := k) (by omega))
      have hwr8 : IntKind.u8.wrap (k : Int) = (k : Int) := by rw [IntKind.wrap_u8]; omega
      go_wp2_with fail
      refine HLONG.out.mono ?_
      rintro e w2 ⟨v, rfl, hn2⟩
      have HM2 := hid (HMK2.out.keep hn2.upd)
      have hsub := HM2.out.runs.push ⟨metaL k, v, v⟩ hn2.data hn2.data HM2.out.upd.size (by have := HLEN.out; omega) rfl
      obtain ⟨ao, cap, w9, hr, hro, hu9⟩ := hsub
      obtain ⟨hb9, hj9⟩ := HM2.out.join hro hu9
      obtain ⟨v1, v2, hv, -, -⟩ := hn2.shape
      obtain ⟨kl, hkl⟩ : ∃ n, n = (keyL k).length := ⟨_, rfl⟩
      rw [← hkl] at hv
      subst hv
      rw [← HLL.out] at hr hj9
      have HR : Hid ((Builtin.append_ #[23, 23] 23 #[.slice ra LL rc, .slice (some ⟨w2.heap.size, 0, none⟩) 1 1]).run Tryd.prog (w2.alloc (.cells #[.int .i64 ((k : Int) + 1), .int .i64 1, .int .i64 (1000 - (k : Int)), .int .i64 0, .int .i64 9, .int .i64 16777216, .slice v1 kl v2, .slice v1 kl v2] 39)) = .ok (.slice ao (LL + 1) cap) w9) := hid hr
      obtain ⟨⟨z0, z1, z2, z3, z4, z5, z6⟩, -, hzl⟩ := verCells HM2.out.row
      obtain ⟨⟨y0, y1, y2, y3, y4, y5, y6⟩, ⟨x0, x1, x2, x3, x4, x5, x6⟩, hyl⟩ := verCells hb9
      have HJ := hid hj9
      clear hn2 hr hro hu9 hb9 hj9 hkl z0 z1 z2 z3 z4 z5 y0 y1 y2 y3 y4 y5 x0 x1 x2 x3 x4 x5 hwr8
      go_wp2_with (at_builtin; refine wpList_append_run rfl _ _ _ rfl rfl rfl HR.out ?_)
      go_roundw
      case rel => exact ⟨k + 1, by simp, by omega, ao, cap, L ++ [⟨metaL k, .slice v1 kl v2, .slice v1 kl v2⟩], by rw [List.length_append, List.length_singleton, ← HLL.out]; exact HJ.out, by rw [List.map_append, HLK.out, runsL_succ]; rfl⟩
      case measure => simp [intOf]; omega
    · obtain rfl : k = N := by omega
      have HV := hid (HMK2.out.ver HLK.out)
      have HROW := hid HMK2.out.row
      have HUW := hid HMK2.out.upd
      obtain ⟨⟨z0, z1, z2, z3, z4, z5, z6⟩, -, hzl⟩ := verCells HROW.out
      have hkey : ∀ r ∈ (verL k S).runs, r.count = 1 ∧ r.first.length ≤ 140737488351232 ∧ r.last.length ≤ 140737488351232 := by
        intro r hr
        obtain ⟨i, -, rfl⟩ := List.mem_map.1 hr
        have := isKeyB_len (keyL_key i)
        exact ⟨rfl, by show (keyL i).length ≤ _; omega, by show (keyL i).length ≤ _; omega⟩
      have HKEY := hid hkey
      clear hkey
      by_cases hbad : 64 < k ∨ 131072 < S
      · have HEN := hid (encode_bad HV.out (fun r hr => (HKEY.out r hr).2) (verL_bad hbad))
        have HCK := hid (show checkA (verL k S) = 101 from by unfold checkA; rw [verL_bad hbad]; rfl)
        go_wp2_with fail
        refine HEN.out.mono ?_
        rintro e W2 ⟨rfl, hu2⟩
        have HU2 := hid (HUW.out.trans hu2 (fun _ _ e => e))
        have HRO2 := hid (hu2.get HROW.out (fun e => e))
        have HCH := hid (verCheck_any (HV.out.keep hu2) (fun r hr => (HKEY.out r hr).2))
        rw [HCK.out] at HCH
        clear hu2 z0 z1 z2 z3 z4 z5 z6 hzl
        obtain ⟨⟨z0, z1, z2, z3, z4, z5, z6⟩, -, hzl⟩ := verCells HRO2.out
        have htest : decide ((64 : Int) < (k : Int)) = true ∨ (decide ((64 : Int) < (k : Int)) = false ∧ decide ((131072 : Int) < (S : Int)) = true) := by
          rcases hbad with h | h
          · exact .inl (by simp; omega)
          · by_cases h6 : 64 < k
            · exact .inl (by simp; omega)
            · exact .inr ⟨by simp; omega, by simp; omega⟩
        have hdis : ((64 : Int) < (k : Int)) ∨ (¬ ((64 : Int) < (k : Int)) ∧ ((131072 : Int) < (S : Int))) := by
          rcases htest with h | ⟨h, h'⟩
          · exact .inl (by simpa using h)
          · exact .inr ⟨by simpa using h, by simpa using h'⟩
        clear hbad htest HEN
        rcases hdis with hd | ⟨hd, hd'⟩
        all_goals
          go_wp2_with fail
          refine (lawNum_any _ _ (by omega)).mono ?_
          rintro e W ⟨rfl, hww⟩
          obtain rfl := hww.symm
          go_wp2_with fail
          refine HCH.out.mono ?_
          rintro e W3 ⟨rfl, hu3⟩
          have HU3 := hid (HU2.out.trans hu3 (fun _ _ e => e))
          clear hu3
          go_wp2_with fail
          refine (lawNum_any _ _ (by omega)).mono ?_
          rintro e W ⟨rfl, hww⟩
          obtain rfl := hww.symm
          go_wp2
          go_ret
          exact ⟨rfl, HU3.out⟩
      · have hok := verL_ok (n := k) (st := S) (by omega) (by omega)
        have hd4 : decide ((64 : Int) < (k : Int)) = false := by simp; omega
        have hd3 : decide ((131072 : Int) < (S : Int)) = false := by simp; omega
        have HEN := hid (encode_any (HT.out.keep HUW.out) HV.out hok)
        have HDE := hid (decode_encode hok (fun r hr => by rw [(HKEY.out r hr).1]; omega))
        have HLE := hid (body_len hok).1
        have HOK := hid hok
        clear hbad hok
        go_wp2_with fail
        refine HEN.out.mono ?_
        rintro e W2 ⟨v8, rfl, hn8⟩
        obtain ⟨q1, q2, e8, -, -⟩ := hn8.shape
        obtain ⟨n8, hn8l⟩ : ∃ n, n = (encodeB (verL k S)).length := ⟨_, rfl⟩
        rw [← hn8l] at e8
        subst e8
        have HU2 := hid (HUW.out.trans hn8.upd (fun _ _ e => e))
        have HRO2 := hid (hn8.upd.get HROW.out (fun e => e))
        have HV2 := hid (HV.out.keep hn8.upd)
        have HDD := hid (decode_any (HT.out.keep HU2.out) hn8.data.bat (by have := HLE.out; have h2 := frameB_length (bodyB (verL k S)); simp [encodeB, magicB]; omega))
        rw [HDE.out] at HDD
        clear hn8 hn8l z0 z1 z2 z3 z4 z5 z6 hzl HEN
        go_wp2_with fail
        refine HDD.out.mono ?_
        rintro e W3 ⟨⟨v9, rfl, hown⟩, hu3⟩
        have HU3 := hid (HU2.out.trans hu3 (fun _ _ e => e))
        have HRO3 := hid (hu3.get HRO2.out (fun e => e))
        have HAT := hid hown.at
        obtain ⟨t1, e1, t2, e2, rfl, -, -⟩ := hown.at
        obtain ⟨m1, hm1⟩ : ∃ m, m = (verL k S).state.length := ⟨_, rfl⟩
        obtain ⟨m2, hm2⟩ : ∃ m, m = (verL k S).runs.length := ⟨_, rfl⟩
        obtain ⟨y1, hy1⟩ : ∃ m, m = (verL k S).gen := ⟨_, rfl⟩
        obtain ⟨y2, hy2⟩ : ∃ m, m = (verL k S).flushed := ⟨_, rfl⟩
        obtain ⟨y3, hy3⟩ : ∃ m, m = (verL k S).next := ⟨_, rfl⟩
        obtain ⟨y4, hy4⟩ : ∃ m, m = (verL k S).low := ⟨_, rfl⟩
        obtain ⟨y5, hy5⟩ : ∃ m, m = (verL k S).clock := ⟨_, rfl⟩
        rw [← hm1, ← hm2, ← hy1, ← hy2, ← hy3, ← hy4, ← hy5] at HAT ⊢
        have HV3 := hid (HV2.out.keep hu3)
        clear hown hu3 HDD hm1 hm2 hy1 hy2 hy3 hy4 hy5
        go_upto_region 13 with fail
        have hua := (Upd.refl (fun _ => False) W3).alloc (.cells #[.int .i64 y1, .int .i64 y2, .int .i64 y3, .int .i64 y4, .int .i64 y5, .slice t1 m1 e1, .slice t2 m2 e2] 25)
        have HU4 := hid (HU3.out.trans hua (fun _ _ e => e))
        have HRO4 := hid (hua.get HRO3.out (fun e => e))
        have HRB := hid (heap_alloc_new W3 (.cells #[.int .i64 y1, .int .i64 y2, .int .i64 y3, .int .i64 y4, .int .i64 y5, .slice t1 m1 e1, .slice t2 m2 e2] 25))
        have HSV := hid (sameVer_any (HV3.out.keep hua) (HAT.out.keep hua) (by show (runsL k).length ≤ _; rw [runsL_len]; omega))
        rw [show sameVerB (verL k S) (verL k S) = true from sameVerB_iff.2 rfl] at HSV
        obtain ⟨p7, hp7⟩ : ∃ p, p = W3.heap.size := ⟨_, rfl⟩
        rw [← hp7] at HRB ⊢
        generalize W3.alloc (.cells #[.int .i64 y1, .int .i64 y2, .int .i64 y3, .int .i64 y4, .int .i64 y5, .slice t1 m1 e1, .slice t2 m2 e2] 25) = W5 at HU4 HRO4 HRB HSV ⊢
        obtain ⟨⟨z0, z1, z2, z3, z4, z5, z6⟩, -, hzl⟩ := verCells HRO4.out
        obtain ⟨⟨x0, x1, x2, x3, x4, x5, x6⟩, -, hxl⟩ := verCells HRB.out
        clear hua hp7
        go_wp2_with fail
        refine (lawNum_any _ _ (by omega)).mono ?_
        rintro e W ⟨rfl, hww⟩
        obtain rfl := hww.symm
        go_wp2_with fail
        refine (lawNum_any _ _ (by omega)).mono ?_
        rintro e W ⟨rfl, hww⟩
        obtain rfl := hww.symm
        go_wp2_with fail
        refine HSV.out.mono ?_
        rintro e W6 ⟨rfl, hu6⟩
        have HU6 := hid (HU4.out.trans hu6 (fun _ _ e => e))
        clear hu6 z0 z1 z2 z3 z4 z5 z6 hzl x0 x1 x2 x3 x4 x5 x6 hxl
        go_wp2_with fail
        refine (started_any (HT.out.keep HU6.out)).mono ?_
        rintro e W7 ⟨rfl, hu7⟩
        have HU7 := hid (HU6.out.trans hu7 (fun _ _ e => e))
        clear hu7
        go_wp2
        go_ret
        exact ⟨rfl, HU7.out⟩

end Go.Proofs.YthklehpkfndohaaDoor
