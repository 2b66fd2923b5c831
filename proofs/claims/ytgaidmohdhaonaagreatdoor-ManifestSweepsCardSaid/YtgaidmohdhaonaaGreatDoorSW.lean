/-
  stratalaw10.ManifestSweeps, walked.
-/
import Derived.Test.YtgaidmohdhaonaaGreatDoorSV
import Derived.Test.YtgaidmohdhaonaaGreatDoorSE
import Derived.Test.YtgaidmohdhaonaaGreatDoorSB
import Derived.Laws.Cover1
namespace Go.Proofs.YtgaidmohdhaonaaGreatDoor
set_option linter.unusedVariables false
set_option linter.unusedSimpArgs false
set_option linter.unnecessarySimpa false
set_option linter.unusedSectionVars false
open Go Go.RowKit

theorem create_codes (a : DiskA) (n : ByteArray) : 0 ≤ (createP a n).1 ∧ (createP a n).1 ≤ 100 := by
  unfold createP actA
  have h1 : lookP a n false = 3 ∨ lookP a n false = 40 ∨ lookP a n false = 42 ∨ lookP a n false = 0 := lookRes_cases _ _ _ _
  repeat' split
  all_goals first | omega | (simp only; omega) | (rcases h1 with h | h | h | h <;> rw [h] <;> simp)

theorem bytes_data (s : ByteArray) : s.toList = s.data.toList := by
  exact ByteArray.toList_eq s

theorem str_eql (a b : ByteArray) : (a.toList == b.toList) = decide (a = b) := by
  rw [bytes_data, bytes_data]
  by_cases h : a = b
  · subst h; simp
  · rw [decide_eq_false h, beq_eq_false_iff_ne]
    exact fun e => h (WideShapes.bytes_inj e)

set_option maxRecDepth 100000 in
set_option maxHeartbeats 12800000 in
theorem manifestSweeps_walk {w : World} {nv kv sv : Value} {ns ks : List Int} {ss : List ByteArray} (hT : TabIn w) (hP : TabP w) (hn : IntsAt w nv ns) (hni : ∀ n ∈ ns, I64 n) (hk : IntsAt w kv ks) (hki : ∀ n ∈ ks, I64 n) (hs : StrsAt w sv ss) (hsz : ∀ s ∈ ss, s.size ≤ 140737488355328) :
    Calls Tryz.prog 7 #[nv, kv, sv] w fun e w' => e = .returned (.bool true) ∧ Upd (fun _ => False) w w' := by
  have HT := hid hT; have HP := hid hP; have HN := hid hn; have HK := hid hk; have HSS := hid hs; have HSZ := hid hsz
  have HNW := hid (new_yes w 4096 (by omega))
  obtain ⟨n1, c1, rfl, hc1, -⟩ := hn
  obtain ⟨n2, c2, rfl, hc2, -⟩ := hk
  obtain ⟨n3, c3, rfl, hc3, hc3', -⟩ := hs
  obtain ⟨l1, hl1⟩ : ∃ m, m = ns.length := ⟨_, rfl⟩
  obtain ⟨l2, hl2⟩ : ∃ m, m = ks.length := ⟨_, rfl⟩
  obtain ⟨l3, hl3⟩ : ∃ m, m = ss.length := ⟨_, rfl⟩
  rw [← hl1] at HN hc1 ⊢
  rw [← hl2] at HK hc2 ⊢
  rw [← hl3] at HSS hc3 ⊢
  have HL := hid (And.intro hl1 (And.intro hl2 hl3))
  clear hT hP hni hki hsz hl1 hl2 hl3
  go_enter Tryz.func7, Tryz.ntmps7
  go_wp2_with fail
  refine HNW.out.mono ?_
  rintro e w1 ⟨s, rfl, hs, habs, hblk, hu⟩
  have HSW1 := hid (show SwA w w1 s.p s (.slice none 0 0) [] [] [] from ⟨hs, rfl, hblk, hu, by rw [habs]; exact ⟨Fl.new 4096, List.nodup_nil, fun n hn => by cases hn⟩, Strs.nil _ _, fun b e => (by cases e), fun r hr => by cases hr⟩)
  have HT1 := hid (HT.out.keep hu)
  obtain ⟨p, hp⟩ : ∃ p, p = s.p := ⟨_, rfl⟩
  rw [← hp] at HSW1 ⊢
  clear hs habs hblk hu hp HNW
  go_wp2_with fail
  refine (lawNum_any _ _ (by omega)).mono ?_
  rintro e W ⟨rfl, hww⟩
  obtain rfl := hww.symm
  go_wp2_with fail
  refine (started_any HT1.out).mono ?_
  rintro e w2 ⟨rfl, hu2⟩
  have HSW2 := hid (HSW1.out.quiet hu2)
  clear hu2 HSW1 HT1
  go_wp2
  go_loopw [9, 10] (fun tv iv wr => ∃ k : Nat, k ≤ l1 ∧ iv = .int .i64 k ∧ ∃ (ta : Option Addr) (tn tc : Nat) (s : DS) (T : List ByteArray), tv = .slice ta tn tc ∧ tn = T.length ∧ tn ≤ k ∧ tn ≤ 30 ∧ SwA w wr p s (.slice ta tn tc) T T [] ∧ ∀ t ∈ T, ∃ i, i < 40 ∧ t = rnP i) (fun _ iv _ => l1 - (intOf iv).toNat)
  case atStart => exact ⟨0, Nat.zero_le _, rfl, none, 0, 0, s, [], rfl, rfl, Nat.le_refl _, by omega, HSW2.out, fun t ht => by cases ht⟩
  case round =>
    clear HSW2
    obtain ⟨k, hk, rfl, ta, tn, tc, s, T, rfl, htn, htk, ht30, hsw, hT40⟩ := hrel
    have HTN := hid htn; have HSW := hid hsw; have HT40 := hid hT40
    obtain ⟨wo, rfl⟩ : ∃ wo, wo = wr := ⟨_, rfl⟩
    clear htn hsw hT40
    go_upto_region 6 with fail
    go_cut [51] from 44 to 68 (fun bv wx => bv = .bool (decide (k < l1) && decide (k < 30)) ∧ wx = wo)
    case first =>
      by_cases h1 : k < l1
      · have h1' : (k : Int) < (l1 : Int) := by omega
        go_wp2
        go_meet
        exact ⟨by rw [decide_eq_true h1, Bool.true_and]; congr 1; exact decide_eq_decide.2 (by omega), rfl⟩
      · have h1' : ¬ (k : Int) < (l1 : Int) := by omega
        go_wp2
        go_meet
        exact ⟨by rw [decide_eq_false h1]; rfl, rfl⟩
    case rest =>
      obtain ⟨rfl, hww⟩ := hcut
      obtain rfl := hww.symm
      clear hww
      by_cases hlt : k < l1 ∧ k < 30
      · obtain ⟨h1, h2⟩ := hlt
        rw [decide_eq_true h1, decide_eq_true h2]
        have hkx : k < ns.length := by have := HL.out.1; omega
        obtain ⟨g, og, hxa, hgl, hcell⟩ := HN.out.get HSW.out.upd hkx
        subst hxa
        obtain ⟨zi, hzi⟩ : ∃ z, z = ns[k] := ⟨_, rfl⟩
        rw [← hzi] at hcell
        have HWH := hid (whole_any zi 1 40 (by omega) (by omega) (by omega) wo)
        obtain ⟨i, hi40, hie⟩ : ∃ i : Nat, i < 40 ∧ 1 + zi % (40 - 1 + 1) = (i : Int) + 1 := ⟨(zi % 40).toNat, by omega, by omega⟩
        rw [hie] at HWH
        have HI40 := hid hi40
        have h1i : (k : Int) < (l1 : Int) := by omega
        have HRN := hid (runName_any wo pB ((i : Int) + 1) (by decide) (by omega) (HP.out.keep HSW.out.upd))
        clear hzi hie hi40 hkx
        go_wp2_with fail
        refine HWH.out.mono ?_
        rintro e W ⟨rfl, hww⟩
        obtain rfl := hww.symm
        go_wp2_with fail
        refine HRN.out.mono ?_
        rintro e w3 ⟨rfl, hu3⟩
        obtain ⟨rn, hrn⟩ : ∃ b, b = rnP i := ⟨_, rfl⟩
        rw [show runName pB ((i : Int) + 1) = rn from hrn.symm]
        have HRI := hid hrn
        have HSW3 := hid (HSW.out.quiet hu3)
        have HCR := hid (create_p HSW3.out.ins rn)
        rw [HSW3.out.pp] at HCR
        have HEM := hid (HSW3.out.em.create (n := rn) (by have := HTN.out; omega))
        have HCB := hid (create_codes s.abs rn)
        obtain ⟨D, hD⟩ : ∃ D, D = createP s.abs rn := ⟨_, rfl⟩
        rw [← hD] at HCR HEM HCB
        clear hD hrn hu3 hcell hgl HWH HRN HSW
        obtain ⟨dc, da⟩ := D
        simp only at HCR HEM HCB
        go_wp2_with fail
        refine HCR.out.mono ?_
        rintro e w4 ⟨rfl, s4, hst4, habs4⟩
        go_wp2_with fail
        refine (lawNum_any _ _ (by have := HCB.out; omega)).mono ?_
        rintro e W ⟨rfl, hww⟩
        obtain rfl := hww.symm
        by_cases hz : dc = 0
        · subst hz
          have hem : Em s4.abs (T ++ [rn]) := by
            rw [habs4]
            rcases HEM.out with ⟨-, e2, -⟩ | ⟨e1, -⟩
            · exact e2
            · exact absurd rfl e1
          obtain ⟨ta', tc', W5, hrun, hsw5⟩ := (HSW3.out.step hst4 hem).push HTN.out rn (by have := HTN.out; omega)
          have HRUN := hid hrun; have HSW5 := hid hsw5
          clear hem hrun hsw5 hst4 habs4
          go_wp2_with (at_builtin; refine wpList_append_run rfl _ _ _ rfl rfl rfl HRUN.out ?_)
          go_roundw
          case rel => exact ⟨k + 1, by omega, by go_num, ta', tn + 1, tc', s4, T ++ [rn], rfl, by rw [List.length_append, ← HTN.out]; rfl, by omega, by omega, HSW5.out, fun t ht => by
            rcases List.mem_append.1 ht with ht | ht
            · exact HT40.out t ht
            · rw [List.mem_singleton] at ht
              exact ⟨i, HI40.out, ht.trans HRI.out⟩⟩
          case measure => simp [intOf]; omega
        · have hne : (dc == 0) = false := by simpa using hz
          have hem : Em s4.abs T := by
            rw [habs4]
            rcases HEM.out with ⟨e1, -⟩ | ⟨-, e2⟩
            · exact absurd e1 hz
            · exact e2
          have HSW5 := hid (HSW3.out.step hst4 hem)
          clear hem hst4 habs4
          go_wp2
          go_roundw
          case rel => exact ⟨k + 1, by omega, by go_num, ta, tn, tc, s4, T, rfl, HTN.out, by omega, by omega, HSW5.out, HT40.out⟩
          case measure => simp [intOf]; omega
      · have hb : (decide (k < l1) && decide (k < 30)) = false := by
          rcases Classical.em (k < l1) with h | h
          · rw [decide_eq_true h, decide_eq_false (fun e => hlt ⟨h, e⟩)]; rfl
          · rw [decide_eq_false h]; rfl
        rw [hb]
        clear hb hlt hk htk
        go_wp2
        go_loopw [12] (fun iv wr => ∃ j : Nat, j ≤ l3 ∧ iv = .int .i64 j ∧ ∃ (s : DS) (Q : List ByteArray), SwA w wr p s (.slice ta tn tc) T (T ++ Q) [] ∧ Q.length ≤ j ∧ Q.length ≤ 30 ∧ ∀ q ∈ Q, hasPre pB q = false) (fun iv _ => l3 - (intOf iv).toNat)
        case atStart => exact ⟨0, Nat.zero_le _, rfl, s, [], by rw [List.append_nil]; exact HSW.out, Nat.le_refl _, by simp, fun q hq => by cases hq⟩
        case round =>
          clear HSW
          obtain ⟨j, hj, rfl, s, Q, hsw, hqj, hq30, hqp⟩ := hrel
          have HSW := hid hsw; have HQP := hid hqp
          obtain ⟨wo, rfl⟩ : ∃ wo, wo = wr := ⟨_, rfl⟩
          clear hsw hqp
          go_upto_region 12 with fail
          go_cut [76] from 69 to 85 (fun bv wx => bv = .bool (decide (j < l3) && decide (j < 30)) ∧ wx = wo)
          case first =>
            by_cases h1 : j < l3
            · have h1' : (j : Int) < (l3 : Int) := by omega
              go_wp2
              go_meet
              exact ⟨by rw [decide_eq_true h1, Bool.true_and]; congr 1; exact decide_eq_decide.2 (by omega), rfl⟩
            · have h1' : ¬ (j : Int) < (l3 : Int) := by omega
              go_wp2
              go_meet
              exact ⟨by rw [decide_eq_false h1]; rfl, rfl⟩
          case rest =>
            obtain ⟨rfl, hww⟩ := hcut
            obtain rfl := hww.symm
            clear hww
            by_cases hlt : j < l3 ∧ j < 30
            · obtain ⟨h1, h2⟩ := hlt
              rw [decide_eq_true h1, decide_eq_true h2]
              have hjx : j < ss.length := by have := HL.out.2.2; omega
              obtain ⟨g, og, hxa, hgl, hcell⟩ := HSS.out.get HSW.out.upd hjx
              subst hxa
              obtain ⟨f, hf⟩ : ∃ f, f = ss[j] := ⟨_, rfl⟩
              rw [← hf] at hcell
              have hfs : ¬ (9223372036854775807 < 1 + f.size) := by have := HSZ.out f (by rw [hf]; exact List.getElem_mem hjx); omega
              have hji : (j : Int) < (l3 : Int) := by omega
              obtain ⟨qn, hqn⟩ : ∃ b, b = ({ data := #[113] } : ByteArray) ++ f := ⟨_, rfl⟩
              have hqn' : ({ data := #[113] } : ByteArray) ++ f = qn := hqn.symm
              have HQN := hid (show hasPre pB qn = false from by rw [hqn]; exact qB_pre f)
              have HCR := hid (create_p HSW.out.ins qn)
              rw [HSW.out.pp] at HCR
              have HEM := hid (HSW.out.em.create (n := qn) (by rw [List.length_append]; have := HTN.out; omega))
              obtain ⟨D, hD⟩ : ∃ D, D = createP s.abs qn := ⟨_, rfl⟩
              rw [← hD] at HCR HEM
              clear hD hqn hf hjx
              obtain ⟨dc, da⟩ := D
              simp only at HCR HEM
              go_wp2_with fail
              refine HCR.out.mono ?_
              rintro e w4 ⟨rfl, s4, hst4, habs4⟩
              have hex : ∃ Q', SwA w w4 p s4 (.slice ta tn tc) T (T ++ Q') [] ∧ Q'.length ≤ Q.length + 1 ∧ ∀ q ∈ Q', hasPre pB q = false := by
                rcases HEM.out with ⟨-, e2, -⟩ | ⟨-, e2⟩
                · rw [← habs4, List.append_assoc] at e2
                  exact ⟨Q ++ [qn], HSW.out.step hst4 e2, by rw [List.length_append]; exact Nat.le_refl _, fun q hq => by
                    rcases List.mem_append.1 hq with hq | hq
                    · exact HQP.out q hq
                    · rw [List.mem_singleton] at hq; rw [hq]; exact HQN.out⟩
                · rw [← habs4] at e2
                  exact ⟨Q, HSW.out.step hst4 e2, by omega, HQP.out⟩
              obtain ⟨Q', hsw', hql', hqp'⟩ := hex
              have HFIN := hid (And.intro hsw' hqp')
              clear hsw' hqp' hst4 habs4 hcell hgl hqn'
              go_wp2
              go_roundw
              case rel => exact ⟨j + 1, by omega, by go_num, s4, Q', HFIN.out.1, by omega, by omega, HFIN.out.2⟩
              case measure => simp [intOf]; omega
            · skip
              have hb : (decide (j < l3) && decide (j < 30)) = false := by
                rcases Classical.em (j < l3) with h | h
                · rw [decide_eq_true h, decide_eq_false (fun e => hlt ⟨h, e⟩)]; rfl
                · rw [decide_eq_false h]; rfl
              rw [hb]
              clear hb hlt hj hqj
              have hnt : pTmp ∉ T ∧ pSnap ∉ T ∧ p07 ∉ T := ⟨fun e => by
                obtain ⟨i, hi, e2⟩ := HT40.out _ e
                exact (rn_at hi).1 e2.symm, fun e => by
                obtain ⟨i, hi, e2⟩ := HT40.out _ e
                exact (rn_at hi).2.1 e2.symm, fun e => by
                obtain ⟨i, hi, e2⟩ := HT40.out _ e
                exact (rn_at hi).2.2.1 e2.symm⟩
              have hnq : pTmp ∉ Q ∧ pSnap ∉ Q ∧ p07 ∉ Q := ⟨fun e => by have := HQP.out _ e; rw [p_facts.2.2.2.1] at this; exact Bool.noConfusion this, fun e => by have := HQP.out _ e; rw [p_facts.2.2.2.2.1] at this; exact Bool.noConfusion this, fun e => by have := HQP.out _ e; rw [p_facts.2.2.2.2.2] at this; exact Bool.noConfusion this⟩
              have HNT := hid hnt; have HNQ := hid hnq
              clear hnt hnq
              have HCR := hid (create_p HSW.out.ins pTmp)
              rw [HSW.out.pp] at HCR
              have HEM5 := hid (HSW.out.em.new p_facts.1 (fun e => (List.mem_append.1 e).elim HNT.out.1 HNQ.out.1) (by simp only [List.length_append, List.length_cons, List.length_nil]; have := HTN.out; omega))
              go_wp2_with fail
              refine HCR.out.mono ?_
              rintro e w5 ⟨rfl, s5, hst, habs⟩
              have HSW5 := hid (HSW.out.step hst (by rw [habs]; exact HEM5.out.2))
              clear hst habs HCR HEM5
              have HCR := hid (create_p HSW5.out.ins pSnap)
              rw [HSW5.out.pp] at HCR
              have HEM6 := hid (HSW5.out.em.new p_facts.2.1 (fun e => (List.mem_append.1 e).elim (fun e => (List.mem_append.1 e).elim HNT.out.2.1 HNQ.out.2.1) (fun e => p_ne.1 (List.mem_singleton.1 e).symm)) (by simp only [List.length_append, List.length_cons, List.length_nil]; have := HTN.out; omega))
              go_wp2_with fail
              refine HCR.out.mono ?_
              rintro e w6 ⟨rfl, s6, hst, habs⟩
              have HSW6 := hid (HSW5.out.step hst (by rw [habs]; exact HEM6.out.2))
              clear hst habs HCR HEM6
              have HCR := hid (create_p HSW6.out.ins p07)
              rw [HSW6.out.pp] at HCR
              have HEM7 := hid (HSW6.out.em.new p_facts.2.2.1 (fun e => (List.mem_append.1 e).elim (fun e => (List.mem_append.1 e).elim (fun e => (List.mem_append.1 e).elim HNT.out.2.2 HNQ.out.2.2) (fun e => p_ne.2.1 (List.mem_singleton.1 e).symm)) (fun e => p_ne.2.2 (List.mem_singleton.1 e).symm)) (by simp only [List.length_append, List.length_cons, List.length_nil]; have := HTN.out; omega))
              go_wp2_with fail
              refine HCR.out.mono ?_
              rintro e w7 ⟨rfl, s7, hst, habs⟩
              have HSW7 := hid (HSW6.out.step hst (by rw [habs]; exact HEM7.out.2))
              clear hst habs HCR HEM7
              have hsw8 := HSW7.out.add (.cells #[.int .i64 1, .int .i64 99, .int .i64 99, .int .i64 0, .int .i64 1, .slice none 0 0, .slice none 0 0] 25)
              go_upto_region 19 with fail
              obtain ⟨p13, hp13⟩ : ∃ p, p = w7.heap.size := ⟨_, rfl⟩
              rw [← hp13] at hsw8 ⊢
              have HSW8 := hid hsw8
              have HP13 := hid (show ∀ q ∈ s7.blocks, q < p13 from fun q hq => by rw [hp13]; exact HSW7.out.ins.lt q hq)
              generalize w7.alloc (.cells #[.int .i64 1, .int .i64 99, .int .i64 99, .int .i64 0, .int .i64 1, .slice none 0 0, .slice none 0 0] 25) = w8 at HSW8 ⊢
              clear hsw8 hp13 HSW7
              have HRO8 := hid (RunsOwn.nil w8 (p13 + 1))
              go_wp2
              go_loopw [14] (fun iv wr => ∃ j : Nat, j ≤ l2 ∧ iv = .int .i64 j ∧ ∃ (va : Option Addr) (vn vc : Nat) (L : List MV), vn = L.length ∧ vn ≤ j ∧ vn ≤ 20 ∧ SwA w wr p s7 (.slice ta tn tc) T (T ++ Q ++ [pTmp] ++ [pSnap] ++ [p07]) [(p13, .cells #[.int .i64 1, .int .i64 99, .int .i64 99, .int .i64 0, .int .i64 1, .slice none 0 0, .slice va vn vc] 25 (0, 0))] ∧ RunsOwn wr (p13 + 1) (.slice va vn vc) L ∧ checkA (verL L) = 0 ∧ (∀ y ∈ L, y.m.first = k22 ∧ y.m.last = k22 ∧ 1 ≤ y.m.num ∧ y.m.num ≤ 40 ∧ (∀ q, y.f.ownBlock = some q → p13 < q) ∧ ∀ q, y.l.ownBlock = some q → p13 < q)) (fun iv _ => l2 - (intOf iv).toNat)
              case atStart => exact ⟨0, Nat.zero_le _, rfl, none, 0, 0, [], rfl, Nat.le_refl _, by omega, HSW8.out, HRO8.out, verL_ok, fun y hy => by cases hy⟩
              case round =>
                clear HSW8 HRO8
                obtain ⟨j, hj, rfl, va, vn, vc, L, hvn, hvj, hv20, hsw, hro, hck, hys⟩ := hrel
                have HVN := hid hvn; have HSW := hid hsw; have HRO := hid hro; have HCK := hid hck; have HYS := hid hys
                obtain ⟨wo, rfl⟩ : ∃ wo, wo = wr := ⟨_, rfl⟩
                clear hvn hsw hro hck hys
                go_upto_region 20 with fail
                go_cut [100] from 93 to 126 (fun bv wx => bv = .bool (decide (j < l2) && decide (j < 20)) ∧ wx = wo)
                case first =>
                  by_cases h1 : j < l2
                  · have h1' : (j : Int) < (l2 : Int) := by omega
                    go_wp2
                    go_meet
                    exact ⟨by rw [decide_eq_true h1, Bool.true_and]; congr 1; exact decide_eq_decide.2 (by omega), rfl⟩
                  · have h1' : ¬ (j : Int) < (l2 : Int) := by omega
                    go_wp2
                    go_meet
                    exact ⟨by rw [decide_eq_false h1]; rfl, rfl⟩
                case rest =>
                  obtain ⟨rfl, hww⟩ := hcut
                  obtain rfl := hww.symm
                  clear hww
                  by_cases hlt : j < l2 ∧ j < 20
                  · obtain ⟨h1, h2⟩ := hlt
                    rw [decide_eq_true h1, decide_eq_true h2]
                    have hjx : j < ks.length := by have := HL.out.2.1; omega
                    have hu1 := (Upd.refl (fun _ => False) wo).alloc (.cells #[.int .u8 97, .int .u8 0, .int .u8 1, .int .u8 0, .int .u8 0, .int .u8 127, .int .u8 255, .int .u8 255, .int .u8 255, .int .u8 255, .int .u8 255, .int .u8 255, .int .u8 254, .int .u8 127, .int .u8 255, .int .u8 255, .int .u8 255, .int .u8 255, .int .u8 255, .int .u8 255, .int .u8 254, .int .u8 5] 5)
                    have hrk := heap_alloc_new wo (.cells #[.int .u8 97, .int .u8 0, .int .u8 1, .int .u8 0, .int .u8 0, .int .u8 127, .int .u8 255, .int .u8 255, .int .u8 255, .int .u8 255, .int .u8 255, .int .u8 255, .int .u8 254, .int .u8 127, .int .u8 255, .int .u8 255, .int .u8 255, .int .u8 255, .int .u8 255, .int .u8 255, .int .u8 254, .int .u8 5] 5)
                    go_upto_region 23 with fail
                    obtain ⟨gk, hgk⟩ : ∃ q, q = wo.heap.size := ⟨_, rfl⟩
                    rw [← hgk] at hrk ⊢
                    have HU1 := hid hu1; have HRK := hid hrk; have HGK := hid (show p13 < gk from by rw [hgk]; exact lt_of_heap (HSW.out.box _ (.head _)).1)
                    have HWGK := hid (show wo.heap.size ≤ gk from by omega)
                    generalize wo.alloc (.cells #[.int .u8 97, .int .u8 0, .int .u8 1, .int .u8 0, .int .u8 0, .int .u8 127, .int .u8 255, .int .u8 255, .int .u8 255, .int .u8 255, .int .u8 255, .int .u8 255, .int .u8 254, .int .u8 127, .int .u8 255, .int .u8 255, .int .u8 255, .int .u8 255, .int .u8 255, .int .u8 255, .int .u8 254, .int .u8 5] 5) = W1 at HU1 HRK ⊢
                    clear hu1 hrk hgk
                    obtain ⟨g, og, hxa, hgl, hcell⟩ := HK.out.get (HSW.out.upd.trans HU1.out (fun _ _ e => e)) hjx
                    subst hxa
                    obtain ⟨zi, hzi⟩ : ∃ z, z = ks[j] := ⟨_, rfl⟩
                    rw [← hzi] at hcell
                    have HWH := hid (whole_any zi 1 40 (by omega) (by omega) (by omega) W1)
                    obtain ⟨i, hi40, hie⟩ : ∃ i : Nat, i < 40 ∧ 1 + zi % (40 - 1 + 1) = (i : Int) + 1 := ⟨(zi % 40).toNat, by omega, by omega⟩
                    rw [hie] at HWH
                    have HI40 := hid hi40
                    have hji : (j : Int) < (l2 : Int) := by omega
                    clear hzi hie hi40 hjx
                    go_wp2_with fail
                    refine HWH.out.mono ?_
                    rintro e W ⟨rfl, hww⟩
                    obtain rfl := hww.symm
                    have hu2 := (Upd.refl (fun _ => False) W1).alloc (.cells #[.int .i64 ((i : Int) + 1), .int .i64 1, .int .i64 (90 - (j : Int)), .int .i64 0, .int .i64 1, .int .i64 1, .slice (some ⟨gk, 0, none⟩) 22 22, .slice (some ⟨gk, 0, none⟩) 22 22] 48)
                    have hr16 := heap_alloc_new W1 (.cells #[.int .i64 ((i : Int) + 1), .int .i64 1, .int .i64 (90 - (j : Int)), .int .i64 0, .int .i64 1, .int .i64 1, .slice (some ⟨gk, 0, none⟩) 22 22, .slice (some ⟨gk, 0, none⟩) 22 22] 48)
                    go_upto_region 24 with fail
                    obtain ⟨p16, hp16⟩ : ∃ q, q = W1.heap.size := ⟨_, rfl⟩
                    rw [← hp16] at hr16 ⊢
                    have HU2 := hid (HU1.out.trans hu2 (fun _ _ e => e)); have HR16 := hid hr16; have HRK2 := hid (hu2.get HRK.out (fun e => e)); have HW16 := hid (show wo.heap.size ≤ p16 from by rw [hp16]; exact HU1.out.size)
                    generalize W1.alloc (.cells #[.int .i64 ((i : Int) + 1), .int .i64 1, .int .i64 (90 - (j : Int)), .int .i64 0, .int .i64 1, .int .i64 1, .slice (some ⟨gk, 0, none⟩) 22 22, .slice (some ⟨gk, 0, none⟩) 22 22] 48) = W2 at HU2 HR16 HRK2 ⊢
                    clear hu2 hr16 hp16 hcell hgl HWH HRK HU1
                    have HR13 := hid (HU2.out.get (HSW.out.box _ (.head _)).1 (fun e => e))
                    obtain ⟨⟨z0, z1, z2, z3, z4, z5, z6⟩, -, hzl⟩ := verCells HR13.out
                    have hu3 := (Upd.refl (fun _ => False) W2).alloc (.cells #[.int .i64 1, .int .i64 99, .int .i64 99, .int .i64 0, .int .i64 1, .slice none 0 0, .slice va vn vc] 25)
                    have hr17 := heap_alloc_new W2 (.cells #[.int .i64 1, .int .i64 99, .int .i64 99, .int .i64 0, .int .i64 1, .slice none 0 0, .slice va vn vc] 25)
                    go_upto_region 25 with fail
                    obtain ⟨p17, hp17⟩ : ∃ q, q = W2.heap.size := ⟨_, rfl⟩
                    rw [← hp17] at hr17 ⊢
                    have HU3 := hid (HU2.out.trans hu3 (fun _ _ e => e)); have HR17 := hid hr17; have HRK3 := hid (hu3.get HRK2.out (fun e => e)); have HR16b := hid (hu3.get HR16.out (fun e => e)); have HR13b := hid (hu3.get HR13.out (fun e => e)); have HW17 := hid (show wo.heap.size ≤ p17 from by rw [hp17]; exact HU2.out.size)
                    have HNE := hid (show p17 ≠ gk ∧ p17 ≠ p13 ∧ p17 ≠ p16 from ⟨fun e => by have := lt_of_heap HRK2.out; omega, fun e => by have := lt_of_heap HR13.out; omega, fun e => by have := lt_of_heap HR16.out; omega⟩)
                    generalize W2.alloc (.cells #[.int .i64 1, .int .i64 99, .int .i64 99, .int .i64 0, .int .i64 1, .slice none 0 0, .slice va vn vc] 25) = W3 at HU3 HR17 HRK3 HR16b HR13b ⊢
                    clear hu3 hr17 hp17 HRK2 HR16 HR13 HU2 z0 z1 z2 z3 z4 z5 z6 hzl
                    obtain ⟨y, hy⟩ : ∃ y : MV, y = ⟨⟨(i : Int) + 1, 1, 90 - (j : Int), 0, 1, 1, k22, k22⟩, .slice (some ⟨gk, 0, none⟩) 22 22, .slice (some ⟨gk, 0, none⟩) 22 22⟩ := ⟨_, rfl⟩
                    have HY := hid hy
                    clear hy
                    go_cut [122] from 93 to 126 (fun tv wx => tv = .pointer (some ⟨p17, 6, none⟩) ∧ ∃ (ua : Option Addr) (un uc : Nat), un = vn + 1 ∧ Upd (fun _ => False) wo wx ∧ wx.heap[p17]? = some (.cells #[.int .i64 1, .int .i64 99, .int .i64 99, .int .i64 0, .int .i64 1, .slice none 0 0, .slice ua un uc] 25 (0, 0)) ∧ RunsOwn wx wo.heap.size (.slice ua un uc) (L ++ [y]))
                    case first =>
                      have hHeld : (fun V => V.heap[p13]? = some (.cells #[.int .i64 1, .int .i64 99, .int .i64 99, .int .i64 0, .int .i64 1, .slice none 0 0, .slice va vn vc] 25 (0, 0)) ∧ V.heap[p16]? = some (.cells #[.int .i64 ((i : Int) + 1), .int .i64 1, .int .i64 (90 - (j : Int)), .int .i64 0, .int .i64 1, .int .i64 1, .slice (some ⟨gk, 0, none⟩) 22 22, .slice (some ⟨gk, 0, none⟩) 22 22] 48 (0, 0))) W3.drew := ⟨HR13b.out, HR16b.out⟩
                      refine wp_region_l (fun V => V.heap[p13]? = some (.cells #[.int .i64 1, .int .i64 99, .int .i64 99, .int .i64 0, .int .i64 1, .slice none 0 0, .slice va vn vc] 25 (0, 0)) ∧ V.heap[p16]? = some (.cells #[.int .i64 ((i : Int) + 1), .int .i64 1, .int .i64 (90 - (j : Int)), .int .i64 0, .int .i64 1, .int .i64 1, .slice (some ⟨gk, 0, none⟩) 22 22, .slice (some ⟨gk, 0, none⟩) 22 22] 48 (0, 0))) 8 9 rfl (by kernel_rfl) ?_
                      refine' wpAnyL_take 1 [2, 3, 6, 8] (v := _) rfl (by kernel_rfl) (by kernel_rfl) (by kernel_rfl) (by kernel_rfl) (by simp) (fun _ _ _ h => h) (Or.inl ⟨by rfl, ?hy1⟩) (by assumption) ?rest1
                      case hy1 => (intro wS hSw; skip; go_simp; (try with_reducible rfl))
                      (try simp only [Act.put, List.setIfInBounds_toArray, List.set_cons_zero, List.set_cons_succ])
                      refine' wpAnyL_take 2 [3, 6, 8] (v := _) rfl (by kernel_rfl) (by kernel_rfl) (by kernel_rfl) (by kernel_rfl) (by simp) (fun _ _ _ h => h) (Or.inl ⟨by rfl, ?hy2⟩) (by assumption) ?rest2
                      case hy2 => (intro wS hSw; obtain ⟨⟨e0, e1, e2, e3, e4, e5, e6⟩, -, -⟩ := verCells hSw.1; go_simp; (try with_reducible rfl))
                      (try simp only [Act.put, List.setIfInBounds_toArray, List.set_cons_zero, List.set_cons_succ])
                      refine' wpAnyL_take 4 [5, 6, 8] (v := _) rfl (by kernel_rfl) (by kernel_rfl) (by kernel_rfl) (by kernel_rfl) (by simp) (fun _ _ _ h => h) (Or.inl ⟨by rfl, ?hy4⟩) (by assumption) ?rest4
                      case hy4 => (intro wS hSw; obtain ⟨⟨e0, e1, e2, e3, e4, e5, e6, e7⟩, -, -, -⟩ := metaCells hSw.2; go_simp; (try with_reducible rfl))
                      (try simp only [Act.put, List.setIfInBounds_toArray, List.set_cons_zero, List.set_cons_succ])
                      clear hHeld
                      refine wpAnyL_two 0 5 rfl rfl (by kernel_rfl) (fun K hK => ?_) (fun K hK => ?_)
                      · skip
                        go_simp
                        have hU : Upd (fun _ => False) W3 ((W3.alloc (.cells #[] 48)).drew) := ((Upd.refl (fun _ => False) W3).alloc (.cells #[] 48)).drew
                        have hR0 := heap_alloc_new W3 (.cells #[] 48)
                        have hR : ((W3.alloc (.cells #[] 48)).drew).heap[W3.heap.size]? = some (.cells #[] 48 (0, 0)) := hR0
                        refine hK.out _ _ (fun _ => ⟨hU.get HR13b.out (fun e => e), hU.get HR16b.out (fun e => e)⟩) ?_
                        clear hK K
                        (try simp only [Act.put, List.setIfInBounds_toArray, List.set_cons_zero, List.set_cons_succ])
                        obtain ⟨ge, hnm⟩ : ∃ q, q = W3.heap.size := ⟨_, rfl⟩
                        rw [← hnm] at hR ⊢
                        have HU11 := hid hU; have HSGE := hid (show ge = W3.heap.size from hnm); have HRge := hid hR; have HLge := hid (show W3.heap.size ≤ ge from by rw [hnm]; exact Nat.le_refl _)
                        generalize (W3.alloc (.cells #[] 48)).drew = V11 at HU11 HRge ⊢
                        clear hU hR0 hR hnm
                        refine wpAnyL_two 3 5 rfl rfl (by kernel_rfl) (fun K hK => ?_) (fun K hK => ?_)
                        · skip
                          have hge := HRge.out
                          obtain ⟨xa, xc, V12, hrun, hro, hu, hox⟩ := (HRO.out.keepT (HU3.out.trans HU11.out (fun _ _ e => e)) (fun _ e => e.elim)).copy (base := wo.heap.size) HVN.out hge (Nat.le_trans HU3.out.size HLge.out) (Nat.le_trans HU3.out.size (HU11.out).size) (by have := HVN.out; omega)
                          have hrun' : (Builtin.append_ #[23, 23] 23 #[.slice (some ⟨ge, 0, none⟩) 0 0, .slice va vn vc]).run Tryz.prog V11 = .ok (.slice xa vn xc) V12 := hrun
                          have HRUN := hid hrun'; have HRO1 := hid hro; have HUX12 := hid hu
                          have HOX := hid (show ∀ q, (Value.slice xa vn xc).ownBlock = some q → q = ge ∨ V11.heap.size ≤ q from hox)
                          have hU : Upd (fun _ => False) W3 V12 := (HU11.out).trans hu (fun q hq e => by have := HLge.out; omega)
                          have HU12 := hid hU
                          refine step_append_eq rfl (.tmp 115) (.tmp 117) 23 rfl rfl rfl HRUN.out ?_
                          refine hK.out _ _ (fun _ => ⟨hU.get HR13b.out (fun e => e), hU.get HR16b.out (fun e => e)⟩) ?_
                          clear hK K hge hrun hrun' hro hu hox hU
                          (try simp only [Act.put, List.setIfInBounds_toArray, List.set_cons_zero, List.set_cons_succ])
                          refine wpAnyL_one 5 rfl (by kernel_rfl) (fun K hK => ?_)
                          go_simp
                          have hU : Upd (fun _ => False) W3 (V12.alloc (.cells #[.int .i64 ((i : Int) + 1), .int .i64 1, .int .i64 (90 - (j : Int)), .int .i64 0, .int .i64 1, .int .i64 1, .slice (some ⟨gk, 0, none⟩) 22 22, .slice (some ⟨gk, 0, none⟩) 22 22] 48)) := (HU12.out).alloc (.cells #[.int .i64 ((i : Int) + 1), .int .i64 1, .int .i64 (90 - (j : Int)), .int .i64 0, .int .i64 1, .int .i64 1, .slice (some ⟨gk, 0, none⟩) 22 22, .slice (some ⟨gk, 0, none⟩) 22 22] 48)
                          have hR0 := heap_alloc_new V12 (.cells #[.int .i64 ((i : Int) + 1), .int .i64 1, .int .i64 (90 - (j : Int)), .int .i64 0, .int .i64 1, .int .i64 1, .slice (some ⟨gk, 0, none⟩) 22 22, .slice (some ⟨gk, 0, none⟩) 22 22] 48)
                          have hR : (V12.alloc (.cells #[.int .i64 ((i : Int) + 1), .int .i64 1, .int .i64 (90 - (j : Int)), .int .i64 0, .int .i64 1, .int .i64 1, .slice (some ⟨gk, 0, none⟩) 22 22, .slice (some ⟨gk, 0, none⟩) 22 22] 48)).heap[V12.heap.size]? = some (.cells #[.int .i64 ((i : Int) + 1), .int .i64 1, .int .i64 (90 - (j : Int)), .int .i64 0, .int .i64 1, .int .i64 1, .slice (some ⟨gk, 0, none⟩) 22 22, .slice (some ⟨gk, 0, none⟩) 22 22] 48 (0, 0)) := hR0
                          refine hK.out _ _ (fun _ => ⟨hU.get HR13b.out (fun e => e), hU.get HR16b.out (fun e => e)⟩) ?_
                          clear hK K
                          (try simp only [Act.put, List.setIfInBounds_toArray, List.set_cons_zero, List.set_cons_succ])
                          obtain ⟨gx, hnm⟩ : ∃ q, q = V12.heap.size := ⟨_, rfl⟩
                          rw [← hnm] at hR ⊢
                          have HU13 := hid hU; have HSGX := hid (show gx = V12.heap.size from hnm); have HRgx := hid hR; have HLgx := hid (show W3.heap.size ≤ gx from by rw [hnm]; exact (HU12.out).size)
                          have hro9 := HRO1.out.keepT ((Upd.refl (fun _ => False) V12).alloc (.cells #[.int .i64 ((i : Int) + 1), .int .i64 1, .int .i64 (90 - (j : Int)), .int .i64 0, .int .i64 1, .int .i64 1, .slice (some ⟨gk, 0, none⟩) 22 22, .slice (some ⟨gk, 0, none⟩) 22 22] 48)) (fun _ e => e.elim)
                          clear HRO1
                          have HRO1 := hid hro9
                          clear hro9
                          generalize V12.alloc (.cells #[.int .i64 ((i : Int) + 1), .int .i64 1, .int .i64 (90 - (j : Int)), .int .i64 0, .int .i64 1, .int .i64 1, .slice (some ⟨gk, 0, none⟩) 22 22, .slice (some ⟨gk, 0, none⟩) 22 22] 48) = V13 at HRO1 HU13 HRgx ⊢
                          clear hU hR0 hR hnm
                          refine wpAnyL_one 6 rfl (by kernel_rfl) (fun K hK => ?_)
                          have hrx := HRgx.out
                          have hrk := (HU13.out).get HRK3.out (fun e => e)
                          have hdk : DataIs V13 (.slice (some ⟨gk, 0, none⟩) 22 22) k22 := .inr ⟨gk, 22, _, rfl, hrk, Nat.le_refl _, Nat.le_refl _, by unfold maxLen; omega, rfl⟩
                          have hvn : L.length = vn := HVN.out.symm
                          obtain ⟨ua, uc, V14, hrun, hro2, hu2, -⟩ := HRO1.out.app (Ls := [y]) ⟨gx, 0, none⟩ 1 1 rfl (fun q u hu => by
                            rw [show (Addr.add ⟨gx, 0, none⟩ q : Addr) = ⟨gx, q, none⟩ from by simp [Addr.add_lit], cell_of_row _ _ q _ _ _ hrx]
                            rw [HY.out] at hu
                            simpa [MV.cells] using hu) (fun q hq => by rw [List.mem_singleton] at hq; rw [hq, HY.out]; exact ⟨hdk, hdk⟩) (Nat.le_trans HU3.out.size (HU13.out).size) (by omega)
                          rw [hvn] at hrun hro2
                          have hlo : ∀ q, (Value.slice xa vn xc).ownBlock = some q → W3.heap.size ≤ q := fun q e => by
                            have h1 := HLge.out
                            rcases HOX.out q e with e | e
                            · omega
                            · exact Nat.le_trans (HU11.out).size e
                          have h17 := hu2.get ((HU13.out).get HR17.out (fun e => e)) (fun e => by have := hlo _ e; have := lt_of_heap HR17.out; omega)
                          have h13 := hu2.get ((HU13.out).get HR13b.out (fun e => e)) (fun e => by have := hlo _ e; have := lt_of_heap HR13b.out; omega)
                          have h16 := hu2.get ((HU13.out).get HR16b.out (fun e => e)) (fun e => by have := hlo _ e; have := lt_of_heap HR16b.out; omega)
                          have hUP : Upd (fun _ => False) wo V14 := (HU3.out.trans (HU13.out) (fun _ _ e => e)).trans hu2 (fun q hq e => by have := hlo q e; have := HU3.out.size; omega)
                          have HRUN2 := hid hrun; have HRO2 := hid hro2; have HUP2 := hid hUP; have H17 := hid h17
                          refine step_append_eq rfl (.tmp 118) (.tmp 120) 23 rfl rfl rfl HRUN2.out ?_
                          have HH := hid (And.intro h13 h16)
                          refine hK.out _ _ (fun _ => ⟨h13, h16⟩) ?_
                          clear hK K hrx hrk hdk hvn hrun hro2 hu2 hlo h17 h13 h16 hUP
                          (try simp only [Act.put, List.setIfInBounds_toArray, List.set_cons_zero, List.set_cons_succ])
                          refine wpAnyL_one 7 rfl (by kernel_rfl) (fun K hK => ?_)
                          go_simp
                          refine hK.out _ _ (fun _ => HH.out) ?_
                          clear hK K HH
                          (try simp only [Act.put, List.setIfInBounds_toArray, List.set_cons_zero, List.set_cons_succ])
                          obtain ⟨⟨z0, z1, z2, z3, z4, z5, z6⟩, ⟨y0, y1, y2, y3, y4, y5, y6⟩, hzl⟩ := verCells H17.out
                          refine wpAnyL_one 8 rfl (by kernel_rfl) (fun K hK => ?_)
                          go_simp
                          refine hK.out _ _ (fun h => absurd rfl h) ?_
                          clear hK K
                          (try simp only [Act.put, List.setIfInBounds_toArray, List.set_cons_zero, List.set_cons_succ])
                          refine wpAnyL_done (by kernel_rfl) ?_ _
                          go_wp2
                          go_meet
                          have hs := heap_setCell_at V14 p17 6 _ _ (.slice ua (vn + 1) uc) H17.out
                          have hup : Upd (fun q => q = p17) V14 (V14.setCell ⟨p17, 6, none⟩ (.slice ua (vn + 1) uc)) := Upd.cell_only _ _ _ _
                          refine ⟨rfl, ua, vn + 1, uc, rfl, HUP2.out.trans hup (fun q hq e => by have := HW17.out; omega), by simpa using hs, HRO2.out.keepT hup ?_⟩
                          rintro q rfl cur fr
                          exact ⟨not_ty H17.out (by decide) cur fr, not_ty H17.out (by decide) cur fr⟩
                        · skip
                          go_simp
                          have hU : Upd (fun _ => False) W3 (V11.alloc (.cells #[.int .i64 ((i : Int) + 1), .int .i64 1, .int .i64 (90 - (j : Int)), .int .i64 0, .int .i64 1, .int .i64 1, .slice (some ⟨gk, 0, none⟩) 22 22, .slice (some ⟨gk, 0, none⟩) 22 22] 48)) := (HU11.out).alloc (.cells #[.int .i64 ((i : Int) + 1), .int .i64 1, .int .i64 (90 - (j : Int)), .int .i64 0, .int .i64 1, .int .i64 1, .slice (some ⟨gk, 0, none⟩) 22 22, .slice (some ⟨gk, 0, none⟩) 22 22] 48)
                          have hR0 := heap_alloc_new V11 (.cells #[.int .i64 ((i : Int) + 1), .int .i64 1, .int .i64 (90 - (j : Int)), .int .i64 0, .int .i64 1, .int .i64 1, .slice (some ⟨gk, 0, none⟩) 22 22, .slice (some ⟨gk, 0, none⟩) 22 22] 48)
                          have hR : (V11.alloc (.cells #[.int .i64 ((i : Int) + 1), .int .i64 1, .int .i64 (90 - (j : Int)), .int .i64 0, .int .i64 1, .int .i64 1, .slice (some ⟨gk, 0, none⟩) 22 22, .slice (some ⟨gk, 0, none⟩) 22 22] 48)).heap[V11.heap.size]? = some (.cells #[.int .i64 ((i : Int) + 1), .int .i64 1, .int .i64 (90 - (j : Int)), .int .i64 0, .int .i64 1, .int .i64 1, .slice (some ⟨gk, 0, none⟩) 22 22, .slice (some ⟨gk, 0, none⟩) 22 22] 48 (0, 0)) := hR0
                          refine hK.out _ _ (fun _ => ⟨hU.get HR13b.out (fun e => e), hU.get HR16b.out (fun e => e)⟩) ?_
                          clear hK K
                          (try simp only [Act.put, List.setIfInBounds_toArray, List.set_cons_zero, List.set_cons_succ])
                          obtain ⟨gx, hnm⟩ : ∃ q, q = V11.heap.size := ⟨_, rfl⟩
                          rw [← hnm] at hR ⊢
                          have HU15 := hid hU; have HSGX := hid (show gx = V11.heap.size from hnm); have HRgx := hid hR; have HLgx := hid (show W3.heap.size ≤ gx from by rw [hnm]; exact (HU11.out).size)
                          have hpre : (V11.alloc (.cells #[.int .i64 ((i : Int) + 1), .int .i64 1, .int .i64 (90 - (j : Int)), .int .i64 0, .int .i64 1, .int .i64 1, .slice (some ⟨gk, 0, none⟩) 22 22, .slice (some ⟨gk, 0, none⟩) 22 22] 48)).heap[ge]? = some (.cells #[] 48 (0, 0)) := (heap_alloc_past _ _ _ (lt_of_heap HRge.out)).trans HRge.out
                          have HPRE := hid hpre
                          clear hpre
                          generalize V11.alloc (.cells #[.int .i64 ((i : Int) + 1), .int .i64 1, .int .i64 (90 - (j : Int)), .int .i64 0, .int .i64 1, .int .i64 1, .slice (some ⟨gk, 0, none⟩) 22 22, .slice (some ⟨gk, 0, none⟩) 22 22] 48) = V15 at HPRE HU15 HRgx ⊢
                          clear hU hR0 hR hnm
                          refine wpAnyL_one 3 rfl (by kernel_rfl) (fun K hK => ?_)
                          have hge := HPRE.out
                          obtain ⟨xa, xc, V17, hrun, hro, hu, hox⟩ := (HRO.out.keepT (HU3.out.trans HU15.out (fun _ _ e => e)) (fun _ e => e.elim)).copy (base := wo.heap.size) HVN.out hge (Nat.le_trans HU3.out.size HLge.out) (Nat.le_trans HU3.out.size (HU15.out).size) (by have := HVN.out; omega)
                          have hrun' : (Builtin.append_ #[23, 23] 23 #[.slice (some ⟨ge, 0, none⟩) 0 0, .slice va vn vc]).run Tryz.prog V15 = .ok (.slice xa vn xc) V17 := hrun
                          have HRUN := hid hrun'; have HRO1 := hid hro; have HUX17 := hid hu
                          have HOX := hid (show ∀ q, (Value.slice xa vn xc).ownBlock = some q → q = ge ∨ V15.heap.size ≤ q from hox)
                          have hU : Upd (fun _ => False) W3 V17 := (HU15.out).trans hu (fun q hq e => by have := HLge.out; omega)
                          have HU17 := hid hU
                          refine step_append_eq rfl (.tmp 115) (.tmp 117) 23 rfl rfl rfl HRUN.out ?_
                          refine hK.out _ _ (fun _ => ⟨hU.get HR13b.out (fun e => e), hU.get HR16b.out (fun e => e)⟩) ?_
                          clear hK K hge hrun hrun' hro hu hox hU
                          (try simp only [Act.put, List.setIfInBounds_toArray, List.set_cons_zero, List.set_cons_succ])
                          refine wpAnyL_one 6 rfl (by kernel_rfl) (fun K hK => ?_)
                          have hrx := (HUX17.out).get HRgx.out (fun e => by have h1 := lt_of_heap HRge.out; have h2 := HSGX.out; omega)
                          have hrk := (HU17.out).get HRK3.out (fun e => e)
                          have hdk : DataIs V17 (.slice (some ⟨gk, 0, none⟩) 22 22) k22 := .inr ⟨gk, 22, _, rfl, hrk, Nat.le_refl _, Nat.le_refl _, by unfold maxLen; omega, rfl⟩
                          have hvn : L.length = vn := HVN.out.symm
                          obtain ⟨ua, uc, V18, hrun, hro2, hu2, -⟩ := HRO1.out.app (Ls := [y]) ⟨gx, 0, none⟩ 1 1 rfl (fun q u hu => by
                            rw [show (Addr.add ⟨gx, 0, none⟩ q : Addr) = ⟨gx, q, none⟩ from by simp [Addr.add_lit], cell_of_row _ _ q _ _ _ hrx]
                            rw [HY.out] at hu
                            simpa [MV.cells] using hu) (fun q hq => by rw [List.mem_singleton] at hq; rw [hq, HY.out]; exact ⟨hdk, hdk⟩) (Nat.le_trans HU3.out.size (HU17.out).size) (by omega)
                          rw [hvn] at hrun hro2
                          have hlo : ∀ q, (Value.slice xa vn xc).ownBlock = some q → W3.heap.size ≤ q := fun q e => by
                            have h1 := HLge.out
                            rcases HOX.out q e with e | e
                            · omega
                            · exact Nat.le_trans (HU15.out).size e
                          have h17 := hu2.get ((HU17.out).get HR17.out (fun e => e)) (fun e => by have := hlo _ e; have := lt_of_heap HR17.out; omega)
                          have h13 := hu2.get ((HU17.out).get HR13b.out (fun e => e)) (fun e => by have := hlo _ e; have := lt_of_heap HR13b.out; omega)
                          have h16 := hu2.get ((HU17.out).get HR16b.out (fun e => e)) (fun e => by have := hlo _ e; have := lt_of_heap HR16b.out; omega)
                          have hUP : Upd (fun _ => False) wo V18 := (HU3.out.trans (HU17.out) (fun _ _ e => e)).trans hu2 (fun q hq e => by have := hlo q e; have := HU3.out.size; omega)
                          have HRUN2 := hid hrun; have HRO2 := hid hro2; have HUP2 := hid hUP; have H17 := hid h17
                          refine step_append_eq rfl (.tmp 118) (.tmp 120) 23 rfl rfl rfl HRUN2.out ?_
                          have HH := hid (And.intro h13 h16)
                          refine hK.out _ _ (fun _ => ⟨h13, h16⟩) ?_
                          clear hK K hrx hrk hdk hvn hrun hro2 hu2 hlo h17 h13 h16 hUP
                          (try simp only [Act.put, List.setIfInBounds_toArray, List.set_cons_zero, List.set_cons_succ])
                          refine wpAnyL_one 7 rfl (by kernel_rfl) (fun K hK => ?_)
                          go_simp
                          refine hK.out _ _ (fun _ => HH.out) ?_
                          clear hK K HH
                          (try simp only [Act.put, List.setIfInBounds_toArray, List.set_cons_zero, List.set_cons_succ])
                          obtain ⟨⟨z0, z1, z2, z3, z4, z5, z6⟩, ⟨y0, y1, y2, y3, y4, y5, y6⟩, hzl⟩ := verCells H17.out
                          refine wpAnyL_one 8 rfl (by kernel_rfl) (fun K hK => ?_)
                          go_simp
                          refine hK.out _ _ (fun h => absurd rfl h) ?_
                          clear hK K
                          (try simp only [Act.put, List.setIfInBounds_toArray, List.set_cons_zero, List.set_cons_succ])
                          refine wpAnyL_done (by kernel_rfl) ?_ _
                          go_wp2
                          go_meet
                          have hs := heap_setCell_at V18 p17 6 _ _ (.slice ua (vn + 1) uc) H17.out
                          have hup : Upd (fun q => q = p17) V18 (V18.setCell ⟨p17, 6, none⟩ (.slice ua (vn + 1) uc)) := Upd.cell_only _ _ _ _
                          refine ⟨rfl, ua, vn + 1, uc, rfl, HUP2.out.trans hup (fun q hq e => by have := HW17.out; omega), by simpa using hs, HRO2.out.keepT hup ?_⟩
                          rintro q rfl cur fr
                          exact ⟨not_ty H17.out (by decide) cur fr, not_ty H17.out (by decide) cur fr⟩
                      · skip
                        go_simp
                        have hU : Upd (fun _ => False) W3 ((W3.alloc (.cells #[.int .i64 ((i : Int) + 1), .int .i64 1, .int .i64 (90 - (j : Int)), .int .i64 0, .int .i64 1, .int .i64 1, .slice (some ⟨gk, 0, none⟩) 22 22, .slice (some ⟨gk, 0, none⟩) 22 22] 48)).drew) := ((Upd.refl (fun _ => False) W3).alloc (.cells #[.int .i64 ((i : Int) + 1), .int .i64 1, .int .i64 (90 - (j : Int)), .int .i64 0, .int .i64 1, .int .i64 1, .slice (some ⟨gk, 0, none⟩) 22 22, .slice (some ⟨gk, 0, none⟩) 22 22] 48)).drew
                        have hR0 := heap_alloc_new W3 (.cells #[.int .i64 ((i : Int) + 1), .int .i64 1, .int .i64 (90 - (j : Int)), .int .i64 0, .int .i64 1, .int .i64 1, .slice (some ⟨gk, 0, none⟩) 22 22, .slice (some ⟨gk, 0, none⟩) 22 22] 48)
                        have hR : ((W3.alloc (.cells #[.int .i64 ((i : Int) + 1), .int .i64 1, .int .i64 (90 - (j : Int)), .int .i64 0, .int .i64 1, .int .i64 1, .slice (some ⟨gk, 0, none⟩) 22 22, .slice (some ⟨gk, 0, none⟩) 22 22] 48)).drew).heap[W3.heap.size]? = some (.cells #[.int .i64 ((i : Int) + 1), .int .i64 1, .int .i64 (90 - (j : Int)), .int .i64 0, .int .i64 1, .int .i64 1, .slice (some ⟨gk, 0, none⟩) 22 22, .slice (some ⟨gk, 0, none⟩) 22 22] 48 (0, 0)) := hR0
                        refine hK.out _ _ (fun _ => ⟨hU.get HR13b.out (fun e => e), hU.get HR16b.out (fun e => e)⟩) ?_
                        clear hK K
                        (try simp only [Act.put, List.setIfInBounds_toArray, List.set_cons_zero, List.set_cons_succ])
                        obtain ⟨gx, hnm⟩ : ∃ q, q = W3.heap.size := ⟨_, rfl⟩
                        rw [← hnm] at hR ⊢
                        have HU19 := hid hU; have HSGX := hid (show gx = W3.heap.size from hnm); have HRgx := hid hR; have HLgx := hid (show W3.heap.size ≤ gx from by rw [hnm]; exact Nat.le_refl _)
                        generalize (W3.alloc (.cells #[.int .i64 ((i : Int) + 1), .int .i64 1, .int .i64 (90 - (j : Int)), .int .i64 0, .int .i64 1, .int .i64 1, .slice (some ⟨gk, 0, none⟩) 22 22, .slice (some ⟨gk, 0, none⟩) 22 22] 48)).drew = V19 at HU19 HRgx ⊢
                        clear hU hR0 hR hnm
                        refine wpAnyL_one 0 rfl (by kernel_rfl) (fun K hK => ?_)
                        go_simp
                        have hU : Upd (fun _ => False) W3 (V19.alloc (.cells #[] 48)) := (HU19.out).alloc (.cells #[] 48)
                        have hR0 := heap_alloc_new V19 (.cells #[] 48)
                        have hR : (V19.alloc (.cells #[] 48)).heap[V19.heap.size]? = some (.cells #[] 48 (0, 0)) := hR0
                        refine hK.out _ _ (fun _ => ⟨hU.get HR13b.out (fun e => e), hU.get HR16b.out (fun e => e)⟩) ?_
                        clear hK K
                        (try simp only [Act.put, List.setIfInBounds_toArray, List.set_cons_zero, List.set_cons_succ])
                        obtain ⟨ge, hnm⟩ : ∃ q, q = V19.heap.size := ⟨_, rfl⟩
                        rw [← hnm] at hR ⊢
                        have HU20 := hid hU; have HSGE := hid (show ge = V19.heap.size from hnm); have HRge := hid hR; have HLge := hid (show W3.heap.size ≤ ge from by rw [hnm]; exact (HU19.out).size)
                        have hpre := (heap_alloc_past V19 (.cells #[] 48) gx (lt_of_heap HRgx.out)).trans HRgx.out
                        have HPRE := hid hpre
                        clear hpre
                        generalize V19.alloc (.cells #[] 48) = V20 at HPRE HU20 HRge ⊢
                        clear hU hR0 hR hnm
                        refine wpAnyL_one 3 rfl (by kernel_rfl) (fun K hK => ?_)
                        have hge := HRge.out
                        obtain ⟨xa, xc, V21, hrun, hro, hu, hox⟩ := (HRO.out.keepT (HU3.out.trans HU20.out (fun _ _ e => e)) (fun _ e => e.elim)).copy (base := wo.heap.size) HVN.out hge (Nat.le_trans HU3.out.size HLge.out) (Nat.le_trans HU3.out.size (HU20.out).size) (by have := HVN.out; omega)
                        have hrun' : (Builtin.append_ #[23, 23] 23 #[.slice (some ⟨ge, 0, none⟩) 0 0, .slice va vn vc]).run Tryz.prog V20 = .ok (.slice xa vn xc) V21 := hrun
                        have HRUN := hid hrun'; have HRO1 := hid hro; have HUX21 := hid hu
                        have HOX := hid (show ∀ q, (Value.slice xa vn xc).ownBlock = some q → q = ge ∨ V20.heap.size ≤ q from hox)
                        have hU : Upd (fun _ => False) W3 V21 := (HU20.out).trans hu (fun q hq e => by have := HLge.out; omega)
                        have HU21 := hid hU
                        refine step_append_eq rfl (.tmp 115) (.tmp 117) 23 rfl rfl rfl HRUN.out ?_
                        refine hK.out _ _ (fun _ => ⟨hU.get HR13b.out (fun e => e), hU.get HR16b.out (fun e => e)⟩) ?_
                        clear hK K hge hrun hrun' hro hu hox hU
                        (try simp only [Act.put, List.setIfInBounds_toArray, List.set_cons_zero, List.set_cons_succ])
                        refine wpAnyL_one 6 rfl (by kernel_rfl) (fun K hK => ?_)
                        have hrx := (HUX21.out).get HPRE.out (fun e => by have h1 := lt_of_heap HRgx.out; have h2 := HSGE.out; omega)
                        have hrk := (HU21.out).get HRK3.out (fun e => e)
                        have hdk : DataIs V21 (.slice (some ⟨gk, 0, none⟩) 22 22) k22 := .inr ⟨gk, 22, _, rfl, hrk, Nat.le_refl _, Nat.le_refl _, by unfold maxLen; omega, rfl⟩
                        have hvn : L.length = vn := HVN.out.symm
                        obtain ⟨ua, uc, V22, hrun, hro2, hu2, -⟩ := HRO1.out.app (Ls := [y]) ⟨gx, 0, none⟩ 1 1 rfl (fun q u hu => by
                          rw [show (Addr.add ⟨gx, 0, none⟩ q : Addr) = ⟨gx, q, none⟩ from by simp [Addr.add_lit], cell_of_row _ _ q _ _ _ hrx]
                          rw [HY.out] at hu
                          simpa [MV.cells] using hu) (fun q hq => by rw [List.mem_singleton] at hq; rw [hq, HY.out]; exact ⟨hdk, hdk⟩) (Nat.le_trans HU3.out.size (HU21.out).size) (by omega)
                        rw [hvn] at hrun hro2
                        have hlo : ∀ q, (Value.slice xa vn xc).ownBlock = some q → W3.heap.size ≤ q := fun q e => by
                          have h1 := HLge.out
                          rcases HOX.out q e with e | e
                          · omega
                          · exact Nat.le_trans (HU20.out).size e
                        have h17 := hu2.get ((HU21.out).get HR17.out (fun e => e)) (fun e => by have := hlo _ e; have := lt_of_heap HR17.out; omega)
                        have h13 := hu2.get ((HU21.out).get HR13b.out (fun e => e)) (fun e => by have := hlo _ e; have := lt_of_heap HR13b.out; omega)
                        have h16 := hu2.get ((HU21.out).get HR16b.out (fun e => e)) (fun e => by have := hlo _ e; have := lt_of_heap HR16b.out; omega)
                        have hUP : Upd (fun _ => False) wo V22 := (HU3.out.trans (HU21.out) (fun _ _ e => e)).trans hu2 (fun q hq e => by have := hlo q e; have := HU3.out.size; omega)
                        have HRUN2 := hid hrun; have HRO2 := hid hro2; have HUP2 := hid hUP; have H17 := hid h17
                        refine step_append_eq rfl (.tmp 118) (.tmp 120) 23 rfl rfl rfl HRUN2.out ?_
                        have HH := hid (And.intro h13 h16)
                        refine hK.out _ _ (fun _ => ⟨h13, h16⟩) ?_
                        clear hK K hrx hrk hdk hvn hrun hro2 hu2 hlo h17 h13 h16 hUP
                        (try simp only [Act.put, List.setIfInBounds_toArray, List.set_cons_zero, List.set_cons_succ])
                        refine wpAnyL_one 7 rfl (by kernel_rfl) (fun K hK => ?_)
                        go_simp
                        refine hK.out _ _ (fun _ => HH.out) ?_
                        clear hK K HH
                        (try simp only [Act.put, List.setIfInBounds_toArray, List.set_cons_zero, List.set_cons_succ])
                        obtain ⟨⟨z0, z1, z2, z3, z4, z5, z6⟩, ⟨y0, y1, y2, y3, y4, y5, y6⟩, hzl⟩ := verCells H17.out
                        refine wpAnyL_one 8 rfl (by kernel_rfl) (fun K hK => ?_)
                        go_simp
                        refine hK.out _ _ (fun h => absurd rfl h) ?_
                        clear hK K
                        (try simp only [Act.put, List.setIfInBounds_toArray, List.set_cons_zero, List.set_cons_succ])
                        refine wpAnyL_done (by kernel_rfl) ?_ _
                        go_wp2
                        go_meet
                        have hs := heap_setCell_at V22 p17 6 _ _ (.slice ua (vn + 1) uc) H17.out
                        have hup : Upd (fun q => q = p17) V22 (V22.setCell ⟨p17, 6, none⟩ (.slice ua (vn + 1) uc)) := Upd.cell_only _ _ _ _
                        refine ⟨rfl, ua, vn + 1, uc, rfl, HUP2.out.trans hup (fun q hq e => by have := HW17.out; omega), by simpa using hs, HRO2.out.keepT hup ?_⟩
                        rintro q rfl cur fr
                        exact ⟨not_ty H17.out (by decide) cur fr, not_ty H17.out (by decide) cur fr⟩
                    case rest =>
                      obtain ⟨rfl, ua, un, uc, hun, hu4, hr17, hro4⟩ := hcut
                      have HUN := hid hun; have HU4 := hid hu4; have HR17b := hid hr17; have HRO4 := hid hro4
                      clear hun hu4 hr17 hro4 HR17 HRK3 HR16b HR13b HU3
                      obtain ⟨⟨e0, e1, e2, e3, e4, e5, e6⟩, ⟨f0, f1, f2, f3, f4, f5, f6⟩, hzl⟩ := verCells HR17b.out
                      have HH13 := hid ((HSW.out.quiet HU4.out).box _ (.head _)).1
                      obtain ⟨⟨b0, b1, b2, b3, b4, b5, b6⟩, ⟨g0, g1, g2, g3, g4, g5, g6⟩, hbl⟩ := verCells HH13.out
                      have hcr := refCheck10_any (x := verL (L ++ [y])) (verOf (a1 := 1) (a2 := 99) (a3 := 99) (a4 := 0) (a5 := 1) (.inl ⟨rfl, rfl⟩) HRO4.out) (fun r hr => by
                        obtain ⟨z, hz, rfl⟩ := List.mem_map.1 hr
                        rcases List.mem_append.1 hz with hz | hz
                        · obtain ⟨h1, h2, -⟩ := HYS.out z hz
                          rw [h1, h2]; exact ⟨by decide, by decide⟩
                        · rw [List.mem_singleton] at hz
                          rw [hz, HY.out]; exact ⟨by show 22 ≤ _; omega, by show 22 ≤ _; omega⟩)
                      have HCR := hid hcr
                      clear hcr
                      go_wp2_with fail
                      refine HCR.out.mono ?_
                      rintro e wd ⟨rfl, hud⟩
                      have HU5 := hid (HU4.out.trans hud (fun _ _ e => e)); have HR17c := hid (hud.get HR17b.out (fun e => e)); have HR13c := hid (hud.get HH13.out (fun e => e))
                      have hlt13 := lt_of_heap (HSW.out.box _ (.head _)).1
                      have HRO5 := hid (show RunsOwn wd (p13 + 1) (.slice ua un uc) (L ++ [y]) from ⟨owns_lower (HRO4.out.keepT hud (fun _ e => e.elim)).row (by simp only at hlt13; omega), (HRO4.out.keepT hud (fun _ e => e.elim)).data⟩)
                      have HSW5 := hid (HSW.out.quiet HU5.out)
                      clear e0 e1 e2 e3 e4 e5 e6 f0 f1 f2 f3 f4 f5 f6 hzl b0 b1 b2 b3 b4 b5 b6 g0 g1 g2 g3 g4 g5 g6 hbl HCR hud HR17b HH13 HRO4 hlt13
                      obtain ⟨⟨e0, e1, e2, e3, e4, e5, e6⟩, ⟨f0, f1, f2, f3, f4, f5, f6⟩, hzl⟩ := verCells HR17c.out
                      obtain ⟨ck, hck⟩ : ∃ c, c = checkA (verL (L ++ [y])) := ⟨_, rfl⟩
                      rw [← hck]
                      by_cases hz : ck = 0
                      · subst hz
                        have HCK2 := hid hck
                        obtain ⟨⟨b0, b1, b2, b3, b4, b5, b6⟩, ⟨g0, g1, g2, g3, g4, g5, g6⟩, hbl⟩ := verCells HR13c.out
                        clear hck
                        go_wp2
                        obtain ⟨wz, hwz⟩ : ∃ z, z = (((((((wd.setCell ⟨p13, 0, none⟩ (.int .i64 1)).setCell ⟨p13, 1, none⟩ (.int .i64 99)).setCell ⟨p13, 2, none⟩ (.int .i64 99)).setCell ⟨p13, 3, none⟩ (.int .i64 0)).setCell ⟨p13, 4, none⟩ (.int .i64 1)).setCell ⟨p13, 5, none⟩ (.slice none 0 0)).setCell ⟨p13, 6, none⟩ (.slice ua un uc)) := ⟨_, rfl⟩
                        have hs0 := heap_setCell_at _ p13 0 _ _ (.int .i64 1) HR13c.out
                        have hs1 := heap_setCell_at _ p13 1 _ _ (.int .i64 99) hs0
                        have hs2 := heap_setCell_at _ p13 2 _ _ (.int .i64 99) hs1
                        have hs3 := heap_setCell_at _ p13 3 _ _ (.int .i64 0) hs2
                        have hs4 := heap_setCell_at _ p13 4 _ _ (.int .i64 1) hs3
                        have hs5 := heap_setCell_at _ p13 5 _ _ (.slice none 0 0) hs4
                        have hs6 := heap_setCell_at _ p13 6 _ _ (.slice ua un uc) hs5
                        have hup : Upd (fun q => q = p13) wd wz := by
                          rw [hwz]
                          exact ((((((Upd.cell_only _ _ _ _).trans (Upd.cell_only _ _ _ _) (fun _ _ e => e)).trans (Upd.cell_only _ _ _ _) (fun _ _ e => e)).trans (Upd.cell_only _ _ _ _) (fun _ _ e => e)).trans (Upd.cell_only _ _ _ _) (fun _ _ e => e)).trans (Upd.cell_only _ _ _ _) (fun _ _ e => e)).trans (Upd.cell_only _ _ _ _) (fun _ _ e => e)
                        rw [← hwz] at hs6 ⊢
                        have HUPZ := hid hup
                        have HR13z := hid (show wz.heap[p13]? = some (.cells #[.int .i64 1, .int .i64 99, .int .i64 99, .int .i64 0, .int .i64 1, .slice none 0 0, .slice ua un uc] 25 (0, 0)) from by simpa using hs6)
                        clear hwz hs0 hs1 hs2 hs3 hs4 hs5 hs6 hup e0 e1 e2 e3 e4 e5 e6 f0 f1 f2 f3 f4 f5 f6 hzl b0 b1 b2 b3 b4 b5 b6 g0 g1 g2 g3 g4 g5 g6 hbl
                        go_roundw
                        case rel =>
                          refine ⟨j + 1, by omega, by go_num, ua, un, uc, L ++ [y], by rw [List.length_append, ← HVN.out]; exact HUN.out, by have := HUN.out; omega, by have := HUN.out; omega, HSW5.out.set (.head _) HUPZ.out HR13z.out (fun r hr => by cases hr), HRO5.out.keepT HUPZ.out ?_, HCK2.out.symm, ?_⟩
                          · rintro q rfl
                            exact fun cur fr => ⟨not_ty HR13c.out (by decide) cur fr, not_ty HR13c.out (by decide) cur fr⟩
                          · intro z hz
                            rcases List.mem_append.1 hz with hz | hz
                            · exact HYS.out z hz
                            · rw [List.mem_singleton] at hz
                              rw [hz, HY.out]
                              have hi := HI40.out
                              have hg := HGK.out
                              exact ⟨rfl, rfl, by show (1 : Int) ≤ i + 1; omega, by show (i : Int) + 1 ≤ 40; omega, fun q e => by have e2 : some gk = some q := e; injection e2 with e2; omega, fun q e => by have e2 : some gk = some q := e; injection e2 with e2; omega⟩
                        case measure => simp [intOf]; omega
                      · have hne : (ck == 0) = false := by simpa using hz
                        go_wp2
                        go_roundw
                        case rel => exact ⟨j + 1, by omega, by go_num, va, vn, vc, L, HVN.out, by omega, by omega, HSW5.out, HRO.out.keepT HU5.out (fun _ e => e.elim), HCK.out, HYS.out⟩
                        case measure => simp [intOf]; omega
                  · skip
                    have hb : (decide (j < l2) && decide (j < 20)) = false := by
                      rcases Classical.em (j < l2) with h | h
                      · rw [decide_eq_true h, decide_eq_false (fun e => hlt ⟨h, e⟩)]; rfl
                      · rw [decide_eq_false h]; rfl
                    rw [hb]
                    clear hb hlt hj hvj
                    have HR13 := hid (HSW.out.box _ (.head _)).1
                    have hkept := kept_of (a1 := 1) (a2 := 99) (a3 := 99) (a4 := 0) (a5 := 1) (show DataN (p13 + 1) wo (.slice none 0 0) [] from ⟨.inl ⟨rfl, rfl⟩, fun k e => by cases e⟩) HRO.out (fun y hy => (HYS.out y hy).2.2.2.2)
                    have HKEPT := hid hkept
                    clear hkept
                    have hls := list_any HSW.out.ins ({ data := #[] } : ByteArray)
                    rw [HSW.out.pp] at hls
                    have HLS := hid hls
                    clear hls
                    go_wp2_with fail
                    refine HLS.out.mono ?_
                    rintro e W1 ⟨lv1, nl1, rfl, hown1, hu1⟩
                    have hn1 : nl1 = (T ++ Q ++ [pTmp, pSnap, p07]).length := by
                      have h1 := hown1.1
                      rw [List.length_map, list_p, HSW.out.em.all] at h1
                      simp only [List.length_append, List.length_cons, List.length_nil] at h1 ⊢
                      omega
                    obtain ⟨la1, lc1, rfl, hlc1, hlc1b, -⟩ := (SRow.of_owns hown1).slice
                    have hswp := sweeps HSW.out.em (T := T) (Q := Q) (x := verL L) (by simp) HT40.out HQP.out HCK.out
                    obtain ⟨gone, da, N', hsw, hem, hsum, hglen, hg0, hgp, hall⟩ := hswp
                    have HSUM := hid hsum; have HGLEN := hid hglen; have HGP := hid hgp; have HALL := hid hall; have HN1 := hid hn1
                    have hswany := sweep_any (HP.out.keep (HSW.out.upd.trans hu1 (fun _ _ e => e))) (HSW.out.ins.upd hu1 (fun _ _ e => e)) (fun e => by have h1 := HSW.out.low 2 e; have h2 := HP.out.lt; omega) pB (by decide) (HKEPT.out (fun _ => False) W1 (fun _ e => e.elim) hu1) (fun r hr => by
                      obtain ⟨z, hz, rfl⟩ := List.mem_map.1 hr
                      obtain ⟨h1, h2, h3, h4, -⟩ := HYS.out z hz
                      rw [h1, h2]
                      refine ⟨?_, ?_, by omega⟩ <;> (show 22 ≤ _; omega))
                    rw [show (⟨1, 99, 99, 0, 1, [], L.map MV.m⟩ : VerA) = verL L from rfl, hsw, HSW.out.pp] at hswany
                    have HSWA := hid hswany
                    have HR13a := hid (hu1.get HR13.out (fun e => e))
                    have HSW1 := hid (HSW.out.quiet hu1); have HEM := hid hem
                    obtain ⟨⟨b0, b1, b2, b3, b4, b5, b6⟩, -, hbl⟩ := verCells HR13a.out
                    have HUW1 := hid hu1
                    clear hswany hsw hem hsum hglen hgp hall hn1 hown1 hu1 HR13 HLS HSW
                    go_wp2_with fail
                    refine HSWA.out.mono ?_
                    rintro e W2 ⟨gv, rfl, hgs, s9, hst9, habs9, hgb9⟩
                    obtain ⟨ga, gc, rfl, hgc, hgc2⟩ := hgs.shape
                    have HGS := hid hgs
                    have HKEPT2 := hid (fun W' (hu : Upd (fun _ => False) W2 W') => HKEPT.out (fun k => k ∈ s7.blocks) W' (fun k hk => by have := HP13.out k hk; omega) (((HUW1.out.mono (T := fun k => k ∈ s7.blocks) (fun _ _ e => e.elim)).trans hst9.upd (fun _ _ e => e)).trans hu (fun _ _ e => e.elim)))
                    have HSW2 := hid (HSW1.out.step hst9 (by rw [habs9]; exact HEM.out))
                    obtain ⟨ng, hng⟩ : ∃ n, n = gone.length := ⟨_, rfl⟩
                    rw [← hng]
                    have HNG := hid hng
                    have hls2 := list_any HSW2.out.ins ({ data := #[] } : ByteArray)
                    rw [HSW2.out.pp] at hls2
                    have HLS2 := hid hls2
                    have hg0l : 0 < gone.length := by have := HGLEN.out; omega
                    obtain ⟨gb, gc', hgv, hgbl, hgcell⟩ := HGS.out.at hg0l
                    have hg00 : gone[0] = pTmp := by rw [List.getElem?_eq_getElem hg0l] at hg0; exact Option.some.inj hg0
                    rw [hg00] at hgcell
                    rw [← hng] at hgv hg0l
                    obtain ⟨rfl, rfl⟩ : ga = some ⟨gb, 0, none⟩ ∧ gc' = gc := by injection hgv with e1 e2 e3; exact ⟨e1, e3.symm⟩
                    have HGBL := hid hgbl
                    have HGC := hid (Nat.le_trans (Nat.le_of_eq hng) hgc)
                    clear hls2 hng hgs hst9 habs9 hgb9 hgv hg00 hg0 HSWA HEM HSW1 HUW1 HR13a b0 b1 b2 b3 b4 b5 b6 hbl hgc HKEPT hgbl
                    go_wp2_with fail
                    refine HLS2.out.mono ?_
                    rintro e W3 ⟨lv3, nl3, rfl, hown3, hu3⟩
                    have hn3 : nl3 + ng = nl1 ∧ nl1 ≤ 100 := by
                      have h1 := hown3.1
                      have h2 := HSUM.out
                      have h3 := HN1.out
                      have h4 := HTN.out
                      have h5 := HNG.out
                      rw [List.length_map, list_p, HSW2.out.em.all] at h1
                      simp only [List.length_append, List.length_cons, List.length_nil] at h1 h2 h3
                      omega
                    obtain ⟨la3, lc3, rfl, hlc3, hlc3b, -⟩ := (SRow.of_owns hown3).slice
                    have hg3 := hu3.cell HGBL.out hgcell
                    have HSW3 := hid (HSW2.out.quiet hu3)
                    have HGS3 := hid (HGS.out.upd hu3 (fun _ _ e => e))
                    have HKEPT3 := hid (fun W' (hu : Upd (fun _ => False) W3 W') => HKEPT2.out W' (hu3.trans hu (fun _ _ e => e)))
                    have HTAB3 := hid (HT.out.keep HSW3.out.upd)
                    have HTAP3 := hid (HP.out.keep HSW3.out.upd)
                    clear hown3 hu3 hgcell HLS2 HSW2 HGS HKEPT2
                    go_wp2_with fail
                    refine (lawNum_any _ _ (by omega)).mono ?_
                    rintro e W ⟨rfl, hww⟩
                    obtain rfl := hww.symm
                    have hq1 : ((nl3 : Int) + (ng : Int) != (nl1 : Int)) = false := by
                      have h : (nl3 : Int) + (ng : Int) = (nl1 : Int) := by omega
                      rw [h]; exact bne_self_eq_false _
                    have hq2 : ((ng : Int) == 0) = false := by
                      have h : (ng : Int) ≠ 0 := by omega
                      simpa using h
                    have hgcc := HGC.out
                    go_wp2
                    clear hq1 hq2 hg3
                    have HQS := hid (show l1 ≤ l1 from Nat.le_refl _)
                    go_loopw [22, 23] (fun cv iv wr => ∃ q : Nat, q ≤ tn ∧ iv = .int .i64 q ∧ cv = .int .i64 (((T.take q).filter (fun t => !namedB pB (L.map MV.m) t)).length : Nat) ∧ Upd (fun _ => False) W3 wr) (fun _ iv _ => tn - (intOf iv).toNat)
                    case atStart => exact ⟨0, Nat.zero_le _, rfl, rfl, Upd.refl _ _⟩
                    case round =>
                      obtain ⟨q, hq, rfl, rfl, hu⟩ := hrel
                      have HUQ := hid hu
                      obtain ⟨wq, rfl⟩ : ∃ wq, wq = wr := ⟨_, rfl⟩
                      clear hu
                      by_cases hlt : q < tn
                      · have hqx : q < T.length := by rw [← HTN.out]; exact hlt
                        have hxc : (q : Int) < (tn : Int) := by omega
                        obtain ⟨gt, ct, hv, hgl, hcell⟩ := (HSW3.out.quiet HUQ.out).tr.at hqx
                        obtain ⟨rfl, rfl⟩ : ta = some ⟨gt, 0, none⟩ ∧ ct = tc := by injection hv with e1 e2 e3; exact ⟨e1, e3.symm⟩
                        obtain ⟨t, ht⟩ : ∃ t, t = T[q] := ⟨_, rfl⟩
                        rw [← ht] at hcell
                        have hfl : ((T.take (q + 1)).filter (fun t => !namedB pB (L.map MV.m) t)).length = ((T.take q).filter (fun t => !namedB pB (L.map MV.m) t)).length + (if namedB pB (L.map MV.m) t = true then 0 else 1) := by
                          rw [ht, List.take_succ_eq_append_getElem hqx, List.filter_append, List.length_append]
                          cases hnb : namedB pB (L.map MV.m) T[q] <;> simp [hnb]
                        have htt : t ∈ T := by rw [ht]; exact List.getElem_mem hqx
                        have hfb : ((T.take q).filter (fun t => !namedB pB (L.map MV.m) t)).length ≤ q := Nat.le_trans (List.length_filter_le _ _) (by rw [List.length_take]; omega)
                        obtain ⟨lf, hlf⟩ : ∃ n, n = ((T.take q).filter (fun t => !namedB pB (L.map MV.m) t)).length := ⟨_, rfl⟩
                        rw [← hlf] at hfl hfb ⊢
                        have HFL := hid hfl; have HTT := hid htt; have HCL := hid (And.intro hgl hcell)
                        clear hfl htt ht hlf hv hgl hcell hqx
                        go_wp2
                        go_loopw [24, 25] (fun nv iv wr => ∃ m : Nat, m ≤ vn ∧ iv = .int .i64 m ∧ nv = .bool (namedB pB ((L.map MV.m).take m) t) ∧ Upd (fun _ => False) wq wr) (fun _ iv _ => vn - (intOf iv).toNat)
                        case atStart => exact ⟨0, Nat.zero_le _, rfl, rfl, Upd.refl _ _⟩
                        case round =>
                          obtain ⟨m, hm, rfl, rfl, hu2⟩ := hrel
                          have HUM := hid (HUQ.out.trans hu2 (fun _ _ e => e)); have HU2 := hid hu2
                          obtain ⟨wm, rfl⟩ : ∃ wm, wm = wr := ⟨_, rfl⟩
                          clear hu2
                          have HR13m := hid ((HSW3.out.quiet HUM.out).box _ (.head _)).1
                          obtain ⟨⟨b0, b1, b2, b3, b4, b5, b6⟩, -, hbl⟩ := verCells HR13m.out
                          by_cases hl5 : m < vn
                          · have hmi : (m : Int) < (vn : Int) := by omega
                            have hcell := HU2.out.cell HCL.out.1 HCL.out.2
                            obtain ⟨s1, d1, s2, d2, ev, -, hrr⟩ := HKEPT3.out wm HUM.out
                            have e7 : Value.slice va vn vc = .slice s2 (L.map MV.m).length d2 := by
                              have h := congrArg (fun v => match v with | Value.agg a => a.getD 6 undef | _ => undef) ev
                              exact h
                            rw [← e7] at hrr
                            obtain ⟨xa, xc, ex, hx1, hx2, hx3⟩ := hrr
                            have hmx : m < (L.map MV.m).length := by rw [List.length_map, ← HVN.out]; exact hl5
                            obtain ⟨bx, ox, fa1, fc1, fa2, fc2, hxa, hbx, t0, -⟩ := hx3 m hmx
                            obtain ⟨rfl⟩ : va = some ⟨bx, ox, none⟩ := by injection ex with e1 e2 e3; rw [e1]; exact hxa
                            obtain ⟨y, hy⟩ : ∃ y : MetaA, y = (L.map MV.m)[m] := ⟨_, rfl⟩
                            rw [← hy] at t0
                            have hym : 1 ≤ y.num ∧ y.num ≤ 40 := by
                              rw [hy]
                              obtain ⟨z, hz, hzz⟩ := List.mem_map.1 (List.getElem_mem hmx)
                              rw [← hzz]
                              exact ⟨(HYS.out z hz).2.2.1, (HYS.out z hz).2.2.2.1⟩
                            have hns : namedB pB ((L.map MV.m).take (m + 1)) t = (namedB pB ((L.map MV.m).take m) t || decide (runName pB y.num = t)) := by
                              rw [hy, List.take_succ_eq_append_getElem hmx]
                              simp [namedB, List.any_append]
                            obtain ⟨b, hb⟩ : ∃ b, b = namedB pB ((L.map MV.m).take m) t := ⟨_, rfl⟩
                            rw [← hb] at hns ⊢
                            have HNS := hid hns
                            have hmc : m < vc := by injection ex with e1 e2 e3; omega
                            clear hns hb hy hx3 hx1 hx2 hxa ev e7 ex
                            cases b
                            · go_upto_region 41 with fail
                              have HRN := hid (fun W (hu : Upd (fun _ => False) wm W) => runName_any W pB y.num (by decide) (by omega) (HTAP3.out.keep (HUM.out.trans hu (fun _ _ e => e))))
                              have HHELD := hid (show ∀ W, Upd (fun _ => False) wm W → (fun V => V.heap[p13]? = some (.cells #[.int .i64 1, .int .i64 99, .int .i64 99, .int .i64 0, .int .i64 1, .slice none 0 0, .slice (some ⟨bx, ox, none⟩) vn vc] 25 (0, 0)) ∧ V.cell? ⟨bx, ox + m * 8, none⟩ = some (.int .i64 y.num) ∧ V.cell? ⟨gt, q, none⟩ = some (.string t)) W from fun W hu => ⟨hu.get HR13m.out (fun e => e), hu.cell hbx t0, hu.cell (Nat.lt_of_lt_of_le HCL.out.1 HU2.out.size) hcell⟩)
                              have hu0 := (Upd.refl (fun _ => False) wm).drew
                              have HU0 := hid hu0
                              have hHeld := HHELD.out _ hu0
                              clear hu0
                              refine wp_region_l (fun V => V.heap[p13]? = some (.cells #[.int .i64 1, .int .i64 99, .int .i64 99, .int .i64 0, .int .i64 1, .slice none 0 0, .slice (some ⟨bx, ox, none⟩) vn vc] 25 (0, 0)) ∧ V.cell? ⟨bx, ox + m * 8, none⟩ = some (.int .i64 y.num) ∧ V.cell? ⟨gt, q, none⟩ = some (.string t)) 15 16 rfl (by kernel_rfl) ?_
                              refine wpAnyL_one 0 rfl (by kernel_rfl) (fun K hK => ?_)
                              go_simp
                              refine hK.out _ _ (fun _ => hHeld) ?_
                              clear hK K
                              (try simp only [Act.put, List.setIfInBounds_toArray, List.set_cons_zero, List.set_cons_succ])
                              refine wpAnyL_one 1 rfl (by kernel_rfl) (fun K hK => ?_)
                              go_simp
                              refine hK.out _ _ (fun _ => hHeld) ?_
                              clear hK K
                              (try simp only [Act.put, List.setIfInBounds_toArray, List.set_cons_zero, List.set_cons_succ])
                              refine' wpAnyL_take 2 [3, 5, 6, 7, 8, 13, 14, 15] (v := _) rfl (by kernel_rfl) (by kernel_rfl) (by kernel_rfl) (by kernel_rfl) (by simp) (fun _ _ _ h => h) (Or.inl ⟨by rfl, ?hz2⟩) (by assumption) ?resz2
                              case hz2 => (intro wS hSw; skip; go_simp; (try with_reducible rfl))
                              (try simp only [Act.put, List.setIfInBounds_toArray, List.set_cons_zero, List.set_cons_succ])
                              refine' wpAnyL_take 3 [5, 6, 7, 8, 13, 14, 15] (v := _) rfl (by kernel_rfl) (by kernel_rfl) (by kernel_rfl) (by kernel_rfl) (by simp) (fun _ _ _ h => h) (Or.inl ⟨by rfl, ?hz3⟩) (by assumption) ?resz3
                              case hz3 => (intro wS hSw; obtain ⟨⟨e0, e1, e2, e3, e4, e5, e6⟩, -, -⟩ := verCells hSw.1; go_simp; (try with_reducible rfl))
                              (try simp only [Act.put, List.setIfInBounds_toArray, List.set_cons_zero, List.set_cons_succ])
                              refine' wpAnyL_take 4 [5, 6, 7, 8, 13, 14, 15] (v := _) rfl (by kernel_rfl) (by kernel_rfl) (by kernel_rfl) (by kernel_rfl) (by simp) (fun _ _ _ h => h) (Or.inl ⟨by rfl, ?hz4⟩) (by assumption) ?resz4
                              case hz4 => (intro wS hSw; skip; go_simp; (try with_reducible rfl))
                              (try simp only [Act.put, List.setIfInBounds_toArray, List.set_cons_zero, List.set_cons_succ])
                              refine' wpAnyL_take 5 [6, 7, 8, 13, 14, 15] (v := _) rfl (by kernel_rfl) (by kernel_rfl) (by kernel_rfl) (by kernel_rfl) (by simp) (fun _ _ _ h => h) (Or.inl ⟨by rfl, ?hz5⟩) (by assumption) ?resz5
                              case hz5 => (intro wS hSw; skip; go_simp; (try with_reducible rfl))
                              (try simp only [Act.put, List.setIfInBounds_toArray, List.set_cons_zero, List.set_cons_succ])
                              refine' wpAnyL_take 6 [7, 8, 13, 14, 15] (v := _) rfl (by kernel_rfl) (by kernel_rfl) (by kernel_rfl) (by kernel_rfl) (by simp) (fun _ _ _ h => h) (Or.inl ⟨by rfl, ?hz6⟩) (by assumption) ?resz6
                              case hz6 => (intro wS hSw; skip; go_simp; (try with_reducible rfl))
                              (try simp only [Act.put, List.setIfInBounds_toArray, List.set_cons_zero, List.set_cons_succ])
                              refine' wpAnyL_take 7 [8, 13, 14, 15] (v := _) rfl (by kernel_rfl) (by kernel_rfl) (by kernel_rfl) (by kernel_rfl) (by simp) (fun _ _ _ h => h) (Or.inl ⟨by rfl, ?hz7⟩) (by assumption) ?resz7
                              case hz7 => (intro wS hSw; have e9 := hSw.2.1; go_simp; (try with_reducible rfl))
                              (try simp only [Act.put, List.setIfInBounds_toArray, List.set_cons_zero, List.set_cons_succ])
                              refine' wpAnyL_take 9 [11, 12, 13, 14, 15] (v := _) rfl (by kernel_rfl) (by kernel_rfl) (by kernel_rfl) (by kernel_rfl) (by simp) (fun _ _ _ h => h) (Or.inl ⟨by rfl, ?hz9⟩) (by assumption) ?resz9
                              case hz9 => (intro wS hSw; skip; go_simp; (try with_reducible rfl))
                              (try simp only [Act.put, List.setIfInBounds_toArray, List.set_cons_zero, List.set_cons_succ])
                              refine' wpAnyL_take 10 [11, 12, 13, 14, 15] (v := _) rfl (by kernel_rfl) (by kernel_rfl) (by kernel_rfl) (by kernel_rfl) (by simp) (fun _ _ _ h => h) (Or.inl ⟨by rfl, ?hz10⟩) (by assumption) ?resz10
                              case hz10 => (intro wS hSw; skip; go_simp; (try with_reducible rfl))
                              (try simp only [Act.put, List.setIfInBounds_toArray, List.set_cons_zero, List.set_cons_succ])
                              refine' wpAnyL_take 11 [12, 13, 14, 15] (v := _) rfl (by kernel_rfl) (by kernel_rfl) (by kernel_rfl) (by kernel_rfl) (by simp) (fun _ _ _ h => h) (Or.inl ⟨by rfl, ?hz11⟩) (by assumption) ?resz11
                              case hz11 => (intro wS hSw; skip; go_simp; (try with_reducible rfl))
                              (try simp only [Act.put, List.setIfInBounds_toArray, List.set_cons_zero, List.set_cons_succ])
                              refine' wpAnyL_take 12 [13, 14, 15] (v := _) rfl (by kernel_rfl) (by kernel_rfl) (by kernel_rfl) (by kernel_rfl) (by simp) (fun _ _ _ h => h) (Or.inl ⟨by rfl, ?hz12⟩) (by assumption) ?resz12
                              case hz12 => (intro wS hSw; have e9 := hSw.2.2; go_simp; (try with_reducible rfl))
                              (try simp only [Act.put, List.setIfInBounds_toArray, List.set_cons_zero, List.set_cons_succ])
                              refine wpAnyL_one 8 rfl (by kernel_rfl) (fun K hK => ?_)
                              go_simp
                              refine (HRN.out _ HU0.out).mono ?_
                              rintro e W6 ⟨rfl, hu6⟩
                              have hU6 := HU0.out.trans hu6 (fun _ _ e => e)
                              have HU6 := hid hU6
                              have hh := HHELD.out W6 hU6
                              have HH := hid hh
                              refine hK.out _ _ (fun _ => hh) ?_
                              clear hK K hh hU6 hu6
                              (try simp only [Act.put, List.setIfInBounds_toArray, List.set_cons_zero, List.set_cons_succ])
                              refine wpAnyL_one 13 rfl (by kernel_rfl) (fun K hK => ?_)
                              go_simp
                              refine hK.out _ _ (fun _ => HH.out) ?_
                              clear hK K
                              (try simp only [Act.put, List.setIfInBounds_toArray, List.set_cons_zero, List.set_cons_succ])
                              refine wpAnyL_one 14 rfl (by kernel_rfl) (fun K hK => ?_)
                              go_simp
                              refine hK.out _ _ (fun _ => HH.out) ?_
                              clear hK K
                              (try simp only [Act.put, List.setIfInBounds_toArray, List.set_cons_zero, List.set_cons_succ])
                              refine wpAnyL_one 15 rfl (by kernel_rfl) (fun K hK => ?_)
                              go_simp
                              refine hK.out _ _ (fun h => absurd rfl h) ?_
                              clear hK K
                              (try simp only [Act.put, List.setIfInBounds_toArray, List.set_cons_zero, List.set_cons_succ])
                              refine wpAnyL_done (by kernel_rfl) ?_ _
                              go_wp2
                              go_roundw
                              case rel =>
                                refine ⟨m + 1, by omega, by go_num, ?_, HU2.out.trans HU6.out (fun _ _ e => e)⟩
                                rw [HNS.out, Bool.false_or]
                                exact congrArg Value.bool (str_eql _ _)
                              case measure => simp [intOf]; omega
                            · go_upto_region 41 with fail
                              go_quiet (fail)
                              go_wp2
                              go_roundw
                              case rel => exact ⟨m + 1, by omega, by go_num, by rw [HNS.out]; rfl, HU2.out.drewN _⟩
                              case measure => simp [intOf]; omega
                          · have hmv : m = vn := by omega
                            have hmi : ¬ (m : Int) < (vn : Int) := by omega
                            obtain ⟨nb, hnb⟩ : ∃ b, b = namedB pB (L.map MV.m) t := ⟨_, rfl⟩
                            rw [show namedB pB ((L.map MV.m).take m) t = nb from by rw [hnb, List.take_of_length_le (by rw [List.length_map, ← HVN.out]; omega)]]
                            have hfl := HFL.out
                            rw [← hnb] at hfl
                            have HFL2 := hid hfl
                            have hlk : lookP s9.abs t true = if nb = true then 0 else 42 := by
                              obtain ⟨h1, h2, h3⟩ := HALL.out t HTT.out
                              cases hc : nb
                              · rw [if_neg (by decide)]
                                exact HSW3.out.em.gone h1 (h3 (by rw [← hc, hnb]; rfl))
                              · rw [if_pos rfl]
                                exact HSW3.out.em.there (h2 (by rw [← hc, hnb]; rfl))
                            have hsz := size_p (HSW3.out.quiet HUM.out).ins t
                            rw [(HSW3.out.quiet HUM.out).pp, hlk] at hsz
                            have HSZ2 := hid hsz
                            have hcell := HU2.out.cell HCL.out.1 HCL.out.2
                            have hgw := Nat.lt_of_lt_of_le HCL.out.1 HU2.out.size
                            clear hfl hlk hsz hnb
                            cases nb
                            · go_wp2_with fail
                              refine HSZ2.out.mono ?_
                              rintro e W ⟨rfl, hww⟩
                              obtain rfl := hww.symm
                              (first | rw [if_neg (by decide)] | rw [if_neg (fun e => e)])
                              go_wp2_with fail
                              refine (lawNum_any _ _ (by omega)).mono ?_
                              rintro e W ⟨rfl, hww⟩
                              obtain rfl := hww.symm
                              go_wp2
                              go_roundw
                              case rel => exact ⟨q + 1, by omega, by go_num, by have h := HFL2.out; (first | rw [if_neg (by decide)] at h | rw [if_neg (fun e => e)] at h); rw [h]; go_num, HUM.out⟩
                              case measure => simp [intOf]; omega
                            · go_wp2_with fail
                              refine HSZ2.out.mono ?_
                              rintro e W ⟨rfl, hww⟩
                              obtain rfl := hww.symm
                              (first | rw [if_pos rfl] | rw [if_pos trivial])
                              go_wp2_with fail
                              refine (lawNum_any _ _ (by omega)).mono ?_
                              rintro e W ⟨rfl, hww⟩
                              obtain rfl := hww.symm
                              go_wp2
                              go_roundw
                              case rel => exact ⟨q + 1, by omega, by go_num, by have h := HFL2.out; (first | rw [if_pos rfl] at h | rw [if_pos trivial] at h); rw [h]; rfl, HUM.out⟩
                              case measure => simp [intOf]; omega
                      · have hqtn : q = tn := by omega
                        have hqt : ¬ (q : Int) < (tn : Int) := by omega
                        obtain ⟨lf, hlf⟩ : ∃ n, n = ((T.take q).filter (fun t => !namedB pB (L.map MV.m) t)).length := ⟨_, rfl⟩
                        have hng : ng = lf + 1 := by
                          have h1 := HGLEN.out
                          have h2 := HNG.out
                          rw [List.take_of_length_le (by have := HTN.out; omega)] at hlf
                          rw [h2, h1, hlf]; rfl
                        rw [← hlf]
                        clear hlf
                        go_wp2
                        go_loopw [28] (fun iv wr => ∃ m : Nat, m + 1 ≤ ng ∧ iv = .int .i64 m ∧ Upd (fun _ => False) W3 wr) (fun iv _ => ng - (intOf iv).toNat)
                        case atStart => exact ⟨0, by omega, rfl, HUQ.out⟩
                        case round =>
                          obtain ⟨m, hm, rfl, hu⟩ := hrel
                          have HUM := hid hu
                          obtain ⟨wm, rfl⟩ : ∃ wm, wm = wr := ⟨_, rfl⟩
                          clear hu
                          by_cases hl6 : m + 1 < ng
                          · have hmi : (m : Int) + 1 < (ng : Int) := by omega
                            have hx0 : m < gone.length := by rw [← HNG.out]; omega
                            have hx1 : m + 1 < gone.length := by rw [← HNG.out]; omega
                            have hls := List.pairwise_iff_getElem.1 HGP.out m (m + 1) hx0 hx1 (by omega)
                            obtain ⟨g0, c0, hv0, hgl0, hc0⟩ := (HGS3.out.upd HUM.out (fun _ _ e => e)).at hx0
                            obtain ⟨g1, c1', hv1, hgl1, hc1⟩ := (HGS3.out.upd HUM.out (fun _ _ e => e)).at hx1
                            obtain rfl : gb = g0 := by injection hv0 with e1 e2 e3; injection e1 with e1; injection e1
                            obtain rfl : gb = g1 := by injection hv1 with e1 e2 e3; injection e1 with e1; injection e1
                            obtain ⟨x0, hX0⟩ : ∃ x, x = gone[m] := ⟨_, rfl⟩
                            obtain ⟨x1, hX1⟩ : ∃ x, x = gone[m + 1] := ⟨_, rfl⟩
                            rw [← hX0] at hc0 hls
                            rw [← hX1] at hc1 hls
                            have hbl : Op.bytesLess x0.toList x1.toList = true := by rw [bytesLess_eq, decide_eq_true_eq, bytes_data, bytes_data]; exact hls
                            have hmc : m < gc' ∧ m + 1 < gc' := by have := HGC.out; omega
                            clear hls hX0 hX1 hv0 hv1 hx0 hx1 hgl0 hgl1
                            go_upto_region 50 with fail
                            go_quiet (fail)
                            go_wp2
                            go_roundw
                            case rel => exact ⟨m + 1, by omega, by go_num, HUM.out.drewN _⟩
                            case measure => simp [intOf]; omega
                          · have hmi : ¬ (m : Int) + 1 < (ng : Int) := by omega
                            have hq9 : ((ng : Int) == (lf : Int) + 1) = true := by
                              have h : (ng : Int) = (lf : Int) + 1 := by omega
                              rw [h]; exact beq_self_eq_true _
                            go_wp2
                            go_ret
                            exact ⟨rfl, HSW3.out.upd.trans HUM.out (fun _ _ e => e)⟩

end Go.Proofs.YtgaidmohdhaonaaGreatDoor
