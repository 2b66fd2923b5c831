/-
  The walk of DiskSafe.
-/
import Derived.Test.YtohpgmeflmppaaaLawC
namespace Go.Proofs.Ytohpgmeflmppaaa
set_option linter.unusedVariables false
set_option linter.unusedSimpArgs false
set_option linter.unnecessarySimpa false
set_option linter.unusedSectionVars false
open Go Go.RowKit

/-- A call that turns nothing, in a region that draws, behind draws. -/
theorem Calls.same_behind {P : Program} {f : FuncId} {args : Array Value} {w : World} {a n : Nat} {v : Value} (h : Calls P f args (w.drewN (a + n)) fun e w' => e = .returned v ∧ w' = w.drewN (a + n)) :
    Calls P f args (w.drewN (a + n)) fun e w'' => e = .returned v ∧ ∃ m, w'' = w.drewN (a + m) :=
  h.mono fun _ _ hx => ⟨hx.1, n, hx.2⟩

theorem crashL_le (cuts : List Int) : ∀ (l : List FileA) (k : Nat), (crashL cuts l k).2 ≤ k + l.length
  | [], k => by simp [crashL]
  | f :: t, k => by
    have h1 := crashL_le cuts t (crashOne cuts f k).2
    have h2 : (crashOne cuts f k).2 ≤ k + 1 := by unfold crashOne; split <;> simp
    simp only [crashL, List.length_cons]
    omega

/-- A disk made since the world w0; all that was there stands. -/
structure On (w0 w : World) (p : Nat) (s : DS) : Prop where
  ins : s.In w
  p : s.p = p
  low : ∀ k ∈ s.blocks, w0.heap.size ≤ k
  upd : Upd (fun _ => False) w0 w

theorem On.step {w0 w w' : World} {p : Nat} {s s2 : DS} (h : On w0 w p s) (hst : Step w w' s s2) : On w0 w' p s2 :=
  ⟨hst.ins, hst.p.trans h.p, fun k hk => (hst.foot k hk).elim (fun hm => h.low k hm) (fun hm => Nat.le_trans h.upd.size hm),
    h.upd.trans hst.upd (fun k hk hm => by have := h.low k hm; omega)⟩

theorem On.more {w0 w w' : World} {p : Nat} {s : DS} (h : On w0 w p s) (hu : Upd (fun _ => False) w w') : On w0 w' p s := h.step (Step.of_upd h.ins hu)

theorem Fresh.on {w w' : World} {n : Nat} {s : DS} (h : Fresh w w' n s) : On w w' s.p s := ⟨h.1, rfl, h.2.2.2.2.2.1, h.2.2.2.2.2.2⟩

/-- v is a slice that reads as these acts. -/
structure DidsAt (w : World) (v : Value) (l : List DidA) : Prop where
  shape : ∃ ao cap, v = .slice ao l.length cap ∧ l.length ≤ cap ∧ cap ≤ 9223372036854775807 ∧ ∀ k (hk : k < l.length), ∃ b o, ao = some ⟨b, o, none⟩ ∧ b < w.heap.size ∧
    w.cell? ⟨b, o + k * 4, none⟩ = some (.int .i64 l[k].kind) ∧ w.cell? ⟨b, o + k * 4 + 1, none⟩ = some (.int .i64 l[k].file) ∧ w.cell? ⟨b, o + k * 4 + 2, none⟩ = some (.int .i64 l[k].to) ∧ w.cell? ⟨b, o + k * 4 + 3, none⟩ = some l[k].bv
  bytes : ∀ x ∈ l, BytesAt w x.bv x.b
  low : ∀ x ∈ l, ∀ a n c, x.bv = .slice (some a) n c → 0 < n → a.block < w.heap.size

theorem DidsAt.ok {w w' : World} {p : Nat} {s : DS} {v : Value} {l : List DidA} (h : DidsAt w v l) (ho : On w w' p s) {x : DidA} (hx : x ∈ l) : x.Ok w' s :=
  ⟨(h.bytes x hx).upd ho.upd (fun a n c e h0 => ⟨fun h => h, h.low x hx a n c e h0⟩),
    fun a n c e h0 => ⟨fun hm => by have := ho.low _ hm; have := h.low x hx a n c e h0; omega, Nat.lt_of_lt_of_le (h.low x hx a n c e h0) ho.upd.size⟩⟩

set_option maxRecDepth 100000 in
set_option maxHeartbeats 1000000 in
theorem safe_walk {dv cv : Value} {dids : List DidA} {cuts : List Int} {arm : Int} {w : World} (hd : DidsAt w dv dids) (hc : IntsAt w cv cuts) (hcb : ∀ a l c, cv = .slice (some a) l c → 0 < l → a.block < w.heap.size) (harm : arm ≤ 9223372036854775807) :
    Calls Try.prog 4 #[dv, cv, .int .i64 arm] w fun e w' => e = .returned (.bool true) ∧ Below w.heap.size w w' := by
  have HD := hid hd; have HC := hid hc; have HCB := hid hcb
  obtain ⟨ao, cap, rfl, hl1, hl2, hcells⟩ := hd.shape
  have HCE := hid hcells
  obtain ⟨co, ccap, rfl, hcl, hccells⟩ := hc
  have HCC := hid hccells
  clear hd hcb hcells hccells
  go_enter Try.func4, Try.ntmps4
  go_wp2_with fail
  refine (made_any w 4096 (by decide) (by decide)).mono ?_
  rintro e w1 ⟨s0, rfl, hfr⟩
  have ON0 := hid hfr.on
  clear hfr
  go_wp2_with fail
  refine (arm_any ON0.out.ins arm harm).mono ?_
  rintro e w2 ⟨rfl, hst⟩
  have ON1 := hid (ON0.out.step hst)
  clear hst
  go_wp2
  go_loopw [8] (fun i wr => ∃ k : Nat, k ≤ dids.length ∧ i = .int .i64 k ∧ ∃ s, On w wr s0.p s) (fun i _ => dids.length - (intOf i).toNat)
  case atStart => exact ⟨0, Nat.zero_le _, rfl, _, ON1.out⟩
  case round =>
    obtain ⟨k, hk, rfl, s, hon⟩ := hrel
    have HON := hid hon
    clear hon
    by_cases hlt : k < dids.length
    · obtain ⟨b, o, rfl, hb, c0, c1, c2, c3⟩ := HCE.out k hlt
      have HOK := hid (HD.out.ok HON.out (List.getElem_mem hlt))
      obtain ⟨⟨ko, kc, hbv, -⟩, -⟩ := HOK.out
      have d0 : wr.cell? ⟨b, o + k * 4, none⟩ = some (.int .i64 dids[k].kind) := by rw [World.cell?_of_block (w := w) (HON.out.upd.block b hb (fun h => h)), c0]
      have d1 : wr.cell? ⟨b, o + k * 4 + 1, none⟩ = some (.int .i64 dids[k].file) := by rw [World.cell?_of_block (w := w) (HON.out.upd.block b hb (fun h => h)), c1]
      have d2 : wr.cell? ⟨b, o + k * 4 + 2, none⟩ = some (.int .i64 dids[k].to) := by rw [World.cell?_of_block (w := w) (HON.out.upd.block b hb (fun h => h)), c2]
      have d3 : wr.cell? ⟨b, o + k * 4 + 3, none⟩ = some (.slice ko dids[k].b.length kc) := by rw [World.cell?_of_block (w := w) (HON.out.upd.block b hb (fun h => h)), c3, hbv]
      have HBV := hid hbv
      clear c0 c1 c2 c3 hbv
      go_wp2_with fail
      have hact := act4_any HON.out.ins HOK.out
      rw [HON.out.p] at hact
      unfold DidA.cells at hact
      rw [HBV.out] at hact
      refine hact.mono ?_
      rintro e w3 ⟨rfl, s2, hst, -⟩
      have ON2 := hid (HON.out.step hst)
      clear hact hst
      go_wp2
      go_roundw
      case rel => exact ⟨k + 1, by omega, by go_num, _, ON2.out⟩
      case measure => simp [intOf]; omega
    · obtain rfl : k = dids.length := by omega
      have hfi := files_any HON.out.ins
      rw [HON.out.p] at hfi
      have HFI := hid hfi
      clear hfi
      go_wp2_with fail
      refine HFI.out.mono ?_
      rintro e w3 ⟨v1, l1, rfl, hf1, ha1, hu1⟩
      obtain ⟨ao1, cap1, rfl, hc1, hm1, -⟩ := hf1.shape
      have ON2 := hid (HON.out.more hu1)
      have HF1 := hid hf1; have HA1 := hid ha1
      have hcr := crash_any (cv := .slice co cuts.length ccap) (cuts := cuts) ON2.out.ins ⟨co, ccap, rfl, hcl, fun k hk => by
          obtain ⟨a, h1, h2, h3⟩ := HCC.out k hk
          refine ⟨a, h1, h2, fun j hj => ?_⟩
          rw [World.cell?_of_block (w := w) (a := ⟨a.block, a.off + j, none⟩) (ON2.out.upd.block a.block (HCB.out a _ _ (by rw [h1]) (by omega)) (fun h => h))]
          exact h3 j hj⟩
        (fun a l c h hl => by
          injection h with h1 h2 h3
          subst h1 h2
          have := HCB.out a _ _ rfl hl
          exact ⟨fun hm => by have := ON2.out.low _ hm; omega, Nat.lt_of_lt_of_le this ON2.out.upd.size⟩)
      rw [HON.out.p] at hcr
      have HCR := hid hcr
      clear hf1 ha1 hu1 hcr
      go_wp2_with fail
      refine HCR.out.mono ?_
      rintro e w4 ⟨rfl, s2, hst2, habs2⟩
      obtain ⟨hfl, hcnt⟩ := crash_files HON.out.ins (congrArg DiskA.files habs2)
      have hdn : s2.down = false := congrArg DiskA.down habs2
      have ON3 := hid (ON2.out.step hst2)
      have hf1 := HF1.out.upd hst2.upd (fun k hk hm => by have := HON.out.ins.lt k hm; omega)
      have HF1 := hid hf1; have HFL := hid hfl; have HCNT := hid hcnt
      have hfi := files_any ON3.out.ins
      rw [ON3.out.p] at hfi
      have HFI := hid hfi
      clear hst2 habs2 hfl hcnt hf1 hfi
      go_wp2_with fail
      refine HFI.out.mono ?_
      rintro e w5 ⟨v2, l2, rfl, hf2, ha2, hu2⟩
      obtain ⟨ao2, cap2, rfl, hc2, hm2, -⟩ := hf2.shape
      have ON4 := hid (ON3.out.more hu2)
      have hR : l2.map FV.abs = (crashL cuts (l1.map FV.abs) 0).1 := by rw [ha2, HFL.out, HA1.out]
      have hlen : l2.length = l1.length := by have := congrArg List.length hR; rw [crashL_length] at this; simpa using this
      have hf1 := HF1.out.upd hu2 (fun _ _ h => h)
      have HF1 := hid hf1; have HF2 := hid hf2; have HR := hid hR
      have hdw := down_any ON4.out.ins
      rw [hdn, ON4.out.p] at hdw
      have HDW := hid hdw
      have hb1 : (l1.length : Int) = (l2.length : Int) := by omega
      have hnd1 : (l1.map (·.name)).Nodup := by
        have := fileList_nodup HON.out.ins
        rw [← HA1.out, List.map_map] at this
        exact this
      have hnd2 : (l2.map (·.name)).Nodup := by
        have := fileList_nodup ON3.out.ins
        rw [← ha2, List.map_map] at this
        exact this
      have HND1 := hid hnd1; have HND2 := hid hnd2
      clear hf1 hf2 ha2 hu2 hR hdw hdn hnd1 hnd2
      rw [HCNT.out, ← HA1.out]
      have HSM := hid (fileList_small HON.out.ins)
      have hm1' : l1.length ≤ 9223372036854775807 := Nat.le_trans hc1 (by simpa [maxLen] using hm1)
      have hx1 : ((l2.length : Int) != (l1.length : Int)) = false := by simp [hlen]
      have HLEN := hid hlen
      clear hlen hb1
      go_wp2_with (go_at_call 12; refine HDW.out.mono ?_; rintro e w' ⟨rfl, hww⟩; obtain rfl := hww.symm)
      go_loopw [12, 13] (fun t i wr => ∃ k : Nat, k ≤ l1.length ∧ i = .int .i64 k ∧ t = .int .i64 (crashL cuts ((l1.map FV.abs).take k) 0).2 ∧ Upd (fun _ => False) w5 wr) (fun _ i _ => l1.length - (intOf i).toNat)
      case atStart => exact ⟨0, Nat.zero_le _, rfl, by simp [crashL], Upd.refl _ _⟩
      case round =>
        obtain ⟨k, hk, rfl, rfl, hup⟩ := hrel
        by_cases hlt : k < l1.length
        · have hlt2 : k < l2.length := by have := HLEN.out; omega
          have hf1 := HF1.out.upd hup (fun _ _ h => h)
          have hf2 := HF2.out.upd hup (fun _ _ h => h)
          obtain ⟨o1, c1, e1, -, -, hce⟩ := hf1.shape
          injection e1 with e1 _ e3
          subst e1 e3
          obtain ⟨g, rfl, hg1, hg2, d0, d1, d2⟩ := hce k hlt
          have hby1 := (hf1.data l1[k] (List.getElem_mem hlt)).bytes
          have hby2 := (hf2.data l2[k] (List.getElem_mem hlt2)).bytes
          have hlt1 := (hf1.data l1[k] (List.getElem_mem hlt)).lt
          have hlt2' := (hf2.data l2[k] (List.getElem_mem hlt2)).lt
          obtain ⟨p1, q1, hv1, hv1c, -, -, -⟩ := (hf1.data l1[k] (List.getElem_mem hlt)).shape
          obtain ⟨p2, q2, hv2, hv2c, -, -, -⟩ := (hf2.data l2[k] (List.getElem_mem hlt2)).shape
          obtain ⟨r1, r2⟩ := crashL_at cuts (l1.map FV.abs) 0 k (by simpa using hlt)
          rw [← HR.out] at r1
          simp only [List.getElem?_map, List.getElem?_eq_getElem hlt2, Option.map_some, Option.some.injEq, List.getElem_map] at r1 r2
          obtain ⟨K, hK⟩ : ∃ K, K = (crashL cuts ((l1.map FV.abs).take k) 0).2 := ⟨_, rfl⟩
          rw [← hK] at r1 r2 ⊢
          have hKk : K ≤ k := by
            have := crashL_le cuts ((l1.map FV.abs).take k) 0
            rw [← hK] at this
            simp at this
            omega
          have hsm := HSM.out l1[k].abs (by rw [← HA1.out]; exact List.mem_map_of_mem (List.getElem_mem hlt))
          obtain ⟨f1, hf1e⟩ : ∃ f1, f1 = l1[k] := ⟨_, rfl⟩
          obtain ⟨f2, hf2e⟩ : ∃ f2, f2 = l2[k] := ⟨_, rfl⟩
          have hnm : f2.name = f1.name := by
            have := congrArg FileA.name r1
            rw [hf2e, hf1e]
            refine this.trans ?_
            unfold crashOne; split <;> rfl
          have hfd := find_any hf2 f1.name
          rw [← hnm, hf2e, findRes_at HND2.out hlt2, ← hf2e, hnm] at hfd
          rw [← hf1e] at d0 d1 d2 hby1 hv1 hv1c r1 r2 hsm hlt1
          rw [← hf2e] at hby2 hv2 hv2c r1 hlt2'
          have HLT1 := hid hlt1; have HLT2 := hid hlt2'
          clear hlt1 hlt2'
          have HUP := hid hup; have HFD := hid hfd; have HR1 := hid r1; have HR2 := hid r2; have HB1 := hid hby1; have HB2 := hid hby2
          have HV1 := hid hv1; have HV2 := hid hv2
          rw [hv1] at d1
          obtain ⟨hs1, hs2⟩ := hsm
          have hs1' : f1.synced ≤ f1.data.length := hs1
          have hs2' : f1.data.length ≤ 67108864 := hs2
          have KE := hid hK
          clear hup hfd r1 r2 hby1 hby2 hv1 hv2 hf1 hf2 hce hf1e hf2e hnm hs1 hs2 hK
          have hbeg : ∀ n : Nat, f2.data.length = n → f2.data = f1.data.take n → ∀ W, Upd (fun _ => False) wr W → Calls Try.prog 22 #[.slice p2 n q2, .slice p1 f1.data.length q1] W fun e w' => e = .returned (.bool true) ∧ w' = W := by
            intro n hn hdt W hW
            have b1 := HB1.out.upd hW (fun a l c he _ => ⟨fun h => h, HLT1.out a.block (by rw [he]; rfl)⟩)
            have b2 := HB2.out.upd hW (fun a l c he _ => ⟨fun h => h, HLT2.out a.block (by rw [he]; rfl)⟩)
            rw [HV1.out] at b1
            rw [HV2.out] at b2
            have := begins_any b2 b1 (fun o l c he => by injection he with _ h2 h3; omega)
            rw [hn, ← hdt] at this
            simpa using this
          have BG := hid hbeg
          clear hbeg
          by_cases ht : f1.synced < f1.data.length
          · obtain ⟨kp, hkp⟩ : ∃ kp, keepOf cuts K (f1.data.length - f1.synced) = kp := ⟨_, rfl⟩
            obtain ⟨hw, hkpl⟩ := crashOne_tail cuts f1.abs K ht hkp
            obtain ⟨x1, x2, x3⟩ := FV_ext (HR1.out.trans (congrArg Prod.fst hw))
            have y2 : f2.data = f1.data.take (f1.synced + kp) := x2
            have y3 : f2.synced = f1.synced + kp := x3
            have hkpl' : f1.synced + kp ≤ f1.data.length := hkpl
            have hl2 : f2.data.length = f1.synced + kp := by rw [y2, List.length_take]; omega
            have BG1 := hid (BG.out (f1.synced + kp) hl2 y2)
            have HR3 := hid (HR2.out.trans (congrArg Prod.snd hw))
            rw [HV2.out, hl2, y3] at HFD
            have ht' : (f1.synced : Int) < (f1.data.length : Int) := by omega
            have HKP := hid hkp
            clear hw x1 x2 x3 y2 y3 hl2 hkp hkpl
            by_cases hKl : K < cuts.length
            · obtain ⟨ca, rfl, hsp, hcc⟩ := HCC.out K hKl
              have hcb := HCB.out ca _ _ rfl (by omega)
              obtain ⟨cb, cf, cs⟩ := ca
              simp only at hsp hcc hcb
              subst hsp
              have e0 : wr.cell? ⟨cb, cf + K, none⟩ = some (.int .i64 cuts[K]) := by rw [World.cell?_of_block (w := w) (a := ⟨cb, cf + K, none⟩) ((ON4.out.upd.trans HUP.out (fun _ _ h => h)).block cb hcb (fun h => h))]; exact hcc K hKl
              obtain ⟨c, hc⟩ : ∃ c, c = cuts[K] := ⟨_, rfl⟩
              rw [← hc] at e0
              have hcbr : cb < wr.heap.size := Nat.lt_of_lt_of_le hcb (ON4.out.upd.trans HUP.out (fun _ _ h => h)).size
              have HCE2 := hid hcc; have HCX := hid hc
              have hKl' : (K : Int) < (cuts.length : Int) := by omega
              clear hcc hc
              by_cases hpos : 0 < c
              · go_wp2_with fail
                refine HFD.out.mono ?_
                rintro e w6 ⟨rfl, hu6⟩
                have d0' : w6.cell? ⟨g, k * 3, none⟩ = some (.string f1.name) := by rw [World.cell?_of_block (w := wr) (hu6.block g hg2 (fun h => h))]; exact d0
                have d1' : w6.cell? ⟨g, k * 3 + 1, none⟩ = some (.slice p1 f1.data.length q1) := by rw [World.cell?_of_block (w := wr) (hu6.block g hg2 (fun h => h))]; exact d1
                have d2' : w6.cell? ⟨g, k * 3 + 2, none⟩ = some (.int .i64 f1.synced) := by rw [World.cell?_of_block (w := wr) (hu6.block g hg2 (fun h => h))]; exact d2
                have e0' : w6.cell? ⟨cb, cf + K, none⟩ = some (.int .i64 c) := by rw [World.cell?_of_block (w := wr) (a := ⟨cb, cf + K, none⟩) (hu6.block cb hcbr (fun h => h))]; exact e0
                have HU6 := hid hu6
                have hg6 : g < w6.heap.size := Nat.lt_of_lt_of_le hg2 hu6.size
                have hg7 : g < w6.heap.size + 1 := by omega
                have hg8 : ¬ g = w6.heap.size := by omega
                have hc6 : cb < w6.heap.size := Nat.lt_of_lt_of_le hcbr hu6.size
                have hc7 : cb < w6.heap.size + 1 := by omega
                have hc8 : ¬ cb = w6.heap.size := by omega
                clear d0 d1 d2 e0 hu6
                go_wp2_with fail
                go_quiet (fail)
                have hmin : min c ((f1.data.length : Int) - (f1.synced : Int)) = (kp : Int) := by
                  rw [← HKP.out]
                  unfold keepOf
                  rw [if_pos hKl, List.getD_eq_getElem?_getD, List.getElem?_eq_getElem hKl, ← HCX.out]
                  simp only [Option.getD_some]
                  omega
                rw [hmin]
                have HUP7 := hid (fun n => (HU6.out.alloc (.cells #[.string f1.name, .slice p2 (f1.synced + kp) q2, .int .i64 ((f1.synced : Int) + (kp : Int))] 44)).drewN n)
                clear hmin
                go_wp2_with fail
                go_quiet ((go_at_call 22; exact Calls.same_behind (BG1.out _ (HUP7.out _))))
                go_wp2
                go_roundw
                case rel => exact ⟨k + 1, by omega, by go_num, by rw [HR3.out]; go_num, HUP.out.trans (HUP7.out _) (fun _ _ h => h)⟩
                case measure => simp [intOf]; omega
              · have hpos' : c ≤ 0 := by omega
                have hz : kp = 0 := by
                  rw [← HKP.out]
                  unfold keepOf
                  rw [if_pos hKl, List.getD_eq_getElem?_getD, List.getElem?_eq_getElem hKl, ← HCX.out]
                  simp only [Option.getD_some]
                  omega
                subst hz
                simp only [Nat.add_zero] at HFD BG1
                go_wp2_with fail
                refine HFD.out.mono ?_
                rintro e w6 ⟨rfl, hu6⟩
                have d0' : w6.cell? ⟨g, k * 3, none⟩ = some (.string f1.name) := by rw [World.cell?_of_block (w := wr) (hu6.block g hg2 (fun h => h))]; exact d0
                have d1' : w6.cell? ⟨g, k * 3 + 1, none⟩ = some (.slice p1 f1.data.length q1) := by rw [World.cell?_of_block (w := wr) (hu6.block g hg2 (fun h => h))]; exact d1
                have d2' : w6.cell? ⟨g, k * 3 + 2, none⟩ = some (.int .i64 f1.synced) := by rw [World.cell?_of_block (w := wr) (hu6.block g hg2 (fun h => h))]; exact d2
                have e0' : w6.cell? ⟨cb, cf + K, none⟩ = some (.int .i64 c) := by rw [World.cell?_of_block (w := wr) (a := ⟨cb, cf + K, none⟩) (hu6.block cb hcbr (fun h => h))]; exact e0
                have hc6 : cb < w6.heap.size := Nat.lt_of_lt_of_le hcbr hu6.size
                have hc7 : cb < w6.heap.size + 1 := by omega
                have hc8 : ¬ cb = w6.heap.size := by omega
                have HU6 := hid hu6
                have hg6 : g < w6.heap.size := Nat.lt_of_lt_of_le hg2 hu6.size
                have hg7 : g < w6.heap.size + 1 := by omega
                have hg8 : ¬ g = w6.heap.size := by omega
                clear d0 d1 d2 e0 hu6
                go_wp2_with fail
                have HUP7 := hid (fun n => (HU6.out.alloc (.cells #[.string f1.name, .slice p2 f1.synced q2, .int .i64 f1.synced] 44)).drewN n)
                go_quiet ((go_at_call 22; exact Calls.quiet_of_same (BG1.out _ (HUP7.out _))))
                go_wp2
                go_roundw
                case rel => exact ⟨k + 1, by omega, by go_num, by rw [HR3.out]; go_num, HUP.out.trans (HUP7.out _) (fun _ _ h => h)⟩
                case measure => simp [intOf]; omega
            · have hz : kp = 0 := by
                rw [← HKP.out]
                unfold keepOf
                rw [if_neg hKl]
              have hKl' : ¬ (K : Int) < (cuts.length : Int) := by omega
              subst hz
              simp only [Nat.add_zero] at HFD BG1
              go_wp2_with fail
              refine HFD.out.mono ?_
              rintro e w6 ⟨rfl, hu6⟩
              have d0' : w6.cell? ⟨g, k * 3, none⟩ = some (.string f1.name) := by rw [World.cell?_of_block (w := wr) (hu6.block g hg2 (fun h => h))]; exact d0
              have d1' : w6.cell? ⟨g, k * 3 + 1, none⟩ = some (.slice p1 f1.data.length q1) := by rw [World.cell?_of_block (w := wr) (hu6.block g hg2 (fun h => h))]; exact d1
              have d2' : w6.cell? ⟨g, k * 3 + 2, none⟩ = some (.int .i64 f1.synced) := by rw [World.cell?_of_block (w := wr) (hu6.block g hg2 (fun h => h))]; exact d2
              have HU6 := hid hu6
              have hg6 : g < w6.heap.size := Nat.lt_of_lt_of_le hg2 hu6.size
              have hg7 : g < w6.heap.size + 1 := by omega
              have hg8 : ¬ g = w6.heap.size := by omega
              clear d0 d1 d2 hu6
              go_wp2_with fail
              have HUP7 := hid (fun n => (HU6.out.alloc (.cells #[.string f1.name, .slice p2 f1.synced q2, .int .i64 f1.synced] 44)).drewN n)
              go_quiet ((go_at_call 22; exact Calls.quiet_of_same (BG1.out _ (HUP7.out _))))
              go_wp2
              go_roundw
              case rel => exact ⟨k + 1, by omega, by go_num, by rw [HR3.out]; go_num, HUP.out.trans (HUP7.out _) (fun _ _ h => h)⟩
              case measure => simp [intOf]; omega
          · have hw := crashOne_whole cuts f1.abs K hs1' ht
            obtain ⟨x1, x2, x3⟩ := FV_ext (HR1.out.trans (congrArg Prod.fst hw))
            have y2 : f2.data = f1.data := x2
            have y3 : f2.synced = f1.synced := x3
            have hl : f1.data.length = f1.synced := by omega
            have hl2 : f2.data.length = f1.synced := by rw [y2, hl]
            have BG1 := hid (BG.out f1.synced hl2 (by rw [y2, ← hl]; simp))
            have HR3 := hid (HR2.out.trans (congrArg Prod.snd hw))
            rw [HV2.out, hl2, y3] at HFD
            clear hw x1 x2 x3 y2 y3 hl2 hl
            go_wp2_with fail
            refine HFD.out.mono ?_
            rintro e w6 ⟨rfl, hu6⟩
            have d0' : w6.cell? ⟨g, k * 3, none⟩ = some (.string f1.name) := by rw [World.cell?_of_block (w := wr) (hu6.block g hg2 (fun h => h))]; exact d0
            have d1' : w6.cell? ⟨g, k * 3 + 1, none⟩ = some (.slice p1 f1.data.length q1) := by rw [World.cell?_of_block (w := wr) (hu6.block g hg2 (fun h => h))]; exact d1
            have d2' : w6.cell? ⟨g, k * 3 + 2, none⟩ = some (.int .i64 f1.synced) := by rw [World.cell?_of_block (w := wr) (hu6.block g hg2 (fun h => h))]; exact d2
            have HU6 := hid hu6
            have hg6 : g < w6.heap.size := Nat.lt_of_lt_of_le hg2 hu6.size
            have hg7 : g < w6.heap.size + 1 := by omega
            have hg8 : ¬ g = w6.heap.size := by omega
            clear d0 d1 d2 hu6
            go_wp2_with fail
            have HUP7 := hid (fun n => (HU6.out.alloc (.cells #[.string f1.name, .slice p2 f1.synced q2, .int .i64 f1.synced] 44)).drewN n)
            go_quiet ((go_at_call 22; exact Calls.quiet_of_same (BG1.out _ (HUP7.out _))))
            go_wp2
            go_roundw
            case rel => exact ⟨k + 1, by omega, by go_num, by rw [HR3.out], HUP.out.trans (HUP7.out _) (fun _ _ h => h)⟩
            case measure => simp [intOf]; omega
        · obtain rfl : k = l1.length := by omega
          have hfin : (l1.map FV.abs).take l1.length = l1.map FV.abs := List.take_of_length_le (by simp)
          rw [hfin]
          go_wp2
          go_ret
          refine ⟨by simp, ?_⟩
          exact (ON4.out.upd.trans hup (fun _ _ h => h)).below (Nat.le_refl _) (fun _ h => h.elim)

end Go.Proofs.Ytohpgmeflmppaaa
