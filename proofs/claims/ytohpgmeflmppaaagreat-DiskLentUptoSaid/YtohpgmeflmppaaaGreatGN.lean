/-
  Package strataref4, walked: Load.
  The program's disk and the document's, as plain data: the acts answer alike. No program in sight.
  The program's disk and the document's, as plain data: Rename, Read, List, Crash answer alike. No program in sight.
  Package stratalaw4's Book: lists that were handed out, in memory; take, holds, roomy.
-/
import Derived.Test.YtohpgmeflmppaaaGreatGM
import Derived.Test.YtohpgmeflmppaaaGreatGH
import Derived.Test.YtohpgmeflmppaaaGreatGK
namespace Go.Proofs.YtohpgmeflmppaaaGreat
set_option linter.unusedVariables false
set_option linter.unusedSimpArgs false
set_option linter.unnecessarySimpa false
set_option linter.unusedSectionVars false
open Go Go.RowKit

/-- The document's disk at p, made since w. -/
structure OnR (w wr : World) (p : Nat) (r : RS) : Prop where
  ins : r.In wr
  p : r.p = p
  low : ∀ k, r.own k → w.heap.size ≤ k
  base : w.heap.size ≤ r.base
  upd : Upd (fun _ => False) w wr

/-- How the document's Load answers. -/
def RefLoadRes (w : World) (cap : Int) (R : Int ⊕ List FileA) (e : Ending) (w' : World) : Prop :=
  Upd (fun _ => False) w w' ∧ match R with
    | .inl err => e = .returned (.tuple #[.pointer none, .int .i64 err])
    | .inr F => ∃ r : RS, e = .returned (.tuple #[.pointer (some ⟨r.p, 0, none⟩), .int .i64 0]) ∧ r.In w' ∧ Alike ⟨cap.toNat, F, false, 0, ⟨0, 0, 0, 0, 0, 0⟩⟩ r.abs ∧ Sorted r.F ∧ ∀ k, r.own k → w.heap.size ≤ k

set_option maxRecDepth 100000 in
set_option maxHeartbeats 4000000 in
theorem refLoad_any {w : World} {cap : Int} {v : Value} {l : List FileI} (hl : FilesIn w v l) (hsm : ∀ f ∈ l, f.data.length ≤ 1000000000) :
    Calls Tryz.prog 59 #[.int .i64 cap, v] w fun e w' => RefLoadRes w cap (loadA cap l) e w' := by
  obtain ⟨ao, lcap, rfl, hl1, hl2, hcells⟩ := hl.shape
  have HL := hid hl; have HCE := hid hcells; have HSM := hid hsm
  clear hl hcells hsm
  by_cases hcap : cap < 0 ∨ 67108864 < cap
  · have HR := hid (show loadA cap l = .inl 1 by unfold loadA; rw [if_pos hcap])
    have HN := hid (refNew_no w cap hcap)
    clear hcap
    go_enter Tryz.func59, Tryz.ntmps59
    go_wp2_with (go_at_call 35; refine HN.out.mono ?_; rintro e w' ⟨rfl, hww⟩; obtain rfl := hww.symm)
    go_ret2
    rw [HR.out]
    exact ⟨Upd.refl _ _, rfl⟩
  obtain ⟨n, rfl⟩ : ∃ n : Nat, cap = (n : Int) := ⟨cap.toNat, by omega⟩
  have hn : n ≤ 67108864 := by omega
  have HR := hid (show loadA n l = if 256 < l.length then .inl 44 else loadL n l [] by unfold loadA; rw [if_neg hcap]; simp)
  clear hcap
  go_enter Tryz.func59, Tryz.ntmps59
  go_wp2_with fail
  refine (refNew_yes w n hn).mono ?_
  rintro e w1 ⟨r0, rfl, hin, q1, q2, q3, q4, q5, hbase, hlow, hupd⟩
  obtain ⟨p, hp⟩ : ∃ p, p = r0.p := ⟨_, rfl⟩
  have ON0 := hid (show OnR w w1 p r0 from ⟨hin, hp.symm, hlow, hbase, hupd⟩)
  have Q1 := hid q1; have Q2 := hid q2; have Q3 := hid q3; have Q4 := hid q4; have Q5 := hid q5
  rw [← hp]
  clear hin hlow hbase hupd hp q1 q2 q3 q4 q5
  by_cases h256 : 256 < l.length
  · have h256' : (256 : Int) < (l.length : Int) := by omega
    have HR2 := hid (show loadA n l = .inl 44 by rw [HR.out, if_pos h256])
    go_wp2
    go_ret2
    rw [HR2.out]
    exact ⟨ON0.out.upd, rfl⟩
  have h256' : ¬ (256 : Int) < (l.length : Int) := by omega
  have HR2 := hid (show loadA n l = loadL n l [] by rw [HR.out, if_neg h256])
  clear HR
  go_wp2
  go_loopw [8] (fun i wr => ∃ k : Nat, k ≤ l.length ∧ i = .int .i64 k ∧ ∃ (r : RS) (acc : List FileA), OnR w wr p r ∧ r.room = n ∧ r.off = false ∧ r.armed = 0 ∧ r.cnt = ⟨0, 0, 0, 0, 0, 0⟩ ∧ acc.Perm (r.F.map FV.abs) ∧ Sorted r.F ∧ r.F.length = k ∧ loadL n l [] = loadL n (l.drop k) acc) (fun i _ => l.length - (intOf i).toNat)
  case atStart => exact ⟨0, Nat.zero_le _, rfl, r0, [], ON0.out, Q1.out, Q3.out, Q4.out, Q5.out, by rw [Q2.out]; exact .refl _, by rw [Q2.out]; simp [Sorted], by rw [Q2.out]; rfl, rfl⟩
  case round =>
    obtain ⟨k, hk, rfl, r, acc, hon, a1, a2, a3, a4, a5, a6, hlen, hld⟩ := hrel
    have ON := hid hon; have A1 := hid a1; have A2 := hid a2; have A3 := hid a3; have A4 := hid a4; have A5 := hid a5; have A6 := hid a6; have HLEN := hid hlen; have HLD := hid hld
    clear hon a1 a2 a3 a4 a5 a6 hlen hld
    by_cases hlt : k < l.length
    · obtain ⟨b, o, rfl, hb, c0, c1, c2⟩ := HCE.out k hlt
      have hm : l[k] ∈ l := List.getElem_mem hlt
      have hbl : l[k].data.length ≤ 1000000000 := HSM.out _ hm
      have hby := (HL.out.bytes l[k] hm).upd ON.out.upd (fun a m c e h0 => ⟨fun h => h, HL.out.low l[k] hm a m c e h0⟩)
      have hlw : ∀ a m c, l[k].dv = .slice (some a) m c → 0 < m → a.block < wr.heap.size := fun a m c e h0 => Nat.lt_of_lt_of_le (HL.out.low l[k] hm a m c e h0) ON.out.upd.size
      have d0 := (World.cell?_of_block (a := ⟨b, o + k * 3, none⟩) (ON.out.upd.block b hb (fun h => h))).trans c0
      have d1 := (World.cell?_of_block (a := ⟨b, o + k * 3 + 1, none⟩) (ON.out.upd.block b hb (fun h => h))).trans c1
      have d2 := (World.cell?_of_block (a := ⟨b, o + k * 3 + 2, none⟩) (ON.out.upd.block b hb (fun h => h))).trans c2
      have hbr : b < wr.heap.size := Nat.lt_of_lt_of_le hb ON.out.upd.size
      have HDROP := hid (show loadL n l [] = loadL n (l[k] :: l.drop (k + 1)) acc by rw [HLD.out, List.drop_eq_getElem_cons hlt])
      have HSN := hid (fun h1 h2 h3 h4 => HLD.out.trans (loadL_snoc (cap := n) (acc := acc) hlt h1 h2 h3 h4))
      obtain ⟨f, hf⟩ : ∃ f, f = l[k] := ⟨_, rfl⟩
      rw [← hf] at d0 d1 d2 hby hlw HDROP HSN hbl
      have HBY0 := hid hby
      obtain ⟨po, pc, hdv, -, -⟩ := hby
      rw [hdv] at d1 hlw
      have HBY := hid (show BytesAt wr (.slice po f.data.length pc) f.data from hdv ▸ HBY0.out)
      have HLW := hid hlw
      have hplt := ON.out.ins.plt
      rw [ON.out.p] at hplt
      have hp1 : p < wr.heap.size + 1 := by omega
      have HN := hid (fun W => refName_any f.name W)
      have hndacc : (acc.map (·.name)).Nodup := (A5.out.map (·.name)).nodup_iff.2 (sorted_nodup A6.out)
      have hfind : findA acc f.name = findA (r.F.map FV.abs) f.name := findA_perm A5.out hndacc f.name
      have husd : usedA acc = usedR r.F := (sum_perm A5.out).trans (usedR_abs r.F)
      have hroomr := ON.out.ins.room
      rw [A1.out] at hroomr
      have HFIND := hid hfind; have HUSD := hid husd
      have HAL := hid ((Upd.refl (fun _ => False) wr).alloc (.cells #[.string f.name, .slice po f.data.length pc, .int .i64 f.synced] 80))
      have hin1 : r.In (wr.alloc (.cells #[.string f.name, .slice po f.data.length pc, .int .i64 f.synced] 80)) := ON.out.ins.upd HAL.out (fun _ _ h => h)
      have hat := refAt_any hin1 f.name
      rw [ON.out.p] at hat
      have husc : ∀ q, Calls Tryz.prog 56 #[.pointer (some ⟨p, 0, none⟩)] ((wr.alloc (.cells #[.string f.name, .slice po f.data.length pc, .int .i64 f.synced] 80)).drewN q) fun e w' => e = .returned (.int .i64 (usedR r.F)) ∧ w' = (wr.alloc (.cells #[.string f.name, .slice po f.data.length pc, .int .i64 f.synced] 80)).drewN q := fun q => by
        have h := refUsed_any (hin1.drewN q)
        rw [ON.out.p] at h
        exact h
      have HUC := hid husc; have HIN1 := hid hin1
      clear c0 c1 c2 hm hlw hf hdv hndacc hfind husd husc hin1
      cases hok : nameOk f.name.data.toList with
      | false =>
        rw [hok] at HN
        have HRR := hid (show loadL n l [] = .inl 40 by rw [HDROP.out]; simp [loadL, hok])
        clear hok hat
        go_wp2_with (go_at_call 86; refine (HN.out _).mono ?_; rintro e w' ⟨rfl, hww⟩; obtain rfl := hww.symm)
        go_ret2
        refine ⟨ON.out.upd.trans HAL.out (fun _ _ h => h), ?_⟩
        rw [HR2.out, HRR.out]
        rfl
      | true =>
      rw [hok] at HN
      have HOK := hid hok
      clear hok
      rcases atR_cases r.F f.name with ⟨g1, g2, g3⟩ | ⟨kk, hkk, g1, g3, g2⟩
      · rw [g1] at hat
        have HAT := hid hat
        have HKN := hid (show (findA acc f.name).isSome = false by rw [HFIND.out, g2]; rfl)
        have HG3 := hid g3
        clear hat g1 g2 g3
        by_cases hneg : f.synced < 0
        · have HRR := hid (show loadL n l [] = .inl 43 by rw [HDROP.out]; simp [loadL, HOK.out, HKN.out, hneg])
          go_wp2_with (first | (go_at_call 86; refine (HN.out _).mono ?_; rintro e w' ⟨rfl, hww⟩; obtain rfl := hww.symm) | (go_at_call 39; refine HAT.out.mono ?_; rintro e w' ⟨rfl, hww⟩; obtain rfl := hww.symm))
          go_ret2
          refine ⟨ON.out.upd.trans HAL.out (fun _ _ h => h), ?_⟩
          rw [HR2.out, HRR.out]
          rfl
        by_cases hbig : (f.data.length : Int) < f.synced
        · have HRR := hid (show loadL n l [] = .inl 43 by rw [HDROP.out]; simp [loadL, HOK.out, HKN.out, hbig])
          go_wp2_with (first | (go_at_call 86; refine (HN.out _).mono ?_; rintro e w' ⟨rfl, hww⟩; obtain rfl := hww.symm) | (go_at_call 39; refine HAT.out.mono ?_; rintro e w' ⟨rfl, hww⟩; obtain rfl := hww.symm))
          go_ret2
          refine ⟨ON.out.upd.trans HAL.out (fun _ _ h => h), ?_⟩
          rw [HR2.out, HRR.out]
          rfl
        obtain ⟨U, hU⟩ : ∃ U, U = usedR r.F := ⟨_, rfl⟩
        rw [← hU] at hroomr HUC HUSD
        have HU := hid hU
        clear hU
        by_cases hfull : (n : Int) < (U : Int) + (f.data.length : Int)
        · have HRR := hid (show loadL n l [] = .inl 4 by rw [HDROP.out]; simp only [loadL]; rw [if_neg (by rw [HOK.out]; decide), if_neg (by rw [HKN.out]; decide), if_neg (by omega), if_pos (by rw [HUSD.out]; omega)])
          go_wp2_with (first | (go_at_call 86; refine (HN.out _).mono ?_; rintro e w' ⟨rfl, hww⟩; obtain rfl := hww.symm) | (go_at_call 39; refine HAT.out.mono ?_; rintro e w' ⟨rfl, hww⟩; obtain rfl := hww.symm))
          go_quiet ((go_at_call 56; exact Calls.quiet_of_same (HUC.out _)))
          go_wp2
          go_ret2
          refine ⟨ON.out.upd.trans (HAL.out.drewN _) (fun _ _ h => h), ?_⟩
          rw [HR2.out, HRR.out]
          rfl
        · obtain ⟨sy, hsy⟩ : ∃ sy : Nat, f.synced = (sy : Int) := ⟨f.synced.toNat, by omega⟩
          have hsyl : sy ≤ f.data.length := by omega
          have hfl : U + f.data.length ≤ n := by omega
          have HSY := hid hsy
          have hpe := ON.out.p
          subst hpe
          rw [hsy] at d2 HAT HUC HIN1 HAL
          have HSNK := hid ((HSN.out HOK.out HKN.out (by omega) (by rw [HUSD.out]; omega)))
          clear hsy
          go_wp2_with (first | (go_at_call 86; refine (HN.out _).mono ?_; rintro e w' ⟨rfl, hww⟩; obtain rfl := hww.symm) | (go_at_call 39; refine HAT.out.mono ?_; rintro e w' ⟨rfl, hww⟩; obtain rfl := hww.symm))
          go_quiet ((go_at_call 56; exact Calls.quiet_of_same (HUC.out _)))
          revert nq
          intro q
          generalize hW : (wr.alloc (.cells #[.string f.name, .slice po f.data.length pc, .int .i64 (sy : Int)] 80)).drewN q = W0
          have hsz0 : W0.heap.size = wr.heap.size + 1 := by rw [← hW]; simp
          have hu0 : Upd (fun _ => False) wr W0 := by rw [← hW]; exact ((Upd.refl _ _).alloc _).drewN _
          have hfb : W0.heap[wr.heap.size]? = some (.cells #[.string f.name, .slice po f.data.length pc, .int .i64 (sy : Int)] 80 (0, 0)) := by rw [← hW]; exact heap_alloc_new wr _
          obtain ⟨fb, hfbe⟩ : ∃ fb, fb = wr.heap.size := ⟨_, rfl⟩
          have e0 : W0.cell? ⟨fb, 0, none⟩ = some (.string f.name) := by rw [hfbe, cell_of_row W0 _ 0 _ _ _ hfb]; rfl
          have e1 : W0.cell? ⟨fb, 1, none⟩ = some (.slice po f.data.length pc) := by rw [hfbe, cell_of_row W0 _ 1 _ _ _ hfb]; rfl
          have e2 : W0.cell? ⟨fb, 2, none⟩ = some (.int .i64 (sy : Int)) := by rw [hfbe, cell_of_row W0 _ 2 _ _ _ hfb]; rfl
          have hfbl : fb < W0.heap.size := by omega
          have hfbo : ¬ r.own fb := fun h => by have := ON.out.ins.lt h; omega
          have hin0 := ON.out.ins.upd hu0 (fun _ _ h => h)
          have HIN0 := hid hin0; have HU0 := hid hu0
          have HBY2 := hid (show BytesAt W0.drew (.slice po f.data.length pc) f.data from HBY.out.upd (hu0.drew) (fun a m c e h0 => ⟨fun h => h, HLW.out a m c e h0⟩))
          have hput : ∀ (w4 : World) (aoc : Option Addr) (capc : Nat), Upd (fun _ => False) W0.drew w4 → DataIs w4 (.slice aoc f.data.length capc) f.data → (∀ b, (Value.slice aoc f.data.length capc).ownBlock = some b → W0.drew.heap.size ≤ b) →
              Calls Tryz.prog 88 #[.pointer (some ⟨r.p, 0, none⟩), .agg #[.string f.name, .slice aoc f.data.length capc, .int .i64 (sy : Int)]] w4 fun e w5 => e = .returned (.tuple #[]) ∧ ∃ fv', RStep W0 w5 r { r with fv := fv', F := putR r.F ⟨f.name, .slice aoc f.data.length capc, f.data, sy⟩ } := by
            intro w4 aoc capc hbel hd hdo
            have hu4 : Upd (fun _ => False) W0 w4 := ((Upd.refl (fun _ => False) W0).drew).trans hbel (fun _ _ h => h)
            have hin4 := HIN0.out.upd hu4 (fun _ _ h => h)
            refine (refPut_any hin4 ⟨f.name, .slice aoc f.data.length capc, f.data, sy⟩ hd (fun b hb => ?_) ?_ ?_ hsyl).mono ?_
            · have h1 : W0.heap.size ≤ b := hdo b hb
              exact ⟨Nat.le_trans HIN0.out.base h1, fun ho => by have := HIN0.out.lt ho; omega⟩
            · have := HLEN.out; omega
            · have h1 := A1.out; have h2 := HU.out; show usedR r.F + f.data.length ≤ r.room; omega
            · rintro e w5 ⟨rfl, fv', h5, h6, h7⟩
              refine ⟨rfl, fv', h5, rfl, (hu4.mono (T := r.own) (fun _ _ h => h.elim)).trans h6 (fun b _ h => h), fun b hb => ?_⟩
              rcases h7 b hb with h | h | h
              · exact .inl h
              · exact .inr (hdo b h)
              · exact .inr (Nat.le_trans hu4.size h)
          have HPUT := hid hput
          have HFO := hid hfbo
          rw [← hfbe]
          have HFBE := hid hfbe
          clear hW hfb hin0 hu0 d0 d1 d2 hfbe hp1 hput hfbo
          go_wp2_with fail
          go_region_held3 (fun W => W.cell? ⟨fb, 0, none⟩ = some (.string f.name) ∧ W.cell? ⟨fb, 1, none⟩ = some (.slice po f.data.length pc) ∧ W.cell? ⟨fb, 2, none⟩ = some (.int .i64 (sy : Int)))
            (first
              | go_keep
              | (go_split_ands
                 refine ⟨?_, ?_, ?_⟩
                 · (first | (rw [World.cell?_of_block (w := W0) (a := ⟨fb, 0, none⟩) (hst5.upd.block fb (by simpa using hfbl) HFO.out)]; assumption) | (rw [World.cell?_of_block (w := W0.drew) (a := ⟨fb, 0, none⟩) (hbel.block fb (by simpa using hfbl) (fun h => h))]; assumption))
                 · (first | (rw [World.cell?_of_block (w := W0) (a := ⟨fb, 1, none⟩) (hst5.upd.block fb (by simpa using hfbl) HFO.out)]; assumption) | (rw [World.cell?_of_block (w := W0.drew) (a := ⟨fb, 1, none⟩) (hbel.block fb (by simpa using hfbl) (fun h => h))]; assumption))
                 · (first | (rw [World.cell?_of_block (w := W0) (a := ⟨fb, 2, none⟩) (hst5.upd.block fb (by simpa using hfbl) HFO.out)]; assumption) | (rw [World.cell?_of_block (w := W0.drew) (a := ⟨fb, 2, none⟩) (hbel.block fb (by simpa using hfbl) (fun h => h))]; assumption))))
            (first
              | (go_at_call 40; refine (refCopied_any (w := W0.drew) HBY2.out (by omega)).mono ?_; rintro e w4 ⟨vc, rfl, hd, hdo, hbel⟩; obtain ⟨aoc, capc, hsh, -, -, -, -⟩ := hd.shape; subst hsh; have hfb4 : fb < w4.heap.size := Nat.lt_of_lt_of_le (by simpa using hfbl) hbel.size)
              | (go_at_call 88; refine (HPUT.out _ _ _ hbel hd hdo).mono ?_; rintro e w5 ⟨rfl, fv', hst5⟩; have hfb5 : fb < w5.heap.size := Nat.lt_of_lt_of_le hfbl hst5.upd.size)
              | fail)
          have H1 := hid hst5
          have hab : f.abs = FV.abs ⟨f.name, .slice aoc f.data.length capc, f.data, sy⟩ := by simp [FileI.abs, FV.abs, HSY.out]
          have HAB := hid hab
          clear hst5 hd hdo hbel hab e0 e1 e2
          go_wp2
          go_roundw
          case rel =>
            refine ⟨k + 1, by omega, by go_num, _, acc ++ [f.abs], ⟨H1.out.ins, rfl, ?_, ON.out.base, ?_⟩, A1.out, A2.out, A3.out, A4.out, ?_, ?_, ?_, HSNK.out⟩
            · intro b hb
              rcases H1.out.foot b hb with h | h
              · exact ON.out.low b h
              · exact Nat.le_trans ON.out.upd.size (Nat.le_trans HU0.out.size h)
            · exact (ON.out.upd.trans HU0.out (fun _ _ h => h)).trans H1.out.upd (fun b hb ho => by have := ON.out.low b ho; omega)
            · refine (List.Perm.append_right _ A5.out).trans ?_
              refine .trans ?_ ((putR_perm _ _).map FV.abs).symm
              rw [List.map_cons, HAB.out]
              exact List.perm_append_singleton _ _
            · exact sorted_put A6.out HG3.out
            · show (putR r.F _).length = k + 1
              rw [(putR_perm _ _).length_eq, List.length_cons, HLEN.out]
          case measure => simp [intOf]; omega
      · rw [g1] at hat
        have HAT := hid hat
        have HRR := hid (show loadL n l [] = .inl 41 by rw [HDROP.out]; simp [loadL, HOK.out, HFIND.out, g2])
        clear hat g1 g2 g3
        go_wp2_with (first | (go_at_call 86; refine (HN.out _).mono ?_; rintro e w' ⟨rfl, hww⟩; obtain rfl := hww.symm) | (go_at_call 39; refine HAT.out.mono ?_; rintro e w' ⟨rfl, hww⟩; obtain rfl := hww.symm))
        go_ret2
        refine ⟨ON.out.upd.trans HAL.out (fun _ _ h => h), ?_⟩
        rw [HR2.out, HRR.out]
        rfl
    · obtain rfl : k = l.length := by omega
      go_wp2
      go_ret2
      refine ⟨ON.out.upd, ?_⟩
      rw [HR2.out, HLD.out, List.drop_length]
      exact ⟨r, by rw [ON.out.p]; rfl, ON.out.ins, ⟨by rw [Int.toNat_natCast]; exact A1.out.symm, A5.out, A2.out.symm, A3.out.symm, A4.out.symm⟩, A6.out, ON.out.low⟩

end Go.Proofs.YtohpgmeflmppaaaGreat

namespace Go.Proofs.YtohpgmeflmppaaaGreat
set_option linter.unusedVariables false
set_option linter.unusedSimpArgs false
set_option linter.unnecessarySimpa false
set_option linter.unusedSectionVars false
open Go Go.RowKit

def NamesND (a : DiskA) : Prop := (a.files.map (·.name)).Nodup

theorem Alike.find {a b : DiskA} (h : Alike a b) (hnd : NamesND a) (n : ByteArray) : findA a.files n = findA b.files n := findA_perm h.files hnd n
theorem Alike.look {a b : DiskA} (h : Alike a b) (hnd : NamesND a) (n : ByteArray) (t : Bool) : lookC a n t = lookC b n t := by
  unfold lookC; rw [h.find hnd, h.down]
theorem Alike.trans {a b c : DiskA} (h : Alike a b) (h' : Alike b c) : Alike a c := ⟨h.cap.trans h'.cap, h.files.trans h'.files, h.down.trans h'.down, h.armed.trans h'.armed, h.cnt.trans h'.cnt⟩
theorem Alike.symm {a b : DiskA} (h : Alike a b) : Alike b a := ⟨h.cap.symm, h.files.symm, h.down.symm, h.armed.symm, h.cnt.symm⟩

theorem Alike.act {a b : DiskA} (h : Alike a b) (co : Option Nat) {F G : List FileA} (hp : F.Perm G) : (actA a co F).1 = (actA b co G).1 ∧ Alike (actA a co F).2 (actA b co G).2 := by
  unfold actA
  rw [h.armed, h.cnt]
  split
  · exact ⟨rfl, h.cap, hp, h.down, rfl, rfl⟩
  · split
    · split
      · exact ⟨rfl, h.cap, hp, rfl, rfl, rfl⟩
      · exact ⟨rfl, h.cap, h.files, rfl, rfl, rfl⟩
    · exact ⟨rfl, h.cap, hp, h.down, rfl, rfl⟩

theorem lookC_false (s : DS) (n : ByteArray) : lookRes s.down (nameOk n.data.toList) false (s.fileAt n).isSome = lookC s.abs n false := by unfold lookC; simp [lookRes, DS.abs]
theorem lookC_true (s : DS) (n : ByteArray) : lookRes s.down (nameOk n.data.toList) true (s.fileAt n).isSome = lookC s.abs n true := by unfold lookC; rw [isSome_findA]; rfl

theorem createA_c (s : DS) (n : ByteArray) : createA s n = cCreate s.abs n := by
  unfold createA cCreate
  rw [lookC_false, isSome_findA, len_abs]

theorem syncA_c (s : DS) (n : ByteArray) : syncA s n = cSync s.abs n := by
  unfold syncA cSync
  rw [lookC_true]

theorem deleteA_c (s : DS) (n : ByteArray) : deleteA s n = cDelete s.abs n := by
  unfold deleteA cDelete
  rw [lookC_true]

theorem appendA_c (s : DS) (n : ByteArray) (bs : List UInt8) : appendA s n bs = cAppend s.abs n bs := by
  unfold appendA cAppend
  rw [lookC_false, ← fileAt_findA, ← used_abs, ← cap_abs]
  cases s.fileAt n <;> simp

theorem cCreate_alike {a b : DiskA} (h : Alike a b) (hnd : NamesND a) (n : ByteArray) : (cCreate a n).1 = (cCreate b n).1 ∧ Alike (cCreate a n).2 (cCreate b n).2 := by
  unfold cCreate
  rw [h.look hnd, h.find hnd, h.files.length_eq]
  split
  · exact ⟨rfl, h⟩
  · split
    · exact ⟨rfl, h⟩
    · split
      · exact ⟨rfl, h⟩
      · exact h.act _ (h.files.append_right _)

theorem cSync_alike {a b : DiskA} (h : Alike a b) (hnd : NamesND a) (n : ByteArray) : (cSync a n).1 = (cSync b n).1 ∧ Alike (cSync a n).2 (cSync b n).2 := by
  unfold cSync
  rw [h.look hnd]
  split
  · exact ⟨rfl, h⟩
  · exact h.act _ (h.files.map _)

theorem cDelete_alike {a b : DiskA} (h : Alike a b) (hnd : NamesND a) (n : ByteArray) : (cDelete a n).1 = (cDelete b n).1 ∧ Alike (cDelete a n).2 (cDelete b n).2 := by
  unfold cDelete
  rw [h.look hnd]
  split
  · exact ⟨rfl, h⟩
  · exact h.act _ (h.files.filter _)

theorem cAppend_alike {a b : DiskA} (h : Alike a b) (hnd : NamesND a) (n : ByteArray) (bs : List UInt8) : (cAppend a n bs).1 = (cAppend b n bs).1 ∧ Alike (cAppend a n bs).2 (cAppend b n bs).2 := by
  unfold cAppend
  rw [h.look hnd, h.find hnd, h.cap, sum_perm h.files]
  split
  · exact ⟨rfl, h⟩
  · split
    · exact ⟨rfl, h⟩
    · split
      · exact ⟨rfl, h⟩
      · split
        · exact ⟨rfl, h⟩
        · exact h.act _ (h.files.map _)

theorem sizeC_alike {a b : DiskA} (h : Alike a b) (hnd : NamesND a) (n : ByteArray) : sizeC a n = sizeC b n := by
  unfold sizeC
  rw [h.look hnd, h.find hnd]

theorem sizeRes_c (s : DS) (n : ByteArray) : sizeRes s n = sizeC s.abs n := by
  unfold sizeRes sizeC
  rw [lookC_true, ← fileAt_findA]
  cases s.fileAt n <;> simp [FRec.abs]

/-- A list in order is what Files tells. -/
theorem sorted_fileList {w : World} {s : DS} {r : RS} (hs : s.In w) (h : Alike s.abs r.abs) (hso : Sorted r.F) : r.F.map FV.abs = fileList s := by
  have hp : (r.F.map FV.abs).Perm (fileList s) := h.files.symm.trans (fileList_files_perm hs).symm
  have hnd : ((r.F.map FV.abs).map (·.name)).Nodup := sorted_nodup hso
  have e1 : (r.F.map FV.abs).map (·.name) = r.F.map (·.name) := by rw [List.map_map]; rfl
  have hn1 : ((r.F.map FV.abs).map (·.name)).Pairwise (fun a b => leB a.data.toList b.data.toList = true) := by
    rw [e1]
    refine List.Pairwise.imp (fun hab => ?_) hso
    simp only [leB, decide_eq_true_eq]
    exact List.le_of_lt hab
  have hn2 : ((fileList s).map (·.name)).Pairwise (fun a b => leB a.data.toList b.data.toList = true) := by rw [fileList_names hs]; exact sortNames_sorted _
  have hN : (r.F.map FV.abs).map (·.name) = (fileList s).map (·.name) := by
    refine List.Perm.eq_of_pairwise (le := fun a b => leB a.data.toList b.data.toList = true) (fun a b _ _ h1 h2 => ?_) hn1 hn2 (hp.map _)
    simp only [leB, decide_eq_true_eq] at h1 h2
    have := List.le_antisymm h1 h2
    rw [← toBA_data a, ← toBA_data b, this]
  have hall := filterMap_findA hnd (r.F.map FV.abs) (fun f hf => hf)
  have hall2 := filterMap_findA (l := r.F.map FV.abs) hnd (fileList s) (fun f hf => hp.symm.subset hf)
  rw [← hall, hN, hall2]

end Go.Proofs.YtohpgmeflmppaaaGreat

namespace Go.Proofs.YtohpgmeflmppaaaGreat
set_option linter.unusedVariables false
set_option linter.unusedSimpArgs false
set_option linter.unnecessarySimpa false
set_option linter.unusedSectionVars false
open Go Go.RowKit

theorem renameA_c (s : DS) (n t : ByteArray) : renameA s n t = cRename s.abs n t := by
  unfold renameA cRename
  rw [lookC_false]
  by_cases h : lookC s.abs n false = 0
  · have e : ∀ (x y : Int × DiskA), (if lookC s.abs n false ≠ 0 then x else y) = y := fun x y => if_neg (by simpa using h)
    rw [e, e]
    obtain ⟨hd, hok, -⟩ := lookRes_zero.1 h
    have hl : lookC s.abs t false = if nameOk t.data.toList = false then 40 else 0 := by
      unfold lookC lookRes
      rw [hd]
      cases nameOk t.data.toList <;> simp
    rw [hl]
    cases hn : nameOk t.data.toList with
    | false => simp
    | true =>
      simp only [Bool.true_eq_false, if_false]
      rw [← fileAt_findA]
      cases s.fileAt n <;> simp
  · have e : ∀ (x y : Int × DiskA), (if lookC s.abs n false ≠ 0 then x else y) = x := fun x y => if_pos (by simpa using h)
    rw [e, e]

theorem cRename_alike {a b : DiskA} (h : Alike a b) (hnd : NamesND a) (n t : ByteArray) : (cRename a n t).1 = (cRename b n t).1 ∧ Alike (cRename a n t).2 (cRename b n t).2 := by
  unfold cRename
  rw [h.look hnd n, h.look hnd t, h.find hnd n]
  split
  · exact ⟨rfl, h⟩
  · split
    · exact ⟨rfl, h⟩
    · split
      · exact ⟨rfl, h⟩
      · refine h.act _ ?_
        unfold renameF
        split
        · exact h.files
        · exact ((h.files.filter _).filter _).append_right _

theorem readC_alike {a b : DiskA} (h : Alike a b) (hnd : NamesND a) (n : ByteArray) (p k : Int) : (readC a n p k).1 = (readC b n p k).1 ∧ (readC a n p k).2.1 = (readC b n p k).2.1 ∧ Alike (readC a n p k).2.2 (readC b n p k).2.2 := by
  unfold readC
  rw [h.look hnd n, h.find hnd n]
  split
  · exact ⟨rfl, rfl, h⟩
  · split
    · exact ⟨rfl, rfl, h⟩
    · split
      · exact ⟨rfl, rfl, h⟩
      · exact ⟨rfl, rfl, h.cap, h.files, h.down, h.armed, by rw [h.cnt]⟩

end Go.Proofs.YtohpgmeflmppaaaGreat

namespace Go.Proofs.YtohpgmeflmppaaaGreat
set_option linter.unusedVariables false
set_option linter.unusedSimpArgs false
set_option linter.unnecessarySimpa false
set_option linter.unusedSectionVars false
open Go Go.RowKit

theorem run_append_data2 {w : World} {v src : Value} {bs news : List UInt8} (hd : DataIs w v bs) (hs : BytesAt w src news) (hlen : bs.length + news.length ≤ 1073741824) (ty : TypeId) :
    ∃ v' w', (Builtin.append_ #[38, 38] ty #[v, src]).run Tryz.prog w = .ok v' w' ∧ DataIs w' v' (bs ++ news) ∧ Upd (fun k => v.ownBlock = some k) w w' ∧ (∀ k, v'.ownBlock = some k → v.ownBlock = some k ∨ w.heap.size ≤ k) ∧ (v'.ownBlock = v.ownBlock ∨ Upd (fun _ => False) w w') := by
  obtain ⟨i0, hi, hz0, hz1, hz2⟩ := info_parts Tryz.infoByte
  obtain ⟨ao, scap, rfl, hn0, hc⟩ := hs
  have h1 : ∀ u ∈ news.map byteV, u.oneCell' = true := by intro u hu; obtain ⟨b, _, rfl⟩ := List.mem_map.1 hu; rfl
  rcases hd with ⟨rfl, rfl⟩ | ⟨g, cap, cur, rfl, hg, hnc, hcs, hcm, htake⟩
  · -- nil
    cases ao with
    | none =>
      obtain ⟨rfl, rfl⟩ := hn0 rfl
      have hr := run_append_owned_none (P := Tryz.prog) (w := w) 0 38 ty 5 i0 1 Tryz.underlying38 hi (.slice none 0 0) 0 [] (World.ownsRow_nil _ _ _ _)
      exact ⟨_, w, hr, .inl ⟨rfl, rfl⟩, Upd.refl _ _, by simp [Value.ownBlock], .inl rfl⟩
    | some a =>
      obtain ⟨v', w', hr, hown, hgr, -⟩ := run_append_own (P := Tryz.prog) w w.heap.size 38 ty 5 i0 (.int .u8 0) 1 1 Tryz.underlying38 hi hz0 hz1 hz2 rfl (by decide) (.slice none 0 0) 0 [] (World.ownsRow_nil _ _ _ _) a news.length scap (news.map byteV) (by simp) (hc a rfl) h1 (by unfold maxLen; omega) (by omega) (Nat.le_refl _)
      refine ⟨v', w', hr, ?_, (Upd.refl _ _).grown hgr (fun k hk _ => by simp [Value.ownBlock] at hk), fun k hk => .inr (hown.lt k hk).1, .inr ((Upd.refl _ _).grown hgr (fun k hk _ => by simp [Value.ownBlock] at hk))⟩
      rw [List.nil_append] at hown ⊢
      rw [Nat.zero_add] at hown
      exact DataIs.of_owns hown
  · have hlt := lt_of_heap hg
    by_cases hroom : bs.length + news.length ≤ cap
    · cases ao with
      | none =>
        obtain ⟨rfl, rfl⟩ := hn0 rfl
        have hr : (Builtin.append_ #[38, 38] ty #[.slice (some ⟨g, 0, none⟩) bs.length cap, .slice none ([] : List UInt8).length 0]).run Tryz.prog w = .ok (.slice (some ⟨g, 0, none⟩) bs.length cap) w := by
          have hnc' : bs.length ≤ cap := hnc
          simp [Builtin.append_, run_underlying Tryz.underlying38, sizeOf, typeInfo, hi, Builtin.lenOf, hnc', run_firstCells_none, storeCells]
        exact ⟨_, w, hr, by rw [List.append_nil]; exact .inr ⟨g, cap, cur, rfl, hg, hnc, hcs, hcm, htake⟩, Upd.refl _ _, fun k hk => .inl hk, .inl rfl⟩
      | some a =>
        have hr := run_append_room (P := Tryz.prog) w 38 ty 5 i0 Tryz.underlying38 hi g bs.length cap cur hg a news.length scap (news.map byteV) (by simp [hz1]) (hc a rfl) h1 hroom (by simp [hz1]; omega)
        refine ⟨_, _, hr, ?_, ?_, fun k hk => .inl hk, .inl rfl⟩
        · refine .inr ⟨g, cap, (cur.toList.take (bs.length * i0.size) ++ news.map byteV ++ cur.toList.drop (bs.length * i0.size + (news.map byteV).length)).toArray, by rw [List.length_append], ?_, by rw [List.length_append]; exact hroom, ?_, hcm, ?_⟩
          · simp only [World.setRow, Array.getElem?_modify, if_pos, hg, Option.map_some]
          · simp [hz1]; omega
          · simp only [hz1, Nat.mul_one]
            rw [htake, List.length_append, List.map_append]
            rw [List.take_append_of_le_length (by simp)]
            rw [List.take_of_length_le (by simp)]
        · refine ⟨rfl, rfl, rfl, by simp, fun k hk hn => ?_⟩
          simp only [World.setRow, Array.getElem?_modify]
          rw [if_neg (fun e => hn (by simp [Value.ownBlock, e]))]
    · cases ao with
      | none =>
        obtain ⟨rfl, rfl⟩ := hn0 rfl
        exact absurd hnc (by simpa using hroom)
      | some a =>
        have holds : ∀ j u, (bs.map byteV)[j]? = some u → w.cell? ((⟨g, 0, none⟩ : Addr).add j) = some u := by
          intro j u hu
          rw [show (Addr.add ⟨g, 0, none⟩ j : Addr) = ⟨g, j, none⟩ from by simp [Addr.add_lit], cell_of_row w g j cur _ _ hg, ← Array.getElem?_toList]
          rw [← htake, List.getElem?_take] at hu
          split at hu
          · exact hu
          · cases hu
        have hr := run_append_grow (P := Tryz.prog) w 38 ty 5 i0 (.int .u8 0) Tryz.underlying38 hi hz0 ⟨g, 0, none⟩ bs.length cap (bs.map byteV) (by simp [hz1]) holds a news.length scap (news.map byteV) (by simp [hz1]) (hc a rfl) (by omega) (by omega)
          (by rw [hz2, Nat.mul_one]; exact nextcap_small hlen (by omega))
        have hge := grownCap_ge w (bs.length + news.length) cap 5
        have hle := grownCap_le_maxLen w (bs.length + news.length) cap 5 (by unfold maxLen; omega)
        refine ⟨_, _, hr, ?_, ((Upd.refl _ _).drew).alloc _, fun k hk => .inr (by simp only [Value.ownBlock, Option.some.injEq] at hk; omega), .inr (((Upd.refl _ _).drew).alloc _)⟩
        refine .inr ⟨w.heap.size, _, _, by rw [List.length_append], heap_alloc_new w.drew _, by rw [List.length_append]; exact hge, ?_, hle, ?_⟩
        · simp [size_zeroCells, Value.cells]; omega
        · simp only [Array.toList_append, List.append_assoc, List.length_append, List.map_append]
          rw [← List.append_assoc, List.take_append_of_le_length (by simp), List.take_of_length_le (by simp)]

/-- v reads as bytes that are all m. -/
def Full (w : World) (v : Value) (m : UInt8) : Prop :=
  ∃ ao n c, v = .slice ao n c ∧ n ≤ c ∧ c ≤ 9223372036854775807 ∧ ∀ i, i < n → ∃ g o, ao = some ⟨g, o, none⟩ ∧ g < w.heap.size ∧ w.cell? ⟨g, o + i, none⟩ = some (byteV m)

theorem Full.upd {S : Nat → Prop} {w w' : World} {v : Value} {m : UInt8} (h : Full w v m) (hu : Upd S w w') (hn : ∀ k, v.ownBlock = some k → ¬ S k) : Full w' v m := by
  obtain ⟨ao, n, c, rfl, h1, h2, h3⟩ := h
  refine ⟨ao, n, c, rfl, h1, h2, fun i hi => ?_⟩
  obtain ⟨g, o, rfl, hg, hc⟩ := h3 i hi
  exact ⟨g, o, rfl, Nat.lt_of_lt_of_le hg hu.size, (World.cell?_of_block (a := ⟨g, o + i, none⟩) (hu.block g hg (hn g rfl))).trans hc⟩

theorem DataIs.full {w : World} {v : Value} {n : Nat} {m : UInt8} (h : DataIs w v (List.replicate n m)) : Full w v m := by
  have hlt := h.lt
  obtain ⟨ao, cap, hv, hle, hm, hn, hs⟩ := h.shape
  refine ⟨ao, n, cap, by rw [hv]; simp, by simpa using hle, by simpa [maxLen] using hm, fun i hi => ?_⟩
  cases ao with
  | none => have := (hn rfl).1; simp at this; omega
  | some a =>
    obtain ⟨h1, h2, h3, h4⟩ := hs a rfl
    obtain ⟨g, o, s⟩ := a
    simp only at h1 h2 h3 h4
    subst h1 h2
    refine ⟨g, 0, rfl, hlt g h3, ?_⟩
    have := h4 i (by simpa using hi)
    rw [Nat.zero_add]
    simpa using this

/-- A byte of a list is written. -/
theorem DataIs.setAt {w : World} {g cap k : Nat} {bs : List UInt8} (h : DataIs w (.slice (some ⟨g, 0, none⟩) bs.length cap) bs) (hk : k < bs.length) (m : UInt8) :
    DataIs (w.setCell ⟨g, k, none⟩ (byteV m)) (.slice (some ⟨g, 0, none⟩) bs.length cap) (bs.set k m) := by
  rcases h with ⟨e, _⟩ | ⟨g', cap', cur, e, h1, h2, h3, h4, h5⟩
  · cases e
  · injection e with e1 _ e3
    injection e1 with e1; injection e1 with e1
    subst e1 e3
    refine .inr ⟨g, cap, cur.setIfInBounds k (byteV m), by simp, heap_setCell_at _ _ _ _ _ _ h1, by simpa using h2, by simpa using h3, h4, ?_⟩
    rw [List.length_set, List.map_set, Array.toList_setIfInBounds, List.take_set, h5]

theorem DataIs.c_at {w : World} {g cap k : Nat} {bs : List UInt8} (h : DataIs w (.slice (some ⟨g, 0, none⟩) bs.length cap) bs) (hk : k < bs.length) : w.cell? ⟨g, k, none⟩ = some (byteV bs[k]) ∧ w.frozen? ⟨g, k, none⟩ = false ∧ g < w.heap.size := by
  refine ⟨?_, ?_, h.lt g rfl⟩
  · obtain ⟨ao, cp, he, -, -, -, hs⟩ := h.shape
    injection he with e1 _ _
    subst e1
    exact (hs _ rfl).2.2.2 k hk
  · rcases h with ⟨e, _⟩ | ⟨g', cap', cur, e, h1, -⟩
    · cases e
    · injection e with e1 _ _; injection e1 with e1; injection e1 with e1; subst e1
      exact frozen_of_row _ _ _ _ _ h1

theorem set_replicate {bs : List UInt8} {k : Nat} (hk : k < bs.length) (m : UInt8) : (List.replicate k m ++ bs.drop k).set k m = List.replicate (k + 1) m ++ bs.drop (k + 1) := by
  rw [List.drop_eq_getElem_cons hk]
  have h := set_middle (List.replicate k m) bs[k] m (bs.drop (k + 1))
  rw [List.length_replicate] at h
  rw [h, List.replicate_succ', List.append_assoc]
  rfl

/-- The book as it lies in memory. -/
structure BK where
  ls : List (Value × UInt8)
  lv : Value
  mv : Value
  n : Int

def BK.blk (b : BK) (k : Nat) : Prop := b.lv.ownBlock = some k ∨ b.mv.ownBlock = some k ∨ ∃ x ∈ b.ls, x.1.ownBlock = some k

structure BookAt (w : World) (b : BK) : Prop where
  lists : w.ownsRow 0 38 1 b.lv b.ls.length (b.ls.map Prod.fst)
  marks : DataIs w b.mv (b.ls.map Prod.snd)
  full : ∀ x ∈ b.ls, Full w x.1 x.2
  apart : ∀ k, b.lv.ownBlock = some k → ¬ b.mv.ownBlock = some k ∧ ∀ x ∈ b.ls, ¬ x.1.ownBlock = some k
  apart2 : ∀ k, b.mv.ownBlock = some k → ∀ x ∈ b.ls, ¬ x.1.ownBlock = some k
  lt : ∀ k, b.blk k → k < w.heap.size
  few : b.ls.length * 35 ≤ 16777216
  less : ((b.ls.length * 35 : Nat) : Int) ≤ b.n
  pos : 0 ≤ b.n

theorem BookAt.upd {S : Nat → Prop} {w w' : World} {b : BK} (h : BookAt w b) (hu : Upd S w w') (hn : ∀ k, b.blk k → ¬ S k) : BookAt w' b :=
  ⟨owns_upd h.lists hu (fun k hk => hn k (.inl hk)), h.marks.upd hu (fun k hk => hn k (.inr (.inl hk))), fun x hx => (h.full x hx).upd hu (fun k hk => hn k (.inr (.inr ⟨x, hx, hk⟩))), h.apart, h.apart2, fun k hk => Nat.lt_of_lt_of_le (h.lt k hk) hu.size, h.few, h.less, h.pos⟩

theorem Tryz.infoBytes : (Tryz.prog.info? 38).map (fun i => (i.zero, i.size, i.bytes)) = some (some (.slice none 0 0), 1, 24) := by kernel_rfl

/-- Two lists join the list of lists. -/
theorem run_append_lists {w : World} {lv a b : Value} {n : Nat} {xs : List Value} (h : w.ownsRow 0 38 1 lv n xs) (hn : n ≤ 1000000) (ha : a.oneCell' = true) (hb : b.oneCell' = true) (ty : TypeId) :
    ∃ v' w', (Builtin.append_ #[27, 27] ty #[lv, .slice (some ⟨w.heap.size, 0, none⟩) 2 2]).run Tryz.prog (w.alloc (.cells #[a, b] 38)) = .ok v' w' ∧ w'.ownsRow 0 38 1 v' (n + 2) (xs ++ [a, b]) ∧
      Upd (fun k => lv.ownBlock = some k) w w' ∧ (∀ k, v'.ownBlock = some k → lv.ownBlock = some k ∨ w.heap.size ≤ k) := by
  obtain ⟨i0, hi, hz0, hz1, hz2⟩ := info_parts Tryz.infoBytes
  obtain ⟨v', w', hr, hown, hgr, -, hat⟩ := run_append_own_at (P := Tryz.prog) (w.alloc (.cells #[a, b] 38)) 0 27 ty 38 i0 _ 1 24 Tryz.underlying27 hi hz0 hz1 hz2 rfl (by omega) lv n xs
    ((owns_upd (S := fun _ => False) h (Upd.refl _ _) (fun _ _ h => h)).alloc _) ⟨w.heap.size, 0, none⟩ 2 2 [a, b] rfl (by
      intro j u hu
      have hb0 := heap_alloc_new w (.cells #[a, b] 38)
      match j, hu with
      | 0, hu => simp at hu; subst hu; rw [show (Addr.add ⟨w.heap.size, 0, none⟩ 0 : Addr) = ⟨w.heap.size, 0, none⟩ from by simp [Addr.add], cell_of_row _ _ 0 _ _ _ hb0]; rfl
      | 1, hu => simp at hu; subst hu; rw [show (Addr.add ⟨w.heap.size, 0, none⟩ 1 : Addr) = ⟨w.heap.size, 1, none⟩ from by simp [Addr.add], cell_of_row _ _ 1 _ _ _ hb0]; rfl
      | j + 2, hu => simp at hu) (by
      intro u hu
      simp only [List.mem_cons, List.not_mem_nil, or_false] at hu
      rcases hu with rfl | rfl
      · exact ha
      · exact hb) (by unfold maxLen; omega) (by omega) (Nat.zero_le _)
  refine ⟨v', w', hr, hown, ((Upd.refl _ _).alloc _).grown hgr (fun k hk _ => hk), fun k hk => ?_⟩
  rcases hat with h1 | h1
  · exact .inl (h1 ▸ hk)
  · rw [h1] at hk
    right
    simp at hk
    omega

theorem bytes_new (w : World) (ms : List UInt8) : BytesAt (w.alloc (.cells (ms.map byteV).toArray 5)) (.slice (some ⟨w.heap.size, 0, none⟩) ms.length ms.length) ms := by
  refine ⟨some ⟨w.heap.size, 0, none⟩, ms.length, rfl, (fun h => by cases h), fun a ha j u hu => ?_⟩
  cases ha
  rw [show (Addr.add ⟨w.heap.size, 0, none⟩ j : Addr) = ⟨w.heap.size, j, none⟩ from by simp [Addr.add_lit], cell_of_row _ _ j _ _ _ (heap_alloc_new w _)]
  rw [← Array.getElem?_toList]
  exact hu

/-- A list of one byte all over grows by one more; what it was made of reads as before. -/
theorem grow_step {w : World} {ao : Option Addr} {n c L : Nat} {gv : Value} {m : UInt8} (hd : DataIs w gv (List.replicate L m)) (hf : Full w (.slice ao n c) m) (hz : ∀ a, ao = some a → a.off = 0 ∧ a.spot = none) (hn : n ≤ L) (hL : L ≤ 1000000000) (ty : TypeId) :
    ∃ gv' w', (Builtin.append_ #[38, 38] ty #[gv, .slice (some ⟨w.heap.size, 0, none⟩) 1 1]).run Tryz.prog (w.alloc (.cells #[byteV m] 5)) = .ok gv' w' ∧ DataIs w' gv' (List.replicate (L + 1) m) ∧ Full w' (.slice ao n c) m ∧
      Upd (fun k => gv.ownBlock = some k) w w' ∧ ∀ k, gv'.ownBlock = some k → gv.ownBlock = some k ∨ w.heap.size ≤ k := by
  have hal : Upd (fun _ => False) w (w.alloc (.cells #[byteV m] 5)) := (Upd.refl _ _).alloc _
  obtain ⟨gv', w', hr, hd', hu, hat, hor⟩ := run_append_data2 (w := w.alloc (.cells #[byteV m] 5)) (hd.upd hal (fun _ _ h => h)) (bytes_new w [m]) (by simp; omega) ty
  have hrep : List.replicate L m ++ [m] = List.replicate (L + 1) m := by rw [List.replicate_succ']
  rw [hrep] at hd'
  have hu2 : Upd (fun k => gv.ownBlock = some k) w w' := (hal.mono (T := fun k => gv.ownBlock = some k) (fun _ _ h => h.elim)).trans hu (fun _ _ h => h)
  refine ⟨gv', w', hr, hd', ?_, hu2, fun k hk => (hat k hk).elim .inl (fun h => .inr (by simp at h; omega))⟩
  by_cases hsame : (Value.slice ao n c).ownBlock = gv.ownBlock
  · rcases hor with h1 | h1
    · cases ao with
      | none => exact hf.upd hu2 (fun k hk => by cases hk)
      | some a =>
        obtain ⟨z1, z2⟩ := hz a rfl
        obtain ⟨g, o, s⟩ := a
        simp only at z1 z2
        subst z1 z2
        have hg : gv'.ownBlock = some g := by rw [h1, ← hsame]; rfl
        obtain ⟨ao', n', c', e1, e2, e3, e4⟩ := hf
        obtain ⟨ga, na, ca, f1, f2, f3, f4⟩ := hd'.full
        injection e1 with i1 i2 i3
        subst i1 i2 i3
        obtain ⟨xo, xc, x1, -, -, -, x4⟩ := hd'.shape
        rw [f1] at x1
        injection x1 with j1 j2 j3
        have hna : na = L + 1 := by simpa using j2
        refine ⟨_, n, c, rfl, e2, e3, fun i hi => ?_⟩
        obtain ⟨gg, oo, q1, q2, q3⟩ := f4 i (by omega)
        rw [q1] at f1
        have hgg : gg = g := by rw [f1] at hg; simpa [Value.ownBlock] using hg
        have hoo : oo = 0 := by have := (x4 ⟨gg, oo, none⟩ (by rw [← j1, q1])).1; exact this
        subst hgg hoo
        exact ⟨gg, 0, rfl, q2, q3⟩
    · exact hf.upd ((hal).trans h1 (fun _ _ h => h)) (fun _ _ h => h)
  · exact hf.upd hu2 (fun k hk e => hsame (by rw [hk, e]))

end Go.Proofs.YtohpgmeflmppaaaGreat
