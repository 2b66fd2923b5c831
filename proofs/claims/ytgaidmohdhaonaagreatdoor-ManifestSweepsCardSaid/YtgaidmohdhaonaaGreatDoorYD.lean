/-
  Package cell, walked: parse.
  Package cell, walked: ParseKey.
-/
import Derived.Test.YtgaidmohdhaonaaGreatDoorYC
import Derived.Deep.RegionHeld3
namespace Go.Proofs.YtgaidmohdhaonaaGreatDoor
set_option linter.unusedVariables false
set_option linter.unusedSimpArgs false
set_option linter.unnecessarySimpa false
set_option linter.unusedSectionVars false
open Go Go.RowKit

theorem PW.set0 {w W : World} {p2 p4 : Nat} {r q : Value} {f t s k : Int} (h : PW w W p2 p4 r f q t s k) (v : Value) : PW w (W.setCell ⟨p4, 0, none⟩ v) p2 p4 v f q t s k :=
  ⟨h.upd.setCell (fun e => by have h1 : p4 < w.heap.size := e; have := h.n4; omega) _, (heap_setCell_ne _ _ _ _ h.ne).trans h.h2, (heap_setCell_at _ _ 0 _ _ _ h.h4).trans (by simp [entC]), h.n2, h.n4, h.ne⟩
theorem PW.set1 {w W : World} {p2 p4 : Nat} {r q : Value} {f t s k : Int} (h : PW w W p2 p4 r f q t s k) (v : Int) : PW w (W.setCell ⟨p4, 1, none⟩ (.int .i64 v)) p2 p4 r v q t s k :=
  ⟨h.upd.setCell (fun e => by have h1 : p4 < w.heap.size := e; have := h.n4; omega) _, (heap_setCell_ne _ _ _ _ h.ne).trans h.h2, (heap_setCell_at _ _ 1 _ _ _ h.h4).trans (by simp [entC]), h.n2, h.n4, h.ne⟩
theorem PW.set2 {w W : World} {p2 p4 : Nat} {r q : Value} {f t s k : Int} (h : PW w W p2 p4 r f q t s k) (v : Value) : PW w (W.setCell ⟨p4, 2, none⟩ v) p2 p4 r f v t s k :=
  ⟨h.upd.setCell (fun e => by have h1 : p4 < w.heap.size := e; have := h.n4; omega) _, (heap_setCell_ne _ _ _ _ h.ne).trans h.h2, (heap_setCell_at _ _ 2 _ _ _ h.h4).trans (by simp [entC]), h.n2, h.n4, h.ne⟩
theorem PW.set3 {w W : World} {p2 p4 : Nat} {r q : Value} {f t s k : Int} (h : PW w W p2 p4 r f q t s k) (v : Int) : PW w (W.setCell ⟨p4, 3, none⟩ (.int .i64 v)) p2 p4 r f q v s k :=
  ⟨h.upd.setCell (fun e => by have h1 : p4 < w.heap.size := e; have := h.n4; omega) _, (heap_setCell_ne _ _ _ _ h.ne).trans h.h2, (heap_setCell_at _ _ 3 _ _ _ h.h4).trans (by simp [entC]), h.n2, h.n4, h.ne⟩
theorem PW.set4 {w W : World} {p2 p4 : Nat} {r q : Value} {f t s k : Int} (h : PW w W p2 p4 r f q t s k) (v : Int) : PW w (W.setCell ⟨p4, 4, none⟩ (.int .i64 v)) p2 p4 r f q t v k :=
  ⟨h.upd.setCell (fun e => by have h1 : p4 < w.heap.size := e; have := h.n4; omega) _, (heap_setCell_ne _ _ _ _ h.ne).trans h.h2, (heap_setCell_at _ _ 4 _ _ _ h.h4).trans (by simp [entC]), h.n2, h.n4, h.ne⟩
theorem PW.set5 {w W : World} {p2 p4 : Nat} {r q : Value} {f t s k : Int} (h : PW w W p2 p4 r f q t s k) (v : Int) : PW w (W.setCell ⟨p4, 5, none⟩ (.int .i64 v)) p2 p4 r f q t s v :=
  ⟨h.upd.setCell (fun e => by have h1 : p4 < w.heap.size := e; have := h.n4; omega) _, (heap_setCell_ne _ _ _ _ h.ne).trans h.h2, (heap_setCell_at _ _ 5 _ _ _ h.h4).trans (by simp [entC]), h.n2, h.n4, h.ne⟩

/-- Bytes that lie apart from parse's variables. -/
structure RB (W : World) (v : Value) (bs : List UInt8) (p2 p4 : Nat) : Prop where
  bat : BAt W v bs
  own : ∀ k, v.ownBlock = some k → k ≠ p2 ∧ k ≠ p4

theorem RB.keep {W W' : World} {v : Value} {bs : List UInt8} {p2 p4 : Nat} (h : RB W v bs p2 p4) (hu : Upd (fun _ => False) W W') : RB W' v bs p2 p4 := ⟨h.bat.keep hu, h.own⟩
theorem RB.set {W : World} {v : Value} {bs : List UInt8} {p2 p4 : Nat} (h : RB W v bs p2 p4) (j : Nat) (u : Value) : RB (W.setCell ⟨p4, j, none⟩ u) v bs p2 p4 :=
  ⟨h.bat.upd (Upd.cell_only W p4 j u) (fun k hk _ e => (h.own k hk).2 e), h.own⟩
theorem RB.nil (W : World) (p2 p4 : Nat) : RB W (.slice none 0 0) [] p2 p4 := ⟨(NewB.nil W).data.bat, fun k e => (by cases e)⟩

theorem readF_le {b : List UInt8} {a : Nat} (ha : a ≤ b.length) (h : (readF b a).2.2 = 0) : (readF b a).2.1 ≤ b.length := by
  unfold readF at h ⊢
  split at h
  · simp at h
  · rename_i h1
    rw [if_neg h1]
    split at h
    · simp at h
    · rename_i h2
      rw [if_neg h2]
      show a + 8 ≤ _
      omega

theorem BAt.at_getD {w : World} {g o n cap : Nat} {bs : List UInt8} (h : BAt w (.slice (some ⟨g, o, none⟩) n cap) bs) {j : Nat} (hj : j < bs.length) : w.cell? ⟨g, o + j, none⟩ = some (.int .u8 (((bs.getD j 0).toNat : Nat) : Int)) := by
  rw [(h.at_ hj).1, List.getD_eq_getElem?_getD, List.getElem?_eq_getElem hj]
  rfl

set_option maxRecDepth 100000 in
set_option maxHeartbeats 12800000 in
theorem parse_any {w : World} {v : Value} {b : List UInt8} (hv : BAt w v b) (hl : b.length ≤ 140737488351232) :
    Calls Tryz.prog 208 #[v] w fun e w' => ∃ a1 n1 c1 f a2 n2 c2 t s k, e = .returned (.tuple #[.agg (entC (.slice a1 n1 c1) f (.slice a2 n2 c2) t s k), .bool (parseP b).isSome]) ∧ Upd (fun _ => False) w w' ∧ ∀ ent p, parseP b = some (ent, p) → EntAt w' (.agg (entC (.slice a1 n1 c1) f (.slice a2 n2 c2) t s k)) ent := by
  have HV := hid hv
  have HRO := hid (readOrdered_any (hv.keep (PW.start w).upd) (a := 0) (Nat.zero_le _) hl)
  have HPW0 := hid (PW.start w)
  obtain ⟨ao, cap, rfl, h1, h2, -, -⟩ := hv
  obtain ⟨O, hO⟩ : ∃ O, O = parseP b := ⟨_, rfl⟩
  rw [← hO]
  unfold parseP at hO
  have HRB := hid (fun h : (readO b 0).2.2 = 0 => readO_back h)
  generalize (readO b 0).1 = row at hO HRO HRB
  generalize (readO b 0).2.1 = p at hO HRO HRB
  generalize (readO b 0).2.2 = er at hO HRO HRB
  have HOO := hid hO
  clear hO
  go_enter Tryz.func208, Tryz.ntmps208
  go_wp2_with fail
  refine HRO.out.mono ?_
  rintro e W ⟨v3, rfl, hn3⟩
  obtain ⟨ao3, c3, hv3, -, -⟩ := hn3.shape
  obtain ⟨nr, hnr⟩ : ∃ nr, nr = row.length := ⟨_, rfl⟩
  rw [← hnr] at hv3
  subst hv3
  have HNR := hid hnr
  clear hnr
  have HPW := hid (HPW0.out.keep hn3.upd)
  have HN3 := hid hn3
  obtain ⟨p2, hp2⟩ : ∃ p2, p2 = w.heap.size := ⟨_, rfl⟩
  obtain ⟨p4, hp4⟩ : ∃ p4, p4 = w.heap.size + 1 := ⟨_, rfl⟩
  have hown : ∀ k, (Value.slice ao3 nr c3).ownBlock = some k → k ≠ p2 ∧ k ≠ p4 := fun k hk => by
    have h1 := hn3.new k hk
    have h2 : ((w.alloc (.cells (entC (.slice none 0 0) 0 (.slice none 0 0) 0 0 0) 215)).alloc (.cells (entC (.slice none 0 0) 0 (.slice none 0 0) 0 0 0) 215)).heap.size = w.heap.size + 1 + 1 := by simp
    rw [h2] at h1
    omega
  have HROW := hid (show RB W (.slice ao3 nr c3) row p2 p4 from ⟨hn3.data.bat, hown⟩)
  clear hown
  rw [← hp4, ← hp2] at HPW
  rw [← hp4, ← hp2]
  have hne : p2 ≠ p4 := HPW.out.ne
  have hne' : p4 ≠ p2 := hne.symm
  clear hn3 HPW0 HRO hp2 hp4
  obtain ⟨⟨a0, a1, a2, a3, a4, a5, a6⟩, ⟨b0, b1, b2, b3, b4, b5, b6⟩, ⟨z0, z1, z2, z3, z4, z5, z6⟩, l2, l4⟩ := HPW.out.cells
  have y0 := frozen_of_row W p4 0 _ _ HPW.out.h4
  have y1 := frozen_of_row W p4 1 _ _ HPW.out.h4
  have y2 := frozen_of_row W p4 2 _ _ HPW.out.h4
  have y3 := frozen_of_row W p4 3 _ _ HPW.out.h4
  have y4 := frozen_of_row W p4 4 _ _ HPW.out.h4
  have y5 := frozen_of_row W p4 5 _ _ HPW.out.h4
  by_cases her : er = 0
  · have heri : (er != 0) = false := by simp; exact her
    by_cases hlen : b.length < p + 2
    · have HF := hid (show O = none from by rw [HOO.out, if_pos (.inr hlen)])
      have hpw2 : IntKind.i64.wrap ((p : Int) + 2) = (p : Int) + 2 := by have := (HRB.out her).2.2; rw [IntKind.wrap_i64]; omega
      have hli : (b.length : Int) < (p : Int) + 2 := by omega
      clear her hlen
      have HO := hid HPW.out.out
      go_wp2
      (try simp only [Exit.inBlock, Exit.then])
      refine bodyPost_ret (results_ent rfl _ _ p2 _ rfl rfl HO.out.1) rfl ?_
      exact ⟨_, _, _, _, _, _, _, _, _, _, by rw [HF.out]; rfl, HO.out.2.1, fun ent p e => by rw [HF.out] at e; cases e⟩
    · have HO1 := hid (show O = _ from by rw [HOO.out, if_neg (by omega)])
      have hli : ¬ (b.length : Int) < (p : Int) + 2 := by omega
      obtain ⟨g, o, rfl, hgw, -⟩ := HV.out.cell (j := p) (by omega)
      have dp := (HV.out.keep HPW.out.upd).at_getD (j := p) (by omega)
      generalize b.getD p 0 = c at dp HO1
      have hc8 := c.toNat_lt
      have hpl2 : p + 2 ≤ b.length := by omega
      have hgp4 : g ≠ p4 := by have := HPW.out.n4; omega
      have hgp2 : g ≠ p2 := by have := HPW.out.n2; omega
      clear her hlen
      have wpp : IntKind.i64.wrap ((p : Int)) = (p : Int) := by rw [IntKind.wrap_i64]; omega
      have pi0 : (0 : Int) ≤ (p : Int) := by omega
      have pil : (p : Int) < (b.length : Int) := by omega
      have hd0 : PW w W.drew p2 p4 _ _ _ _ _ _ := HPW.out.keep (Upd.refl _ W).drew
      have f0 := frozen_of_row W.drew p4 0 _ _ hd0.h4
      have f1 := frozen_of_row (W.drew.setCell ⟨p4, 0, none⟩ (.slice ao3 nr c3)) p4 1 _ _ (hd0.set0 (.slice ao3 nr c3)).h4
      have f2 := hd0.cells.1.1
      have f3 := (hd0.set0 (.slice ao3 nr c3)).cells.1.2.1
      have f4 : W.drew.cell? ⟨g, o + p, none⟩ = some (.int .u8 c.toNat) := dp
      have f5 := hd0.cells.2.2.2.2
      clear hd0
      go_upto_region 5 with fail
      go_region
      have HPW5 := hid (((HPW.out.set0 (.slice ao3 nr c3)).set1 c.toNat).keep (Upd.refl _ _).drew)
      have HROW5 := hid (((HROW.out.set 0 (.slice ao3 nr c3)).set 1 (.int .i64 c.toNat)).keep (Upd.refl _ _).drew)
      clear f0 f1 f2 f3 f4 f5
      clear a0 a1 a2 a3 a4 a5 a6 b0 b1 b2 b3 b4 b5 b6 z0 z1 z2 z3 z4 z5 z6 l2 l4 y0 y1 y2 y3 y4 y5
      generalize (((W.setCell ⟨p4, 0, none⟩ (.slice ao3 nr c3)).setCell ⟨p4, 1, none⟩ (.int .i64 c.toNat)).drew) = W5 at HPW5 HROW5 ⊢
      have dp1 := (HV.out.keep HPW5.out.upd).at_getD (j := p + 1) (by omega)
      generalize b.getD (p + 1) 0 = d at dp1 HO1
      have hd8 := d.toNat_lt
      clear HPW HROW dp HN3
      rename Hid (PW w W5 p2 p4 _ _ _ _ _ _) => HPW
      rename Hid (RB W5 _ row p2 p4) => HROW
      by_cases hdz : d.toNat = 0
      · have hdi : ((d.toNat : Int) != 0) = false := by simp; exact hdz
        have HO3 := hid (show O = _ from by rw [HO1.out, if_pos hdz])
        have hat : p + 2 ≤ b.length := by omega
        have HQ := hid (RB.nil W5 p2 p4)
        clear HO1 hdz
        rename Hid (O = _) => HO1
        have HF1 := hid (readFalling_any (HV.out.keep HPW.out.upd) hat hl)
        have HLE := hid (fun h : (readF b (p + 2)).2.2 = 0 => readF_le hat h)
        unfold parseT at HO1
        generalize readF b (p + 2) = R1 at HF1 HO1 HLE
        obtain ⟨t1, at1, e1⟩ := R1
        simp only at HF1 HO1 HLE
        clear hat
        go_wp2_with fail
        refine HF1.out.mono ?_
        rintro e W8 ⟨rfl, hww⟩
        obtain rfl := hww.symm
        obtain ⟨⟨a0, a1, a2, a3, a4, a5, a6⟩, ⟨b0, b1, b2, b3, b4, b5, b6⟩, ⟨z0, z1, z2, z3, z4, z5, z6⟩, l2, l4⟩ := HPW.out.cells
        have y0 := frozen_of_row W5 p4 0 _ _ HPW.out.h4
        have y1 := frozen_of_row W5 p4 1 _ _ HPW.out.h4
        have y2 := frozen_of_row W5 p4 2 _ _ HPW.out.h4
        have y3 := frozen_of_row W5 p4 3 _ _ HPW.out.h4
        have y4 := frozen_of_row W5 p4 4 _ _ HPW.out.h4
        have y5 := frozen_of_row W5 p4 5 _ _ HPW.out.h4
        have hd3 := HPW.out.set3 t1
        have HR8 := hid (HROW.out.set 3 (.int .i64 t1))
        have HQ8 := hid (HQ.out.set 3 (.int .i64 t1))
        have HPW8 := hid hd3
        clear hd3
        by_cases he1 : e1 = 0
        · have he1n : (e1 != 0) = false := by simp; exact he1
          have HO2 := hid (show O = _ from by rw [HO1.out, if_neg (by simpa using he1)])
          have hat1 : at1 ≤ b.length := HLE.out he1
          clear he1
          go_upto_region 18 with fail
          clear a0 a1 a2 a3 a4 a5 a6 b0 b1 b2 b3 b4 b5 b6 z0 z1 z2 z3 z4 z5 z6 l2 l4 y0 y1 y2 y3 y4 y5
          generalize W5.setCell ⟨p4, 3, none⟩ (.int .i64 (t1 : Int)) = W9 at HPW8 HR8 HQ8 ⊢
          have HG1 := hid (readFalling_any (HV.out.keep HPW8.out.upd) hat1 hl)
          have HLE2 := hid (fun h : (readF b at1).2.2 = 0 => readF_le hat1 h)
          generalize readF b at1 = R2 at HG1 HO2 HLE2
          obtain ⟨t2, at2, e2⟩ := R2
          simp only at HG1 HO2 HLE2
          clear hat1
          go_wp2_with fail
          refine HG1.out.mono ?_
          rintro e W10 ⟨rfl, hww⟩
          obtain rfl := hww.symm
          obtain ⟨⟨a0, a1, a2, a3, a4, a5, a6⟩, ⟨b0, b1, b2, b3, b4, b5, b6⟩, ⟨z0, z1, z2, z3, z4, z5, z6⟩, l2, l4⟩ := HPW8.out.cells
          have y0 := frozen_of_row W9 p4 0 _ _ HPW8.out.h4
          have y1 := frozen_of_row W9 p4 1 _ _ HPW8.out.h4
          have y2 := frozen_of_row W9 p4 2 _ _ HPW8.out.h4
          have y3 := frozen_of_row W9 p4 3 _ _ HPW8.out.h4
          have y4 := frozen_of_row W9 p4 4 _ _ HPW8.out.h4
          have y5 := frozen_of_row W9 p4 5 _ _ HPW8.out.h4
          have HR10 := hid (HR8.out.set 4 (.int .i64 t2))
          have HQ10 := hid (HQ8.out.set 4 (.int .i64 t2))
          have HPW10 := hid (HPW8.out.set4 t2)
          by_cases he2 : e2 = 0
          · have he2n : (e2 != 0) = false := by simp; exact he2
            by_cases hend : b.length ≤ at2
            · have hei : (b.length : Int) ≤ (at2 : Int) := by omega
              have HF := hid (show O = none from by rw [HO2.out, if_pos (.inr hend)])
              clear he2 hend
              go_upto_region 20 with fail
              clear a0 a1 a2 a3 a4 a5 a6 b0 b1 b2 b3 b4 b5 b6 z0 z1 z2 z3 z4 z5 z6 l2 l4 y0 y1 y2 y3 y4 y5
              generalize W9.setCell ⟨p4, 4, none⟩ (.int .i64 (t2 : Int)) = W11 at HPW10 HR10 HQ10 ⊢
              obtain ⟨⟨a0, a1, a2, a3, a4, a5, a6⟩, ⟨b0, b1, b2, b3, b4, b5, b6⟩, ⟨z0, z1, z2, z3, z4, z5, z6⟩, l2, l4⟩ := HPW10.out.cells
              have y0 := frozen_of_row W11 p4 0 _ _ HPW10.out.h4
              have y1 := frozen_of_row W11 p4 1 _ _ HPW10.out.h4
              have y2 := frozen_of_row W11 p4 2 _ _ HPW10.out.h4
              have y3 := frozen_of_row W11 p4 3 _ _ HPW10.out.h4
              have y4 := frozen_of_row W11 p4 4 _ _ HPW10.out.h4
              have y5 := frozen_of_row W11 p4 5 _ _ HPW10.out.h4
              have HO := hid HPW10.out.out
              go_wp2
              (try simp only [Exit.inBlock, Exit.then])
              refine bodyPost_ret (results_ent rfl _ _ p2 _ rfl rfl HO.out.1) rfl ?_
              exact ⟨_, _, _, _, _, _, _, _, _, _, by rw [HF.out]; rfl, HO.out.2.1, fun ent p e => by rw [HF.out] at e; cases e⟩
            · have hei : ¬ (b.length : Int) ≤ (at2 : Int) := by omega
              have HF := hid (show O = some _ from by rw [HO2.out, if_neg (by omega)])
              have hal : at2 < b.length := by omega
              have ha0 : (0 : Int) ≤ (at2 : Int) := by omega
              have hai : (at2 : Int) < (b.length : Int) := by omega
              clear he2 hend
              go_upto_region 21 with fail
              clear a0 a1 a2 a3 a4 a5 a6 b0 b1 b2 b3 b4 b5 b6 z0 z1 z2 z3 z4 z5 z6 l2 l4 y0 y1 y2 y3 y4 y5
              generalize W9.setCell ⟨p4, 4, none⟩ (.int .i64 (t2 : Int)) = W11 at HPW10 HR10 HQ10 ⊢
              have de := (HV.out.keep HPW10.out.upd).at_getD (j := at2) hal
              generalize b.getD at2 0 = kc at de HF
              have hk8 := kc.toNat_lt
              obtain ⟨⟨a0, a1, a2, a3, a4, a5, a6⟩, ⟨b0, b1, b2, b3, b4, b5, b6⟩, ⟨z0, z1, z2, z3, z4, z5, z6⟩, l2, l4⟩ := HPW10.out.cells
              have y0 := frozen_of_row W11 p4 0 _ _ HPW10.out.h4
              have y1 := frozen_of_row W11 p4 1 _ _ HPW10.out.h4
              have y2 := frozen_of_row W11 p4 2 _ _ HPW10.out.h4
              have y3 := frozen_of_row W11 p4 3 _ _ HPW10.out.h4
              have y4 := frozen_of_row W11 p4 4 _ _ HPW10.out.h4
              have y5 := frozen_of_row W11 p4 5 _ _ HPW10.out.h4
              have HR12 := hid (HR10.out.set 5 (.int .i64 kc.toNat))
              have HQ12 := hid (HQ10.out.set 5 (.int .i64 kc.toNat))
              have HPW12 := hid (HPW10.out.set5 kc.toNat)
              go_upto_region 22 with fail
              clear a0 a1 a2 a3 a4 a5 a6 b0 b1 b2 b3 b4 b5 b6 z0 z1 z2 z3 z4 z5 z6 l2 l4 y0 y1 y2 y3 y4 y5
              generalize W11.setCell ⟨p4, 5, none⟩ (.int .i64 (kc.toNat : Int)) = W13 at HPW12 HR12 HQ12 ⊢
              clear de
              obtain ⟨⟨a0, a1, a2, a3, a4, a5, a6⟩, ⟨b0, b1, b2, b3, b4, b5, b6⟩, ⟨z0, z1, z2, z3, z4, z5, z6⟩, l2, l4⟩ := HPW12.out.cells
              have y0 := frozen_of_row W13 p4 0 _ _ HPW12.out.h4
              have y1 := frozen_of_row W13 p4 1 _ _ HPW12.out.h4
              have y2 := frozen_of_row W13 p4 2 _ _ HPW12.out.h4
              have y3 := frozen_of_row W13 p4 3 _ _ HPW12.out.h4
              have y4 := frozen_of_row W13 p4 4 _ _ HPW12.out.h4
              have y5 := frozen_of_row W13 p4 5 _ _ HPW12.out.h4
              have HO := hid HPW12.out.out
              go_wp2
              (try simp only [Exit.inBlock, Exit.then])
              refine bodyPost_ret (results_ent rfl _ _ p2 _ rfl rfl HO.out.1) rfl ?_
              refine ⟨_, _, _, _, _, _, _, _, _, _, by rw [HF.out]; rfl, HO.out.2.1, fun ent pp e => ?_⟩
              rw [HF.out] at e
              injection e with e
              injection e with e _
              subst e
              have hb1 := HR12.out.bat.upd HO.out.2.2 (fun k hk _ e => (HR12.out.own k hk).1 e)
              have hb2 := HQ12.out.bat.upd HO.out.2.2 (fun k hk _ e => (HQ12.out.own k hk).1 e)
              have hnr := HNR.out
              subst hnr
              exact ⟨⟨_, _, _, _, rfl, hb1, hb2⟩⟩
          · have he2n : (e2 != 0) = true := by simp; exact he2
            have HF := hid (show O = none from by rw [HO2.out, if_pos (.inl he2)])
            clear he2
            go_upto_region 20 with fail
            clear a0 a1 a2 a3 a4 a5 a6 b0 b1 b2 b3 b4 b5 b6 z0 z1 z2 z3 z4 z5 z6 l2 l4 y0 y1 y2 y3 y4 y5
            generalize W9.setCell ⟨p4, 4, none⟩ (.int .i64 (t2 : Int)) = W11 at HPW10 HR10 HQ10 ⊢
            obtain ⟨⟨a0, a1, a2, a3, a4, a5, a6⟩, ⟨b0, b1, b2, b3, b4, b5, b6⟩, ⟨z0, z1, z2, z3, z4, z5, z6⟩, l2, l4⟩ := HPW10.out.cells
            have y0 := frozen_of_row W11 p4 0 _ _ HPW10.out.h4
            have y1 := frozen_of_row W11 p4 1 _ _ HPW10.out.h4
            have y2 := frozen_of_row W11 p4 2 _ _ HPW10.out.h4
            have y3 := frozen_of_row W11 p4 3 _ _ HPW10.out.h4
            have y4 := frozen_of_row W11 p4 4 _ _ HPW10.out.h4
            have y5 := frozen_of_row W11 p4 5 _ _ HPW10.out.h4
            have HO := hid HPW10.out.out
            go_wp2
            (try simp only [Exit.inBlock, Exit.then])
            refine bodyPost_ret (results_ent rfl _ _ p2 _ rfl rfl HO.out.1) rfl ?_
            exact ⟨_, _, _, _, _, _, _, _, _, _, by rw [HF.out]; rfl, HO.out.2.1, fun ent p e => by rw [HF.out] at e; cases e⟩
        · have he1n : (e1 != 0) = true := by simp; exact he1
          have HF := hid (show O = none from by rw [HO1.out, if_pos he1])
          clear he1
          go_upto_region 17 with fail
          clear a0 a1 a2 a3 a4 a5 a6 b0 b1 b2 b3 b4 b5 b6 z0 z1 z2 z3 z4 z5 z6 l2 l4 y0 y1 y2 y3 y4 y5
          generalize W5.setCell ⟨p4, 3, none⟩ (.int .i64 (t1 : Int)) = W9 at HPW8 HR8 HQ8 ⊢
          obtain ⟨⟨a0, a1, a2, a3, a4, a5, a6⟩, ⟨b0, b1, b2, b3, b4, b5, b6⟩, ⟨z0, z1, z2, z3, z4, z5, z6⟩, l2, l4⟩ := HPW8.out.cells
          have y0 := frozen_of_row W9 p4 0 _ _ HPW8.out.h4
          have y1 := frozen_of_row W9 p4 1 _ _ HPW8.out.h4
          have y2 := frozen_of_row W9 p4 2 _ _ HPW8.out.h4
          have y3 := frozen_of_row W9 p4 3 _ _ HPW8.out.h4
          have y4 := frozen_of_row W9 p4 4 _ _ HPW8.out.h4
          have y5 := frozen_of_row W9 p4 5 _ _ HPW8.out.h4
          have HO := hid HPW8.out.out
          go_wp2
          (try simp only [Exit.inBlock, Exit.then])
          refine bodyPost_ret (results_ent rfl _ _ p2 _ rfl rfl HO.out.1) rfl ?_
          exact ⟨_, _, _, _, _, _, _, _, _, _, by rw [HF.out]; rfl, HO.out.2.1, fun ent p e => by rw [HF.out] at e; cases e⟩
      · have hdi : ((d.toNat : Int) != 0) = true := by simp; exact hdz
        have HO3 := hid (show O = _ from by rw [HO1.out, if_neg hdz])
        have HRO2 := hid (readOrdered_any (HV.out.keep HPW.out.upd) (a := p + 2) hpl2 hl)
        have HRB2 := hid (fun h : (readO b (p + 2)).2.2 = 0 => (readO_back h).2.2)
        generalize readO b (p + 2) = R6 at HRO2 HO3 HRB2
        obtain ⟨ql, p6, e6⟩ := R6
        simp only at HRO2 HO3 HRB2
        have l25 := HPW.out.cells.2.2.2
        clear HO1 hdz
        go_wp2_with fail
        refine HRO2.out.mono ?_
        rintro e W6 ⟨v6, rfl, hn6⟩
        obtain ⟨ao6, c6, hv6, -, -⟩ := hn6.shape
        obtain ⟨nq, hnq⟩ : ∃ nq, nq = ql.length := ⟨_, rfl⟩
        rw [← hnq] at hv6
        subst hv6
        have HNQ := hid hnq
        have HPW6 := hid (HPW.out.keep hn6.upd)
        have HROW6 := hid (HROW.out.keep hn6.upd)
        have HQ6 := hid (show RB W6 (.slice ao6 nq c6) ql p2 p4 from ⟨hn6.data.bat, fun k hk => by have := hn6.new k hk; omega⟩)
        clear hnq hn6 l25 HPW HROW
        obtain ⟨⟨a0, a1, a2, a3, a4, a5, a6⟩, ⟨b0, b1, b2, b3, b4, b5, b6⟩, ⟨z0, z1, z2, z3, z4, z5, z6⟩, l2, l4⟩ := HPW6.out.cells
        have y0 := frozen_of_row W6 p4 0 _ _ HPW6.out.h4
        have y1 := frozen_of_row W6 p4 1 _ _ HPW6.out.h4
        have y2 := frozen_of_row W6 p4 2 _ _ HPW6.out.h4
        have y3 := frozen_of_row W6 p4 3 _ _ HPW6.out.h4
        have y4 := frozen_of_row W6 p4 4 _ _ HPW6.out.h4
        have y5 := frozen_of_row W6 p4 5 _ _ HPW6.out.h4
        by_cases he6 : e6 = 0
        · have he6n : (e6 != 0) = false := by simp; exact he6
          have hp6 : p6 ≤ b.length := HRB2.out he6
          by_cases hend : b.length ≤ p6
          · have hei : (b.length : Int) ≤ (p6 : Int) := by omega
            have HF := hid (show O = none from by rw [HO3.out, if_pos (.inr hend)])
            clear he6 hend
            have HO := hid HPW6.out.out
            go_wp2
            (try simp only [Exit.inBlock, Exit.then])
            refine bodyPost_ret (results_ent rfl _ _ p2 _ rfl rfl HO.out.1) rfl ?_
            exact ⟨_, _, _, _, _, _, _, _, _, _, by rw [HF.out]; rfl, HO.out.2.1, fun ent p e => by rw [HF.out] at e; cases e⟩
          · have hei : ¬ (b.length : Int) ≤ (p6 : Int) := by omega
            have HO1 := hid (show O = _ from by rw [HO3.out, if_neg (by omega)])
            have hat : p6 + 1 ≤ b.length := by omega
            have HPW := hid (HPW6.out.set2 (.slice ao6 nq c6))
            have HROW := hid (HROW6.out.set 2 (.slice ao6 nq c6))
            have HQ := hid (HQ6.out.set 2 (.slice ao6 nq c6))
            clear he6 hend HO3
            go_upto_region 14 with fail
            clear a0 a1 a2 a3 a4 a5 a6 b0 b1 b2 b3 b4 b5 b6 z0 z1 z2 z3 z4 z5 z6 l2 l4 y0 y1 y2 y3 y4 y5
            generalize W6.setCell ⟨p4, 2, none⟩ (.slice ao6 nq c6) = W7 at HPW HROW HQ ⊢
            have hnq := HNQ.out
            subst hnq
            have HF1 := hid (readFalling_any (HV.out.keep HPW.out.upd) hat hl)
            have HLE := hid (fun h : (readF b (p6 + 1)).2.2 = 0 => readF_le hat h)
            unfold parseT at HO1
            generalize readF b (p6 + 1) = R1 at HF1 HO1 HLE
            obtain ⟨t1, at1, e1⟩ := R1
            simp only at HF1 HO1 HLE
            clear hat
            go_wp2_with fail
            refine HF1.out.mono ?_
            rintro e W8 ⟨rfl, hww⟩
            obtain rfl := hww.symm
            obtain ⟨⟨a0, a1, a2, a3, a4, a5, a6⟩, ⟨b0, b1, b2, b3, b4, b5, b6⟩, ⟨z0, z1, z2, z3, z4, z5, z6⟩, l2, l4⟩ := HPW.out.cells
            have y0 := frozen_of_row W7 p4 0 _ _ HPW.out.h4
            have y1 := frozen_of_row W7 p4 1 _ _ HPW.out.h4
            have y2 := frozen_of_row W7 p4 2 _ _ HPW.out.h4
            have y3 := frozen_of_row W7 p4 3 _ _ HPW.out.h4
            have y4 := frozen_of_row W7 p4 4 _ _ HPW.out.h4
            have y5 := frozen_of_row W7 p4 5 _ _ HPW.out.h4
            have hd3 := HPW.out.set3 t1
            have HR8 := hid (HROW.out.set 3 (.int .i64 t1))
            have HQ8 := hid (HQ.out.set 3 (.int .i64 t1))
            have HPW8 := hid hd3
            clear hd3
            by_cases he1 : e1 = 0
            · have he1n : (e1 != 0) = false := by simp; exact he1
              have HO2 := hid (show O = _ from by rw [HO1.out, if_neg (by simpa using he1)])
              have hat1 : at1 ≤ b.length := HLE.out he1
              clear he1
              go_upto_region 18 with fail
              clear a0 a1 a2 a3 a4 a5 a6 b0 b1 b2 b3 b4 b5 b6 z0 z1 z2 z3 z4 z5 z6 l2 l4 y0 y1 y2 y3 y4 y5
              generalize W7.setCell ⟨p4, 3, none⟩ (.int .i64 (t1 : Int)) = W9 at HPW8 HR8 HQ8 ⊢
              have HG1 := hid (readFalling_any (HV.out.keep HPW8.out.upd) hat1 hl)
              have HLE2 := hid (fun h : (readF b at1).2.2 = 0 => readF_le hat1 h)
              generalize readF b at1 = R2 at HG1 HO2 HLE2
              obtain ⟨t2, at2, e2⟩ := R2
              simp only at HG1 HO2 HLE2
              clear hat1
              go_wp2_with fail
              refine HG1.out.mono ?_
              rintro e W10 ⟨rfl, hww⟩
              obtain rfl := hww.symm
              obtain ⟨⟨a0, a1, a2, a3, a4, a5, a6⟩, ⟨b0, b1, b2, b3, b4, b5, b6⟩, ⟨z0, z1, z2, z3, z4, z5, z6⟩, l2, l4⟩ := HPW8.out.cells
              have y0 := frozen_of_row W9 p4 0 _ _ HPW8.out.h4
              have y1 := frozen_of_row W9 p4 1 _ _ HPW8.out.h4
              have y2 := frozen_of_row W9 p4 2 _ _ HPW8.out.h4
              have y3 := frozen_of_row W9 p4 3 _ _ HPW8.out.h4
              have y4 := frozen_of_row W9 p4 4 _ _ HPW8.out.h4
              have y5 := frozen_of_row W9 p4 5 _ _ HPW8.out.h4
              have HR10 := hid (HR8.out.set 4 (.int .i64 t2))
              have HQ10 := hid (HQ8.out.set 4 (.int .i64 t2))
              have HPW10 := hid (HPW8.out.set4 t2)
              by_cases he2 : e2 = 0
              · have he2n : (e2 != 0) = false := by simp; exact he2
                by_cases hend : b.length ≤ at2
                · have hei : (b.length : Int) ≤ (at2 : Int) := by omega
                  have HF := hid (show O = none from by rw [HO2.out, if_pos (.inr hend)])
                  clear he2 hend
                  go_upto_region 20 with fail
                  clear a0 a1 a2 a3 a4 a5 a6 b0 b1 b2 b3 b4 b5 b6 z0 z1 z2 z3 z4 z5 z6 l2 l4 y0 y1 y2 y3 y4 y5
                  generalize W9.setCell ⟨p4, 4, none⟩ (.int .i64 (t2 : Int)) = W11 at HPW10 HR10 HQ10 ⊢
                  obtain ⟨⟨a0, a1, a2, a3, a4, a5, a6⟩, ⟨b0, b1, b2, b3, b4, b5, b6⟩, ⟨z0, z1, z2, z3, z4, z5, z6⟩, l2, l4⟩ := HPW10.out.cells
                  have y0 := frozen_of_row W11 p4 0 _ _ HPW10.out.h4
                  have y1 := frozen_of_row W11 p4 1 _ _ HPW10.out.h4
                  have y2 := frozen_of_row W11 p4 2 _ _ HPW10.out.h4
                  have y3 := frozen_of_row W11 p4 3 _ _ HPW10.out.h4
                  have y4 := frozen_of_row W11 p4 4 _ _ HPW10.out.h4
                  have y5 := frozen_of_row W11 p4 5 _ _ HPW10.out.h4
                  have HO := hid HPW10.out.out
                  go_wp2
                  (try simp only [Exit.inBlock, Exit.then])
                  refine bodyPost_ret (results_ent rfl _ _ p2 _ rfl rfl HO.out.1) rfl ?_
                  exact ⟨_, _, _, _, _, _, _, _, _, _, by rw [HF.out]; rfl, HO.out.2.1, fun ent p e => by rw [HF.out] at e; cases e⟩
                · have hei : ¬ (b.length : Int) ≤ (at2 : Int) := by omega
                  have HF := hid (show O = some _ from by rw [HO2.out, if_neg (by omega)])
                  have hal : at2 < b.length := by omega
                  have ha0 : (0 : Int) ≤ (at2 : Int) := by omega
                  have hai : (at2 : Int) < (b.length : Int) := by omega
                  clear he2 hend
                  go_upto_region 21 with fail
                  clear a0 a1 a2 a3 a4 a5 a6 b0 b1 b2 b3 b4 b5 b6 z0 z1 z2 z3 z4 z5 z6 l2 l4 y0 y1 y2 y3 y4 y5
                  generalize W9.setCell ⟨p4, 4, none⟩ (.int .i64 (t2 : Int)) = W11 at HPW10 HR10 HQ10 ⊢
                  have de := (HV.out.keep HPW10.out.upd).at_getD (j := at2) hal
                  generalize b.getD at2 0 = kc at de HF
                  have hk8 := kc.toNat_lt
                  obtain ⟨⟨a0, a1, a2, a3, a4, a5, a6⟩, ⟨b0, b1, b2, b3, b4, b5, b6⟩, ⟨z0, z1, z2, z3, z4, z5, z6⟩, l2, l4⟩ := HPW10.out.cells
                  have y0 := frozen_of_row W11 p4 0 _ _ HPW10.out.h4
                  have y1 := frozen_of_row W11 p4 1 _ _ HPW10.out.h4
                  have y2 := frozen_of_row W11 p4 2 _ _ HPW10.out.h4
                  have y3 := frozen_of_row W11 p4 3 _ _ HPW10.out.h4
                  have y4 := frozen_of_row W11 p4 4 _ _ HPW10.out.h4
                  have y5 := frozen_of_row W11 p4 5 _ _ HPW10.out.h4
                  have HR12 := hid (HR10.out.set 5 (.int .i64 kc.toNat))
                  have HQ12 := hid (HQ10.out.set 5 (.int .i64 kc.toNat))
                  have HPW12 := hid (HPW10.out.set5 kc.toNat)
                  go_upto_region 22 with fail
                  clear a0 a1 a2 a3 a4 a5 a6 b0 b1 b2 b3 b4 b5 b6 z0 z1 z2 z3 z4 z5 z6 l2 l4 y0 y1 y2 y3 y4 y5
                  generalize W11.setCell ⟨p4, 5, none⟩ (.int .i64 (kc.toNat : Int)) = W13 at HPW12 HR12 HQ12 ⊢
                  clear de
                  obtain ⟨⟨a0, a1, a2, a3, a4, a5, a6⟩, ⟨b0, b1, b2, b3, b4, b5, b6⟩, ⟨z0, z1, z2, z3, z4, z5, z6⟩, l2, l4⟩ := HPW12.out.cells
                  have y0 := frozen_of_row W13 p4 0 _ _ HPW12.out.h4
                  have y1 := frozen_of_row W13 p4 1 _ _ HPW12.out.h4
                  have y2 := frozen_of_row W13 p4 2 _ _ HPW12.out.h4
                  have y3 := frozen_of_row W13 p4 3 _ _ HPW12.out.h4
                  have y4 := frozen_of_row W13 p4 4 _ _ HPW12.out.h4
                  have y5 := frozen_of_row W13 p4 5 _ _ HPW12.out.h4
                  have HO := hid HPW12.out.out
                  go_wp2
                  (try simp only [Exit.inBlock, Exit.then])
                  refine bodyPost_ret (results_ent rfl _ _ p2 _ rfl rfl HO.out.1) rfl ?_
                  refine ⟨_, _, _, _, _, _, _, _, _, _, by rw [HF.out]; rfl, HO.out.2.1, fun ent pp e => ?_⟩
                  rw [HF.out] at e
                  injection e with e
                  injection e with e _
                  subst e
                  have hb1 := HR12.out.bat.upd HO.out.2.2 (fun k hk _ e => (HR12.out.own k hk).1 e)
                  have hb2 := HQ12.out.bat.upd HO.out.2.2 (fun k hk _ e => (HQ12.out.own k hk).1 e)
                  have hnr := HNR.out
                  subst hnr
                  exact ⟨⟨_, _, _, _, rfl, hb1, hb2⟩⟩
              · have he2n : (e2 != 0) = true := by simp; exact he2
                have HF := hid (show O = none from by rw [HO2.out, if_pos (.inl he2)])
                clear he2
                go_upto_region 20 with fail
                clear a0 a1 a2 a3 a4 a5 a6 b0 b1 b2 b3 b4 b5 b6 z0 z1 z2 z3 z4 z5 z6 l2 l4 y0 y1 y2 y3 y4 y5
                generalize W9.setCell ⟨p4, 4, none⟩ (.int .i64 (t2 : Int)) = W11 at HPW10 HR10 HQ10 ⊢
                obtain ⟨⟨a0, a1, a2, a3, a4, a5, a6⟩, ⟨b0, b1, b2, b3, b4, b5, b6⟩, ⟨z0, z1, z2, z3, z4, z5, z6⟩, l2, l4⟩ := HPW10.out.cells
                have y0 := frozen_of_row W11 p4 0 _ _ HPW10.out.h4
                have y1 := frozen_of_row W11 p4 1 _ _ HPW10.out.h4
                have y2 := frozen_of_row W11 p4 2 _ _ HPW10.out.h4
                have y3 := frozen_of_row W11 p4 3 _ _ HPW10.out.h4
                have y4 := frozen_of_row W11 p4 4 _ _ HPW10.out.h4
                have y5 := frozen_of_row W11 p4 5 _ _ HPW10.out.h4
                have HO := hid HPW10.out.out
                go_wp2
                (try simp only [Exit.inBlock, Exit.then])
                refine bodyPost_ret (results_ent rfl _ _ p2 _ rfl rfl HO.out.1) rfl ?_
                exact ⟨_, _, _, _, _, _, _, _, _, _, by rw [HF.out]; rfl, HO.out.2.1, fun ent p e => by rw [HF.out] at e; cases e⟩
            · have he1n : (e1 != 0) = true := by simp; exact he1
              have HF := hid (show O = none from by rw [HO1.out, if_pos he1])
              clear he1
              go_upto_region 17 with fail
              clear a0 a1 a2 a3 a4 a5 a6 b0 b1 b2 b3 b4 b5 b6 z0 z1 z2 z3 z4 z5 z6 l2 l4 y0 y1 y2 y3 y4 y5
              generalize W7.setCell ⟨p4, 3, none⟩ (.int .i64 (t1 : Int)) = W9 at HPW8 HR8 HQ8 ⊢
              obtain ⟨⟨a0, a1, a2, a3, a4, a5, a6⟩, ⟨b0, b1, b2, b3, b4, b5, b6⟩, ⟨z0, z1, z2, z3, z4, z5, z6⟩, l2, l4⟩ := HPW8.out.cells
              have y0 := frozen_of_row W9 p4 0 _ _ HPW8.out.h4
              have y1 := frozen_of_row W9 p4 1 _ _ HPW8.out.h4
              have y2 := frozen_of_row W9 p4 2 _ _ HPW8.out.h4
              have y3 := frozen_of_row W9 p4 3 _ _ HPW8.out.h4
              have y4 := frozen_of_row W9 p4 4 _ _ HPW8.out.h4
              have y5 := frozen_of_row W9 p4 5 _ _ HPW8.out.h4
              have HO := hid HPW8.out.out
              go_wp2
              (try simp only [Exit.inBlock, Exit.then])
              refine bodyPost_ret (results_ent rfl _ _ p2 _ rfl rfl HO.out.1) rfl ?_
              exact ⟨_, _, _, _, _, _, _, _, _, _, by rw [HF.out]; rfl, HO.out.2.1, fun ent p e => by rw [HF.out] at e; cases e⟩
        · have he6n : (e6 != 0) = true := by simp; exact he6
          have HF := hid (show O = none from by rw [HO3.out, if_pos (.inl he6)])
          clear he6
          have HO := hid HPW6.out.out
          go_wp2
          (try simp only [Exit.inBlock, Exit.then])
          refine bodyPost_ret (results_ent rfl _ _ p2 _ rfl rfl HO.out.1) rfl ?_
          exact ⟨_, _, _, _, _, _, _, _, _, _, by rw [HF.out]; rfl, HO.out.2.1, fun ent p e => by rw [HF.out] at e; cases e⟩
  · have HF := hid (show O = none from by rw [HOO.out, if_pos (.inl her)])
    have heri : (er != 0) = true := by simp; exact her
    clear her
    have HO := hid HPW.out.out
    go_wp2
    (try simp only [Exit.inBlock, Exit.then])
    refine bodyPost_ret (results_ent rfl _ _ p2 _ rfl rfl HO.out.1) rfl ?_
    exact ⟨_, _, _, _, _, _, _, _, _, _, by rw [HF.out]; rfl, HO.out.2.1, fun ent p e => by rw [HF.out] at e; cases e⟩

end Go.Proofs.YtgaidmohdhaonaaGreatDoor

namespace Go.Proofs.YtgaidmohdhaonaaGreatDoor
set_option linter.unusedVariables false
set_option linter.unusedSimpArgs false
set_option linter.unnecessarySimpa false
set_option linter.unusedSectionVars false
open Go Go.RowKit

theorem entOut_at {W : World} {p : Nat} {r0 q0 : Value} {f0 t0 s0 k0 : Int} (h : W.heap[p]? = some (.cells (entC r0 f0 q0 t0 s0 k0) 215 (0, 0))) (r : Value) (f : Int) (q : Value) (t s k : Int) :
    (entOut W p r f q t s k).heap[p]? = some (.cells (entC r f q t s k) 215 (0, 0)) := by
  have h1 := heap_setCell_at W p 0 _ _ r h
  have h2 := heap_setCell_at _ p 1 _ _ (.int .i64 f) h1
  have h3 := heap_setCell_at _ p 2 _ _ q h2
  have h4 := heap_setCell_at _ p 3 _ _ (.int .i64 t) h3
  have h5 := heap_setCell_at _ p 4 _ _ (.int .i64 s) h4
  have h6 := heap_setCell_at _ p 5 _ _ (.int .i64 k) h5
  have h7 := heap_setCell_at _ p 6 _ _ (.slice none 0 0) h6
  rw [h7]
  simp [entC]

theorem entOut_upd {S : Nat → Prop} {w W : World} (h : Upd S w W) {p : Nat} (hp : p < w.heap.size → S p) (r : Value) (f : Int) (q : Value) (t s k : Int) : Upd S w (entOut W p r f q t s k) := by
  have hp' : ∀ j : Nat, (⟨p, j, none⟩ : Addr).block < w.heap.size → S (⟨p, j, none⟩ : Addr).block := fun j e => hp e
  exact ((((((h.setCell (hp' 0) _).setCell (hp' 1) _).setCell (hp' 2) _).setCell (hp' 3) _).setCell (hp' 4) _).setCell (hp' 5) _).setCell (hp' 6) _

theorem PW.outz {w W : World} {p2 p4 : Nat} {r q : Value} {f t s k : Int} (h : PW w W p2 p4 r f q t s k) :
    (entOut W p2 (.slice none 0 0) 0 (.slice none 0 0) 0 0 0).heap[p2]? = some (.cells (entC (.slice none 0 0) 0 (.slice none 0 0) 0 0 0) 215 (0, 0)) ∧ Upd (fun _ => False) w (entOut W p2 (.slice none 0 0) 0 (.slice none 0 0) 0 0 0) :=
  ⟨entOut_at h.h2 _ _ _ _ _ _, entOut_upd h.upd (fun e => by have := h.n2; omega) _ _ _ _ _ _⟩

set_option maxRecDepth 100000 in
set_option maxHeartbeats 6400000 in
theorem parseKey_any {w : World} {v : Value} {b : List UInt8} (hv : BAt w v b) (hl : b.length ≤ 140737488351232) :
    Calls Tryz.prog 187 #[v] w fun e w' => ∃ a1 n1 c1 f a2 n2 c2 t s k, e = .returned (.tuple #[.agg (entC (.slice a1 n1 c1) f (.slice a2 n2 c2) t s k), .int .i64 (if isKeyB b then 0 else 27)]) ∧ Upd (fun _ => False) w w' := by
  have HV := hid hv
  have hu0 := (Upd.refl (fun _ => False) w).alloc (.cells (entC (.slice none 0 0) 0 (.slice none 0 0) 0 0 0) 215)
  have HPA := hid (parse_any (hv.keep hu0) hl)
  have HU0 := hid hu0
  have HAL := hid (heap_alloc_new w (.cells (entC (.slice none 0 0) 0 (.slice none 0 0) 0 0 0) 215))
  obtain ⟨ao, cap, rfl, h1, h2, -, -⟩ := hv
  obtain ⟨R, hR⟩ : ∃ R : Int, R = if isKeyB b then 0 else 27 := ⟨_, rfl⟩
  rw [← hR]
  have HR := hid hR
  unfold isKeyB at HR
  generalize parseP b = O at HPA HR
  clear hR hu0
  go_enter Tryz.func187, Tryz.ntmps187
  go_wp2_with fail
  refine HPA.out.mono ?_
  rintro e W ⟨a1, n1, c1, f, a2, n2, c2, t, s, k, rfl, hu, hent⟩
  have HENT := hid hent
  have HUW := hid (HU0.out.trans hu (fun _ _ e => e))
  have HZ := hid (hu.get HAL.out (fun e => e))
  clear hu hent HPA
  go_upto_region 2 with fail
  have hpw : PW w (W.alloc (.cells (entC (.slice a1 n1 c1) f (.slice a2 n2 c2) t s k) 215)) w.heap.size W.heap.size (.slice a1 n1 c1) f (.slice a2 n2 c2) t s k := by
    have hlt : w.heap.size < W.heap.size := lt_of_heap HZ.out
    refine ⟨HUW.out.alloc _, ?_, heap_alloc_new W _, Nat.le_refl _, by omega, by omega⟩
    rw [heap_alloc_past _ _ _ hlt]
    exact HZ.out
  have HPW := hid hpw
  have HWW := hid ((Upd.refl (fun _ => False) W).alloc (.cells (entC (.slice a1 n1 c1) f (.slice a2 n2 c2) t s k) 215))
  clear hpw
  change Hid (PW w (W.alloc (.cells #[.slice a1 n1 c1, .int .i64 f, .slice a2 n2 c2, .int .i64 t, .int .i64 s, .int .i64 k, .slice none 0 0] 215)) w.heap.size W.heap.size (.slice a1 n1 c1) f (.slice a2 n2 c2) t s k) at HPW
  change Hid (Upd (fun _ => False) W (W.alloc (.cells #[.slice a1 n1 c1, .int .i64 f, .slice a2 n2 c2, .int .i64 t, .int .i64 s, .int .i64 k, .slice none 0 0] 215))) at HWW
  generalize W.alloc (.cells #[.slice a1 n1 c1, .int .i64 f, .slice a2 n2 c2, .int .i64 t, .int .i64 s, .int .i64 k, .slice none 0 0] 215) = W2 at HPW HWW ⊢
  obtain ⟨p2, hp2⟩ : ∃ p2, p2 = w.heap.size := ⟨_, rfl⟩
  obtain ⟨p4, hp4⟩ : ∃ p4, p4 = W.heap.size := ⟨_, rfl⟩
  rw [← hp4, ← hp2] at HPW
  rw [← hp4, ← hp2]
  have hne : p2 ≠ p4 := HPW.out.ne
  have hne' : p4 ≠ p2 := hne.symm
  clear hp2 hp4 HAL HU0 HZ
  obtain ⟨⟨a0, a1', a2', a3, a4, a5, a6⟩, ⟨b0, b1, b2, b3, b4, b5, b6⟩, ⟨z0, z1, z2, z3, z4, z5, z6⟩, l2, l4⟩ := HPW.out.cells
  rcases O with _ | ⟨ent, pp⟩
  · have HF := hid (show R = 27 from HR.out)
    clear HENT
    have HO := hid (HPW.out.outz)
    go_wp2
    (try simp only [Exit.inBlock, Exit.then])
    refine bodyPost_ret (results_ent rfl _ _ p2 _ rfl rfl HO.out.1) rfl ?_
    first | exact ⟨_, _, _, _, _, _, _, _, _, _, by rw [HF.out]; rfl, HO.out.2⟩ | exact HO.out.2 | exact ⟨⟨_, _, _, _, _, _, _, _, _, _, by rw [HF.out]; rfl⟩, HO.out.2⟩
  · have HE := hid (HENT.out ent pp rfl)
    have HF0 := hid (show R = if decide (ent.bad = 0 ∧ ent.key = b) = true then 0 else 27 from HR.out)
    clear HENT
    by_cases hbad : ent.bad = 0
    · have HKY := hid (key_any (w := W2) (⟨by obtain ⟨x1, x2, x3, x4, e1, e2, e3⟩ := HE.out.eq; exact ⟨x1, x2, x3, x4, e1, e2.keep HWW.out, e3.keep HWW.out⟩⟩ : EntAt W2 _ ent) hbad)
      go_wp2_with fail
      refine HKY.out.mono ?_
      rintro e W3 ⟨vk, rfl, hnk⟩
      have HPW3 := hid (HPW.out.keep hnk.upd)
      have HEQ := hid (equal_any hnk.data.bat.bytes (HV.out.keep HPW3.out.upd).bytes)
      clear a0 a1' a2' a3 a4 a5 a6 b0 b1 b2 b3 b4 b5 b6 z0 z1 z2 z3 z4 z5 z6 l2 l4
      clear hnk HPW
      rename Hid (PW w W3 p2 p4 _ _ _ _ _ _) => HPW
      obtain ⟨⟨a0, a1', a2', a3, a4, a5, a6⟩, ⟨b0, b1, b2, b3, b4, b5, b6⟩, ⟨z0, z1, z2, z3, z4, z5, z6⟩, l2, l4⟩ := HPW.out.cells
      go_wp2_with fail
      refine HEQ.out.mono ?_
      rintro e W4 ⟨rfl, hww⟩
      obtain rfl := hww.symm
      by_cases hk : ent.key = b
      · have hkd : decide (ent.key = b) = true := by simpa using hk
        rw [hkd]
        have HF := hid (show R = 0 from by rw [HF0.out, if_pos (by simp; exact ⟨hbad, hk⟩)])
        clear hk hkd hbad
        have HO := hid HPW.out.out
        go_wp2
        (try simp only [Exit.inBlock, Exit.then])
        refine bodyPost_ret (results_ent rfl _ _ p2 _ rfl rfl HO.out.1) rfl ?_
        exact ⟨_, _, _, _, _, _, _, _, _, _, by rw [HF.out]; rfl, HO.out.2.1⟩
      · have hkd : decide (ent.key = b) = false := by simpa using hk
        rw [hkd]
        have HF := hid (show R = 27 from by rw [HF0.out, if_neg (by simp; intro _; exact hk)])
        clear hk hkd hbad
        have HO := hid (HPW.out.outz)
        go_wp2
        (try simp only [Exit.inBlock, Exit.then])
        refine bodyPost_ret (results_ent rfl _ _ p2 _ rfl rfl HO.out.1) rfl ?_
        first | exact ⟨_, _, _, _, _, _, _, _, _, _, by rw [HF.out]; rfl, HO.out.2⟩ | exact HO.out.2 | exact ⟨⟨_, _, _, _, _, _, _, _, _, _, by rw [HF.out]; rfl⟩, HO.out.2⟩
    · have hbn : (ent.bad != 0) = true := by simp; exact hbad
      have HKY := hid (key_bad (w := W2) HE.out.is hbad)
      have HF := hid (show R = 27 from by rw [HF0.out, if_neg (by simp; intro e; exact absurd e hbad)])
      generalize ent.bad = eb at HKY hbn
      clear hbad
      go_wp2_with fail
      refine HKY.out.mono ?_
      rintro e W3 ⟨rfl, huk⟩
      have HPW3 := hid (HPW.out.keep huk)
      clear a0 a1' a2' a3 a4 a5 a6 b0 b1 b2 b3 b4 b5 b6 z0 z1 z2 z3 z4 z5 z6 l2 l4
      clear huk HPW
      rename Hid (PW w W3 p2 p4 _ _ _ _ _ _) => HPW
      obtain ⟨⟨a0, a1', a2', a3, a4, a5, a6⟩, ⟨b0, b1, b2, b3, b4, b5, b6⟩, ⟨z0, z1, z2, z3, z4, z5, z6⟩, l2, l4⟩ := HPW.out.cells
      have HO := hid (HPW.out.outz)
      go_wp2
      (try simp only [Exit.inBlock, Exit.then])
      refine bodyPost_ret (results_ent rfl _ _ p2 _ rfl rfl HO.out.1) rfl ?_
      first | exact ⟨_, _, _, _, _, _, _, _, _, _, by rw [HF.out]; rfl, HO.out.2⟩ | exact HO.out.2 | exact ⟨⟨_, _, _, _, _, _, _, _, _, _, by rw [HF.out]; rfl⟩, HO.out.2⟩

end Go.Proofs.YtgaidmohdhaonaaGreatDoor
