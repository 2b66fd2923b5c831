/-
  The walk of DiskSafe.
  Package stratalaw4, walked: sameFiles, copied.
  Package stratalaw4, walked: copied.
  What an act makes of a disk hangs on its files, its room and whether it is down alone: plain.
-/
import Derived.Test.YtohpgmeflmppaaaGreatGF
import Derived.Deep.RegionHeld3
import Derived.Deep.AppendLies
namespace Go.Proofs.YtohpgmeflmppaaaGreat
set_option linter.unusedVariables false
set_option linter.unusedSimpArgs false
set_option linter.unnecessarySimpa false
set_option linter.unusedSectionVars false
open Go Go.RowKit

/-- A call that turns nothing, in a region that draws, behind draws. -/
theorem Calls.same_behind {P : Program} {f : FuncId} {args : Array Value} {w : World} {a n : Nat} {v : Value} (h : Calls P f args (w.drewN (a + n)) fun e w' => e = .returned v ∧ w' = w.drewN (a + n)) :
    Calls P f args (w.drewN (a + n)) fun e w'' => e = .returned v ∧ ∃ m, w'' = w.drewN (a + m) :=
  h.mono fun _ _ hx => ⟨hx.1, n, hx.2⟩

theorem crashL_le (cuts : List Int) : ∀ (l : List FileA) (k : Nat), (crashL cuts l k).2 ≤ k + l.length
  | [], k => by simp [crashL]
  | f :: t, k => by
    have h1 := crashL_le cuts t (crashOne cuts f k).2
    have h2 : (crashOne cuts f k).2 ≤ k + 1 := by unfold crashOne; split <;> simp
    simp only [crashL, List.length_cons]
    omega

/-- A disk made since the world w0; all that was there stands. -/
structure On (w0 w : World) (p : Nat) (s : DS) : Prop where
  ins : s.In w
  p : s.p = p
  low : ∀ k ∈ s.blocks, w0.heap.size ≤ k
  upd : Upd (fun _ => False) w0 w

theorem On.step {w0 w w' : World} {p : Nat} {s s2 : DS} (h : On w0 w p s) (hst : Step w w' s s2) : On w0 w' p s2 :=
  ⟨hst.ins, hst.p.trans h.p, fun k hk => (hst.foot k hk).elim (fun hm => h.low k hm) (fun hm => Nat.le_trans h.upd.size hm),
    h.upd.trans hst.upd (fun k hk hm => by have := h.low k hm; omega)⟩

theorem On.more {w0 w w' : World} {p : Nat} {s : DS} (h : On w0 w p s) (hu : Upd (fun _ => False) w w') : On w0 w' p s := h.step (Step.of_upd h.ins hu)

theorem Fresh.on {w w' : World} {n : Nat} {s : DS} (h : Fresh w w' n s) : On w w' s.p s := ⟨h.1, rfl, h.2.2.2.2.2.1, h.2.2.2.2.2.2⟩

/-- v is a slice that reads as these acts. -/
structure DidsAt (w : World) (v : Value) (l : List DidA) : Prop where
  shape : ∃ ao cap, v = .slice ao l.length cap ∧ l.length ≤ cap ∧ cap ≤ 9223372036854775807 ∧ ∀ k (hk : k < l.length), ∃ b o, ao = some ⟨b, o, none⟩ ∧ b < w.heap.size ∧
    w.cell? ⟨b, o + k * 4, none⟩ = some (.int .i64 l[k].kind) ∧ w.cell? ⟨b, o + k * 4 + 1, none⟩ = some (.int .i64 l[k].file) ∧ w.cell? ⟨b, o + k * 4 + 2, none⟩ = some (.int .i64 l[k].to) ∧ w.cell? ⟨b, o + k * 4 + 3, none⟩ = some l[k].bv
  bytes : ∀ x ∈ l, BytesAt w x.bv x.b
  low : ∀ x ∈ l, ∀ a n c, x.bv = .slice (some a) n c → 0 < n → a.block < w.heap.size

theorem DidsAt.ok {w w' : World} {p : Nat} {s : DS} {v : Value} {l : List DidA} (h : DidsAt w v l) (ho : On w w' p s) {x : DidA} (hx : x ∈ l) : x.Ok w' s :=
  ⟨(h.bytes x hx).upd ho.upd (fun a n c e h0 => ⟨fun h => h, h.low x hx a n c e h0⟩),
    fun a n c e h0 => ⟨fun hm => by have := ho.low _ hm; have := h.low x hx a n c e h0; omega, Nat.lt_of_lt_of_le (h.low x hx a n c e h0) ho.upd.size⟩⟩

end Go.Proofs.YtohpgmeflmppaaaGreat

namespace Go.Proofs.YtohpgmeflmppaaaGreat
set_option linter.unusedVariables false
set_option linter.unusedSimpArgs false
set_option linter.unnecessarySimpa false
set_option linter.unusedSectionVars false
open Go Go.RowKit

theorem map_abs_ne {l1 l2 : List FV} {k : Nat} (h1 : k < l1.length) (h2 : k < l2.length) (h : l1[k].abs ≠ l2[k].abs) : l1.map FV.abs ≠ l2.map FV.abs := by
  intro e
  have := congrArg (fun l => l[k]?) e
  simp only [List.getElem?_map, List.getElem?_eq_getElem h1, List.getElem?_eq_getElem h2, Option.map_some, Option.some.injEq] at this
  exact h this

theorem map_abs_eq {l1 l2 : List FV} (hl : l1.length = l2.length) (h : ∀ j (h1 : j < l1.length) (h2 : j < l2.length), l1[j].abs = l2[j].abs) : l1.map FV.abs = l2.map FV.abs := by
  apply List.ext_getElem (by simp [hl])
  intro i h1 h2
  simp only [List.getElem_map]
  exact h i (by simpa using h1) (by simpa using h2)

set_option maxRecDepth 100000 in
set_option maxHeartbeats 3200000 in
theorem sameFiles_any {w : World} {b1 b2 : Nat} {v1 v2 : Value} {l1 l2 : List FV} (h1 : FilesAt w b1 v1 l1) (h2 : FilesAt w b2 v2 l2) :
    Calls Tryz.prog 17 #[v1, v2] w fun e w' => ∃ b, e = .returned (.bool b) ∧ (b = true ↔ l1.map FV.abs = l2.map FV.abs) ∧ Upd (fun _ => False) w w' := by
  obtain ⟨a1, c1, rfl, hc1, hm1, hs1⟩ := h1.shape
  obtain ⟨a2, c2, rfl, hc2, hm2, hs2⟩ := h2.shape
  have H1 := hid h1; have H2 := hid h2; have S1 := hid hs1; have S2 := hid hs2
  have hm1' : l1.length ≤ 9223372036854775807 := Nat.le_trans hc1 (by simpa [maxLen] using hm1)
  have hm2' : l2.length ≤ 9223372036854775807 := Nat.le_trans hc2 (by simpa [maxLen] using hm2)
  clear h1 h2 hs1 hs2
  by_cases hl : ¬ l1.length = l2.length
  · have hb : ((l1.length : Int) != (l2.length : Int)) = true := by simp; omega
    have HL := hid hl
    clear hl
    go_enter Tryz.func17, Tryz.ntmps17
    go_wp2
    go_ret
    exact ⟨false, rfl, ⟨(fun h => by cases h), fun h => absurd (by simpa using congrArg List.length h) HL.out⟩, Upd.refl _ _⟩
  have hl : l1.length = l2.length := by omega
  have hb : ((l1.length : Int) != (l2.length : Int)) = false := by simp [hl]
  have HL := hid hl
  clear hl
  go_enter Tryz.func17, Tryz.ntmps17
  go_wp2
  go_loopw [5] (fun i wr => ∃ k : Nat, k ≤ l1.length ∧ i = .int .i64 k ∧ (∀ j (h1 : j < l1.length) (h2 : j < l2.length), j < k → l1[j].abs = l2[j].abs) ∧ Upd (fun _ => False) w wr) (fun i _ => l1.length - (intOf i).toNat)
  case atStart => exact ⟨0, Nat.zero_le _, rfl, by simp, Upd.refl _ _⟩
  case round =>
    obtain ⟨k, hk, rfl, heq, hup⟩ := hrel
    have HEQ := hid heq; have HUP := hid hup
    clear heq hup
    by_cases hlt : k < l1.length
    · have hlt2 : k < l2.length := by have := HL.out; omega
      obtain ⟨g1, rfl, hg1, hg1', d0, d1, d2⟩ := S1.out k hlt
      obtain ⟨g2, rfl, hg2, hg2', e0, e1, e2⟩ := S2.out k hlt2
      have hby1 := (H1.out.data l1[k] (List.getElem_mem hlt)).bytes
      have hby2 := (H2.out.data l2[k] (List.getElem_mem hlt2)).bytes
      have lt1 := (H1.out.data l1[k] (List.getElem_mem hlt)).lt
      have lt2 := (H2.out.data l2[k] (List.getElem_mem hlt2)).lt
      obtain ⟨p1, q1, hv1, -⟩ := (H1.out.data l1[k] (List.getElem_mem hlt)).shape
      obtain ⟨p2, q2, hv2, -⟩ := (H2.out.data l2[k] (List.getElem_mem hlt2)).shape
      obtain ⟨f1, hf1⟩ : ∃ f, f = l1[k] := ⟨_, rfl⟩
      obtain ⟨f2, hf2⟩ : ∃ f, f = l2[k] := ⟨_, rfl⟩
      rw [← hf1] at d0 d1 d2 hby1 lt1 hv1
      rw [← hf2] at e0 e1 e2 hby2 lt2 hv2
      have d0' : wr.cell? ⟨g1, k * 3, none⟩ = some (.string f1.name) := by rw [World.cell?_of_block (w := w) (HUP.out.block g1 hg1' (fun h => h))]; exact d0
      have d1' : wr.cell? ⟨g1, k * 3 + 1, none⟩ = some (.slice p1 f1.data.length q1) := by rw [World.cell?_of_block (w := w) (HUP.out.block g1 hg1' (fun h => h))]; exact d1.trans (by rw [hv1])
      have d2' : wr.cell? ⟨g1, k * 3 + 2, none⟩ = some (.int .i64 f1.synced) := by rw [World.cell?_of_block (w := w) (HUP.out.block g1 hg1' (fun h => h))]; exact d2
      have e0' : wr.cell? ⟨g2, k * 3, none⟩ = some (.string f2.name) := by rw [World.cell?_of_block (w := w) (HUP.out.block g2 hg2' (fun h => h))]; exact e0
      have e1' : wr.cell? ⟨g2, k * 3 + 1, none⟩ = some (.slice p2 f2.data.length q2) := by rw [World.cell?_of_block (w := w) (HUP.out.block g2 hg2' (fun h => h))]; exact e1.trans (by rw [hv2])
      have e2' : wr.cell? ⟨g2, k * 3 + 2, none⟩ = some (.int .i64 f2.synced) := by rw [World.cell?_of_block (w := w) (HUP.out.block g2 hg2' (fun h => h))]; exact e2
      have hsame : ∀ n, Calls Tryz.prog 10 #[.slice p1 f1.data.length q1, .slice p2 f2.data.length q2] (wr.drewN n) fun e w' => e = .returned (.bool (decide (f1.data = f2.data))) ∧ w' = wr.drewN n := by
        intro n
        have b1 := hby1.upd (HUP.out.drewN n) (fun a l c he _ => ⟨fun h => h, lt1 a.block (by rw [he]; rfl)⟩)
        have b2 := hby2.upd (HUP.out.drewN n) (fun a l c he _ => ⟨fun h => h, lt2 a.block (by rw [he]; rfl)⟩)
        rw [hv1] at b1
        rw [hv2] at b2
        exact same_any b1 b2
      have HSM := hid hsame
      have hq := beq_toList f1.name f2.name
      have F1 := hid hf1; have F2 := hid hf2
      clear d0 d1 d2 e0 e1 e2 hby1 hby2 lt1 lt2 hv1 hv2 hsame hf1 hf2
      have hwr := HUP.out.size
      by_cases hn : f1.name = f2.name
      · have hq' : (f1.name.toList == f2.name.toList) = true := by rw [hq]; simpa using hn
        by_cases hs : f1.synced = f2.synced
        · have hs' : ((f1.synced : Int) != (f2.synced : Int)) = false := by simp [hs]
          by_cases hd : f1.data = f2.data
          · have HSM1 := hid (fun n => (HSM.out n).mono (fun e w' h => (show e = .returned (.bool true) ∧ w' = wr.drewN n from ⟨h.1.trans (by simp [hd]), h.2⟩)))
            have HE := hid (show f1.abs = f2.abs by unfold FV.abs; rw [hn, hs, hd])
            clear hq hn hs hd
            go_wp2_with fail
            go_quiet ((go_at_call 10; exact Calls.quiet_of_same (HSM1.out _)))
            go_wp2
            go_roundw
            case rel =>
              refine ⟨k + 1, by omega, by go_num, fun j h1 h2 hj => ?_, HUP.out.drewN _⟩
              by_cases hjk : j < k
              · exact HEQ.out j h1 h2 hjk
              · obtain rfl : j = k := by omega
                rw [← F1.out, ← F2.out]; exact HE.out
            case measure => simp [intOf]; omega
          · have HSM1 := hid (fun n => (HSM.out n).mono (fun e w' h => (show e = .returned (.bool false) ∧ w' = wr.drewN n from ⟨h.1.trans (by simp [hd]), h.2⟩)))
            have HE := hid (show f1.abs ≠ f2.abs by intro h; exact hd (congrArg FileA.data h))
            clear hq hn hs hd
            go_wp2_with fail
            go_quiet ((go_at_call 10; exact Calls.quiet_of_same (HSM1.out _)))
            go_wp2
            go_ret
            exact ⟨false, rfl, ⟨(fun h => by cases h), fun h => absurd h (map_abs_ne hlt hlt2 (by rw [← F1.out, ← F2.out]; exact HE.out))⟩, HUP.out.drewN _⟩
        · have hs' : ((f1.synced : Int) != (f2.synced : Int)) = true := by simp; omega
          have HE := hid (show f1.abs ≠ f2.abs by intro h; exact hs (congrArg FileA.synced h))
          clear hq hn hs
          go_wp2_with fail
          go_quiet (fail)
          go_wp2
          go_ret
          exact ⟨false, rfl, ⟨(fun h => by cases h), fun h => absurd h (map_abs_ne hlt hlt2 (by rw [← F1.out, ← F2.out]; exact HE.out))⟩, HUP.out.drewN _⟩
      · have hq' : (f1.name.toList == f2.name.toList) = false := by rw [hq]; simpa using hn
        have HE := hid (show f1.abs ≠ f2.abs by intro h; exact hn (congrArg FileA.name h))
        clear hq hn
        go_wp2_with fail
        go_quiet (fail)
        go_wp2
        go_ret
        exact ⟨false, rfl, ⟨(fun h => by cases h), fun h => absurd h (map_abs_ne hlt hlt2 (by rw [← F1.out, ← F2.out]; exact HE.out))⟩, HUP.out.drewN _⟩
    · obtain rfl : k = l1.length := by omega
      go_wp2
      go_ret
      exact ⟨true, rfl, ⟨fun _ => map_abs_eq HL.out (fun j h1 h2 => HEQ.out j h1 h2 h1), fun _ => rfl⟩, HUP.out⟩

end Go.Proofs.YtohpgmeflmppaaaGreat

namespace Go.Proofs.YtohpgmeflmppaaaGreat
set_option linter.unusedVariables false
set_option linter.unusedSimpArgs false
set_option linter.unnecessarySimpa false
set_option linter.unusedSectionVars false
open Go Go.RowKit

theorem step_append_bytes {ops : Array Oper} {o : Oper} {a : Act} {K : Act → World → Prop} {Q : Exit → Act → World → Prop} {E : Prop}
    (hg : o.guard = none) (s x : Operand) (hop : o.op = Op.call { callee := Callee.builtin Builtin.append, args := #[s, x], argTypes := #[38, 38] })
    {w : World} {v src : Value} {bs news : List UInt8} (hs : a.eval s = v) (hx : a.eval x = src) (hd : DataIs w v bs) (hb : BytesAt w src news) (hlen : bs.length + news.length ≤ 1073741824)
    (hK : ∀ v' w', DataIs w' v' (bs ++ news) → Upd (fun k => v.ownBlock = some k) w w' → (∀ k, v'.ownBlock = some k → v.ownBlock = some k ∨ w.heap.size ≤ k) → K (a.put o.dst v') w') :
    if Region.wanted o (yielded ops a.tmps) = true then Oper.wp Tryz.prog o a w K Q else E := by
  obtain ⟨v', w', hr, h1, h2, h3⟩ := run_append_data hd hb hlen o.type
  exact step_append_eq hg s x _ hop hs hx hr (hK v' w' h1 h2 h3)

theorem append_facts {wr w2 : World} {o : Obj} {v' : Value} (hU2 : Upd (fun k => (Value.slice (some ⟨wr.heap.size, 0, none⟩) 0 0).ownBlock = some k) (wr.drew.alloc o) w2)
    (hdo2 : ∀ k, v'.ownBlock = some k → (Value.slice (some ⟨wr.heap.size, 0, none⟩) 0 0).ownBlock = some k ∨ (wr.drew.alloc o).heap.size ≤ k) :
    (∀ k, v'.ownBlock = some k → wr.drew.heap.size ≤ k) ∧ Below wr.drew.heap.size wr.drew w2 := by
  refine ⟨fun k hk => (hdo2 k hk).elim (fun e => ?_) (fun e => ?_), ?_⟩
  · simp [Value.ownBlock] at e; subst e; exact Nat.le_refl _
  · simp at e; show wr.heap.size ≤ k; omega
  · exact ((((Upd.refl (fun k => k = wr.heap.size) wr.drew).alloc o).trans hU2 (fun b hb e => by simp [Value.ownBlock] at e; exact e.symm)).below (Nat.le_refl _) (fun b e => by subst e; exact Nat.le_refl _))

set_option maxRecDepth 100000 in
set_option maxHeartbeats 3200000 in
theorem copied_any {w : World} {b1 : Nat} {v1 : Value} {l1 : List FV} (h1 : FilesAt w b1 v1 l1) (hsm : ∀ f ∈ l1, f.data.length ≤ 67108864) (hl : l1.length ≤ 256) :
    Calls Tryz.prog 43 #[v1] w fun e w' => ∃ v l, e = .returned v ∧ FilesAt w' w.heap.size v l ∧ l.map FV.abs = l1.map FV.abs ∧ Upd (fun _ => False) w w' := by
  obtain ⟨a1, c1, rfl, hc1, hm1, hs1⟩ := h1.shape
  have H1 := hid h1; have S1 := hid hs1; have HSM := hid hsm
  have hm1' : l1.length ≤ 9223372036854775807 := Nat.le_trans hc1 (by simpa [maxLen] using hm1)
  clear h1 hs1 hsm
  go_enter Tryz.func43, Tryz.ntmps43
  go_wp2
  go_loopw [3, 4] (fun lv i wr => ∃ k : Nat, k ≤ l1.length ∧ i = .int .i64 k ∧ (∃ l, l.length = k ∧ FilesAt wr w.heap.size lv l ∧ l.map FV.abs = (l1.map FV.abs).take k) ∧ Upd (fun _ => False) w wr) (fun _ i _ => l1.length - (intOf i).toNat)
  case atStart => exact ⟨0, Nat.zero_le _, rfl, ⟨[], rfl, ⟨World.ownsRow_nil _ _ _ _, by simp, by simp [fvBlocks], by simp [fvBlocks, Value.ownBlock]⟩, rfl⟩, Upd.refl _ _⟩
  case round =>
    obtain ⟨k, hk, rfl, ⟨l, hl, hfa, habs⟩, hup⟩ := hrel
    have HUP := hid hup; have HA := hid habs; have HFA := hid hfa
    clear hup habs hfa
    by_cases hlt : k < l1.length
    · obtain ⟨g, rfl, hg1, hg2, d0, d1, d2⟩ := S1.out k hlt
      have hby := (H1.out.data l1[k] (List.getElem_mem hlt)).bytes
      have lt1 := (H1.out.data l1[k] (List.getElem_mem hlt)).lt
      have hsm := HSM.out l1[k] (List.getElem_mem hlt)
      obtain ⟨p1, q1, hv1, -⟩ := (H1.out.data l1[k] (List.getElem_mem hlt)).shape
      obtain ⟨f1, hf1⟩ : ∃ f, f = l1[k] := ⟨_, rfl⟩
      rw [← hf1] at d0 d1 d2 hby lt1 hv1 hsm
      have hgr : g < wr.heap.size := Nat.lt_of_lt_of_le hg2 HUP.out.size
      have hgr1 : g < wr.heap.size + 1 := by omega
      have d0' : wr.cell? ⟨g, k * 3, none⟩ = some (.string f1.name) := by rw [World.cell?_of_block (w := w) (HUP.out.block g hg2 (fun h => h))]; exact d0
      have d1' : wr.cell? ⟨g, k * 3 + 1, none⟩ = some (.slice p1 f1.data.length q1) := by rw [World.cell?_of_block (w := w) (HUP.out.block g hg2 (fun h => h))]; exact d1.trans (by rw [hv1])
      have d2' : wr.cell? ⟨g, k * 3 + 2, none⟩ = some (.int .i64 f1.synced) := by rw [World.cell?_of_block (w := w) (HUP.out.block g hg2 (fun h => h))]; exact d2
      rw [hv1] at hby
      have HBY := hid ((hby.upd HUP.out (fun a l c he _ => ⟨fun h => h, lt1 a.block (by rw [hv1, he]; rfl)⟩)))
      have HLT := hid lt1
      have HB9 := hid (show ∀ (a : Addr) (l c : Nat), Value.slice p1 f1.data.length q1 = .slice (some a) l c → a.block < wr.heap.size from fun a l c he => Nat.lt_of_lt_of_le (lt1 a.block (by rw [hv1, he]; rfl)) HUP.out.size)
      have hws := HUP.out.size
      have HF1 := hid hf1
      clear d0 d1 d2 hby lt1 hv1 hf1
      go_wp2_with fail
      have hW0 : ∀ k : Nat, k < wr.heap.size → k < wr.heap.size + 1 := fun k hk => by omega
      have hd0 : DataIs (wr.drew.alloc (.cells #[] 5)) (.slice (some ⟨wr.heap.size, 0, none⟩) 0 0) [] := .inr ⟨wr.heap.size, 0, #[], rfl, heap_alloc_new wr.drew _, by simp, by simp, by simp, by simp⟩
      have hub : Upd (fun _ => False) wr (wr.drew.alloc (.cells #[] 5)) := ((Upd.refl _ _).drew).alloc _
      have hb0 : BytesAt (wr.drew.alloc (.cells #[] 5)) (.slice p1 f1.data.length q1) f1.data := HBY.out.upd hub (fun a l c he _ => ⟨fun h => h, HB9.out a l c he⟩)
      have HD0 := hid hd0; have HB0 := hid hb0
      have hlen12 : ([] : List UInt8).length + f1.data.length ≤ 1073741824 := by simp; omega
      have HFD := hid (HFA.out.upd ((Upd.refl (fun _ => False) wr).drew) (fun _ _ h => h))
      have hws3 : w.heap.size ≤ wr.drew.heap.size := HUP.out.size
      clear hd0 hub hb0 hW0
      go_region_held3 (fun W => W.cell? ⟨g, k * 3, none⟩ = some (.string f1.name) ∧ W.cell? ⟨g, k * 3 + 1, none⟩ = some (.slice p1 f1.data.length q1) ∧ W.cell? ⟨g, k * 3 + 2, none⟩ = some (.int .i64 f1.synced))
        (first
          | go_keep
          | (go_split_ands
             refine ⟨?_, ?_, ?_⟩
             · (first | (rw [World.cell?_of_block (w := wr.drew) (a := ⟨g, k * 3, none⟩) (hU3.block g (by simpa using hgr) (fun e => by have := (HFA.out.row.lt _ e).1; omega))]; assumption) | (rw [hbel.cell (p := ⟨g, k * 3, none⟩) (by simpa using hgr)]; assumption) | (simp [go_sem]; first | assumption | done))
             · (first | (rw [World.cell?_of_block (w := wr.drew) (a := ⟨g, k * 3 + 1, none⟩) (hU3.block g (by simpa using hgr) (fun e => by have := (HFA.out.row.lt _ e).1; omega))]; assumption) | (rw [hbel.cell (p := ⟨g, k * 3 + 1, none⟩) (by simpa using hgr)]; assumption) | (simp [go_sem]; first | assumption | done))
             · (first | (rw [World.cell?_of_block (w := wr.drew) (a := ⟨g, k * 3 + 2, none⟩) (hU3.block g (by simpa using hgr) (fun e => by have := (HFA.out.row.lt _ e).1; omega))]; assumption) | (rw [hbel.cell (p := ⟨g, k * 3 + 2, none⟩) (by simpa using hgr)]; assumption) | (simp [go_sem]; first | assumption | done))))
        ((first | (refine step_append_bytes rfl _ _ rfl (w := wr.drew.alloc (.cells #[] 5)) (v := .slice (some ⟨wr.heap.size, 0, none⟩) 0 0) (src := .slice p1 f1.data.length q1) (bs := []) (news := f1.data) rfl rfl HD0.out HB0.out hlen12 ?_; intro v' w2 hd hU2 hdo2; obtain ⟨aoc, capc, hsh, -, -, -, -⟩ := hd.shape; rw [List.nil_append] at hd hsh; obtain ⟨hdo, hbel⟩ := append_facts hU2 hdo2; subst hsh) | (refine step_append_file rfl _ _ rfl (w := wr.drew) rfl rfl HFD.out (by omega) (by assumption) (by assumption) (by assumption) (by omega) ?_; intro v' w3 hF3 hU3)))
      go_wp2
      go_roundw
      case rel =>
        refine ⟨k + 1, by omega, by go_num, ⟨_, by simp [hl], hF3, ?_⟩, HUP.out.drew.trans hU3 (fun b hb e => by have := (HFD.out.row.lt _ e).1; omega)⟩
        rw [List.map_append, HA.out, List.take_add_one, List.getElem?_map, List.getElem?_eq_getElem hlt, ← HF1.out]
        rfl
      case measure => simp [intOf]; omega
    · obtain rfl : k = l1.length := by omega
      have hfin : l.map FV.abs = l1.map FV.abs := by rw [HA.out]; exact List.take_of_length_le (by simp)
      go_wp2
      go_ret
      exact ⟨_, l, rfl, HFA.out, hfin, HUP.out⟩

end Go.Proofs.YtohpgmeflmppaaaGreat

namespace Go.Proofs.YtohpgmeflmppaaaGreat
set_option linter.unusedVariables false
set_option linter.unusedSimpArgs false
set_option linter.unnecessarySimpa false
set_option linter.unusedSectionVars false
open Go Go.RowKit

abbrev Plan := Int ⊕ (Option Nat × List FileA)

/-- What is to be done, or the error. -/
def planA (cap : Nat) (files : List FileA) (x : DidA) : Plan :=
  if x.kind = 1 then
    if (findA files (fileName x.file)).isSome then .inl 41 else if 256 ≤ files.length then .inl 44 else .inr (none, files ++ [⟨fileName x.file, [], 0⟩])
  else if x.kind = 2 then
    if 67108864 < x.b.length then .inl 2
    else match findA files (fileName x.file) with
      | none => .inl 42
      | some _ => if cap - (files.map (·.data.length)).sum < x.b.length then .inl 4 else .inr (some 6, updA files (fileName x.file) (fun f => { f with data := f.data ++ x.b }))
  else if x.kind = 3 then
    if (findA files (fileName x.file)).isSome then .inr (some 7, updA files (fileName x.file) (fun f => { f with synced := f.data.length })) else .inl 42
  else if x.kind = 4 then
    match findA files (fileName x.file) with
      | none => .inl 42
      | some f => .inr (some 8, renameF files (fileName x.file) (fileName x.to) f)
  else
    if (findA files (fileName x.file)).isSome then .inr (some 9, dropA files (fileName x.file)) else .inl 42

def planRes (a : DiskA) : Plan → Int × DiskA
  | .inl e => (e, a)
  | .inr (co, F) => actA a co F

theorem fileName_ok (n : Int) : nameOk (fileName n).data.toList = true := by
  unfold fileName
  have h : (n % 8).toNat < 8 := by omega
  obtain ⟨k, hk⟩ : ∃ k, k = (n % 8).toNat := ⟨_, rfl⟩
  rw [← hk] at h ⊢
  match k, h with
  | 0, _ => decide
  | 1, _ => decide
  | 2, _ => decide
  | 3, _ => decide
  | 4, _ => decide
  | 5, _ => decide
  | 6, _ => decide
  | 7, _ => decide
  | k + 8, h => omega

theorem isSome_findA (s : DS) (n : ByteArray) : (s.fileAt n).isSome = (findA s.abs.files n).isSome := by rw [← fileAt_findA]; simp
theorem used_abs (s : DS) : s.used = (s.abs.files.map (·.data.length)).sum := by simp [DS.used, usedOf, DS.abs, List.map_map, Function.comp_def, FRec.abs]
theorem len_abs (s : DS) : s.recs.length = s.abs.files.length := by simp [DS.abs]
theorem cap_abs (s : DS) : s.cap = s.abs.cap := rfl

theorem didA_plan {s : DS} {x : DidA} (hd : s.down = false) (h1 : 1 ≤ x.kind) (h5 : x.kind ≤ 5) : didA s x = planRes s.abs (planA s.abs.cap s.abs.files x) := by
  obtain ⟨kind, file, to, b, bv⟩ := x
  simp only at h1 h5
  have e1 := fileName_ok file
  have e2 := fileName_ok to
  have hfa := fileAt_findA s (fileName file)
  have hk : kind = 1 ∨ kind = 2 ∨ kind = 3 ∨ kind = 4 ∨ kind = 5 := by omega
  have z2 : ¬ (2 : Int) = 1 := by decide
  have z3 : ¬ (3 : Int) = 1 ∧ ¬ (3 : Int) = 2 := by decide
  have z4 : ¬ (4 : Int) = 1 ∧ ¬ (4 : Int) = 2 ∧ ¬ (4 : Int) = 3 := by decide
  have z5 : ¬ (5 : Int) = 1 ∧ ¬ (5 : Int) = 2 ∧ ¬ (5 : Int) = 3 ∧ ¬ (5 : Int) = 4 := by decide
  rcases hk with rfl | rfl | rfl | rfl | rfl
  · unfold didA planA createA
    simp only [if_true]
    rw [isSome_findA, len_abs]
    simp only [hd, e1, lookRes]
    by_cases hs : (findA s.abs.files (fileName file)).isSome = true
    · simp [hs, planRes]
    · simp only [hs]
      by_cases hl : 256 ≤ s.abs.files.length
      · simp [hl, planRes]
      · simp [hl, planRes]
  · unfold didA planA appendA
    simp only [if_neg z2, if_true]
    simp only [hd, e1, lookRes, ← used_abs, ← cap_abs]
    cases hf : s.fileAt (fileName file) with
    | none =>
      rw [hf] at hfa
      rw [← hfa]
      by_cases hl : 67108864 < b.length <;> simp [hl, planRes]
    | some r =>
      rw [hf] at hfa
      rw [← hfa]
      by_cases hl : 67108864 < b.length
      · simp [hl, planRes]
      · by_cases hr : s.cap - s.used < b.length <;> simp [hl, hr, planRes]
  · unfold didA planA syncA
    simp only [if_neg z3.1, if_neg z3.2, if_true]
    rw [isSome_findA]
    simp only [hd, e1, lookRes]
    by_cases hs : (findA s.abs.files (fileName file)).isSome = true <;> simp [hs, planRes]
  · unfold didA planA renameA
    simp only [if_neg z4.1, if_neg z4.2.1, if_neg z4.2.2, if_true]
    simp only [hd, e1, e2, lookRes]
    cases hf : s.fileAt (fileName file) with
    | none =>
      rw [hf] at hfa
      rw [← hfa]
      simp [planRes]
    | some r =>
      rw [hf] at hfa
      rw [← hfa]
      simp [planRes]
  · unfold didA planA deleteA
    simp only [if_neg z5.1, if_neg z5.2.1, if_neg z5.2.2.1, if_neg z5.2.2.2, if_true]
    rw [isSome_findA]
    simp only [hd, e1, lookRes]
    by_cases hs : (findA s.abs.files (fileName file)).isSome = true <;> simp [hs, planRes]

theorem didA_other {s : DS} {x : DidA} (h : x.kind < 1 ∨ 5 < x.kind) : didA s x = (0, s.abs) := by
  unfold didA
  rw [if_neg (by omega), if_neg (by omega), if_neg (by omega), if_neg (by omega), if_neg (by omega)]

theorem didA_down {s : DS} {x : DidA} (hd : s.down = true) (h1 : 1 ≤ x.kind) (h5 : x.kind ≤ 5) : didA s x = (3, s.abs) := by
  have hk : x.kind = 1 ∨ x.kind = 2 ∨ x.kind = 3 ∨ x.kind = 4 ∨ x.kind = 5 := by omega
  rcases hk with k | k | k | k | k <;> simp [didA, k, createA, appendA, syncA, renameA, deleteA, hd, lookRes]

/-- Whether it is down or not: down, an act changes nothing. -/
theorem didA_down_abs {s : DS} {x : DidA} (hd : s.down = true) : (didA s x).2 = s.abs := by
  by_cases h : 1 ≤ x.kind ∧ x.kind ≤ 5
  · rw [didA_down hd h.1 h.2]
  · rw [didA_other (by omega)]

theorem plan_err {cap : Nat} {files : List FileA} {x : DidA} {e : Int} (h : planA cap files x = .inl e) : e ≠ 0 := by
  unfold planA at h
  repeat' split at h
  all_goals first
    | (cases h; decide)
    | cases h

theorem plan_co {cap : Nat} {files : List FileA} {x : DidA} {co : Option Nat} {F : List FileA} (h : planA cap files x = .inr (co, F)) : co = some 6 ↔ x.kind = 2 := by
  unfold planA at h
  repeat' split at h
  all_goals first
    | (cases h; done)
    | (simp only [Sum.inr.injEq, Prod.mk.injEq] at h; obtain ⟨rfl, rfl⟩ := h; constructor <;> (intro h'; first | omega | cases h' | rfl | assumption))

/-- Two disks of the same files, one not armed. -/
structure Pair (sd sc : DS) : Prop where
  files : sd.abs.files = sc.abs.files
  cap : sd.abs.cap = sc.abs.cap
  dd : sd.down = false
  dc : sc.down = false
  ac : sc.armed = 0

theorem Pair.step {sd sc sd2 sc2 : DS} {x : DidA} (h : Pair sd sc) (h1 : 1 ≤ x.kind) (h5 : x.kind ≤ 5) (ha : 1 ≤ sd.armed)
    (hd : sd2.abs = (didA sd x).2) (hc : sc2.abs = (didA sc x).2) :
    ((didA sc x).1 ≠ 0 ∧ (didA sd x).1 = (didA sc x).1 ∧ Pair sd2 sc2 ∧ sd2.armed = sd.armed) ∨
    ((didA sc x).1 = 0 ∧ 1 < sd.armed ∧ (didA sd x).1 = 0 ∧ Pair sd2 sc2 ∧ sd2.armed = sd.armed - 1) ∨
    ((didA sc x).1 = 0 ∧ sd.armed = 1 ∧ (didA sd x).1 = 3 ∧ sd2.down = true ∧ sd2.abs.files = if x.kind = 2 then sc2.abs.files else sd.abs.files) := by
  obtain ⟨hf, hcap, hdd, hdc, hac⟩ := h
  have pd := didA_plan (x := x) hdd h1 h5
  have pc := didA_plan (x := x) hdc h1 h5
  rw [hf, hcap] at pd
  cases hp : planA sc.abs.cap sc.abs.files x with
  | inl e =>
    rw [hp] at pd pc
    rw [pd] at hd
    rw [pc] at hc
    simp only [planRes] at hd hc pd pc
    have hdn := congrArg DiskA.down hd
    have hcn := congrArg DiskA.down hc
    have har := congrArg DiskA.armed hd
    have hcr := congrArg DiskA.armed hc
    refine .inl ⟨by rw [pc]; exact plan_err hp, by rw [pc, pd], ⟨by rw [hd, hc, hf], by rw [hd, hc, hcap], ?_, ?_, ?_⟩, har⟩
    · exact hdn.trans hdd
    · exact hcn.trans hdc
    · exact hcr.trans hac
  | inr p =>
    obtain ⟨co, F⟩ := p
    have hco := plan_co hp
    rw [hp] at pd pc
    simp only [planRes] at pd pc
    have hac' : sc.abs.armed = 0 := hac
    unfold actA at pc
    rw [if_pos hac'] at pc
    rw [pc] at hc
    have hcf := congrArg DiskA.files hc
    by_cases h1' : sd.armed = 1
    · have hsd : sd.abs.armed = 1 := h1'
      unfold actA at pd
      rw [if_neg (by omega), if_pos hsd] at pd
      right; right
      refine ⟨by rw [pc], h1', ?_⟩
      by_cases h6 : co = some 6
      · rw [if_pos h6] at pd
        rw [pd] at hd
        have hdf := congrArg DiskA.files hd
        have hdn := congrArg DiskA.down hd
        refine ⟨by rw [pd], hdn, ?_⟩
        rw [if_pos (hco.1 h6), hdf, hcf]
      · rw [if_neg h6] at pd
        rw [pd] at hd
        have hdf := congrArg DiskA.files hd
        have hdn := congrArg DiskA.down hd
        refine ⟨by rw [pd], hdn, ?_⟩
        rw [if_neg (fun h => h6 (hco.2 h)), hdf]
    · have hsd : ¬ sd.abs.armed = 1 := h1'
      have hsd0 : ¬ sd.abs.armed = 0 := by show ¬ sd.armed = 0; omega
      unfold actA at pd
      rw [if_neg hsd0, if_neg hsd] at pd
      rw [pd] at hd
      have hdf := congrArg DiskA.files hd
      have hdn := congrArg DiskA.down hd
      have hda := congrArg DiskA.armed hd
      have hdc2 := congrArg DiskA.cap hd
      have hcn := congrArg DiskA.down hc
      have hca := congrArg DiskA.armed hc
      have hcc := congrArg DiskA.cap hc
      right; left
      refine ⟨by rw [pc], by omega, by rw [pd], ⟨by rw [hdf, hcf], by rw [hdc2, hcc]; exact hcap, hdn.trans hdd, hcn.trans hdc, hca.trans hac⟩, hda⟩

theorem fileList_files {s s2 : DS} (h : s.abs.files = s2.abs.files) : fileList s = fileList s2 := by rw [fileList_findA, fileList_findA, h]

end Go.Proofs.YtohpgmeflmppaaaGreat
