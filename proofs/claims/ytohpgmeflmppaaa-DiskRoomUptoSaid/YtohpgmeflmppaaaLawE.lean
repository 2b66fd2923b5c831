/-
  Package stratalaw4, walked: copied.
-/
import Derived.Test.YtohpgmeflmppaaaLawD
import Derived.Deep.RegionHeld3
import Derived.Deep.AppendLies
namespace Go.Proofs.Ytohpgmeflmppaaa
set_option linter.unusedVariables false
set_option linter.unusedSimpArgs false
set_option linter.unnecessarySimpa false
set_option linter.unusedSectionVars false
open Go Go.RowKit

theorem step_append_bytes {ops : Array Oper} {o : Oper} {a : Act} {K : Act → World → Prop} {Q : Exit → Act → World → Prop} {E : Prop}
    (hg : o.guard = none) (s x : Operand) (hop : o.op = Op.call { callee := Callee.builtin Builtin.append, args := #[s, x], argTypes := #[30, 30] })
    {w : World} {v src : Value} {bs news : List UInt8} (hs : a.eval s = v) (hx : a.eval x = src) (hd : DataIs w v bs) (hb : BytesAt w src news) (hlen : bs.length + news.length ≤ 1073741824)
    (hK : ∀ v' w', DataIs w' v' (bs ++ news) → Upd (fun k => v.ownBlock = some k) w w' → (∀ k, v'.ownBlock = some k → v.ownBlock = some k ∨ w.heap.size ≤ k) → K (a.put o.dst v') w') :
    if Region.wanted o (yielded ops a.tmps) = true then Oper.wp Try.prog o a w K Q else E := by
  obtain ⟨v', w', hr, h1, h2, h3⟩ := run_append_data hd hb hlen o.type
  exact step_append_eq hg s x _ hop hs hx hr (hK v' w' h1 h2 h3)

theorem append_facts {wr w2 : World} {o : Obj} {v' : Value} (hU2 : Upd (fun k => (Value.slice (some ⟨wr.heap.size, 0, none⟩) 0 0).ownBlock = some k) (wr.drew.alloc o) w2)
    (hdo2 : ∀ k, v'.ownBlock = some k → (Value.slice (some ⟨wr.heap.size, 0, none⟩) 0 0).ownBlock = some k ∨ (wr.drew.alloc o).heap.size ≤ k) :
    (∀ k, v'.ownBlock = some k → wr.drew.heap.size ≤ k) ∧ Below wr.drew.heap.size wr.drew w2 := by
  refine ⟨fun k hk => (hdo2 k hk).elim (fun e => ?_) (fun e => ?_), ?_⟩
  · simp [Value.ownBlock] at e; subst e; exact Nat.le_refl _
  · simp at e; show wr.heap.size ≤ k; omega
  · exact ((((Upd.refl (fun k => k = wr.heap.size) wr.drew).alloc o).trans hU2 (fun b hb e => by simp [Value.ownBlock] at e; exact e.symm)).below (Nat.le_refl _) (fun b e => by subst e; exact Nat.le_refl _))

set_option maxRecDepth 100000 in
set_option maxHeartbeats 3200000 in
theorem copied_any {w : World} {b1 : Nat} {v1 : Value} {l1 : List FV} (h1 : FilesAt w b1 v1 l1) (hsm : ∀ f ∈ l1, f.data.length ≤ 67108864) (hl : l1.length ≤ 256) :
    Calls Try.prog 15 #[v1] w fun e w' => ∃ v l, e = .returned v ∧ FilesAt w' w.heap.size v l ∧ l.map FV.abs = l1.map FV.abs ∧ Upd (fun _ => False) w w' := by
  obtain ⟨a1, c1, rfl, hc1, hm1, hs1⟩ := h1.shape
  have H1 := hid h1; have S1 := hid hs1; have HSM := hid hsm
  have hm1' : l1.length ≤ 9223372036854775807 := Nat.le_trans hc1 (by simpa [maxLen] using hm1)
  clear h1 hs1 hsm
  go_enter Try.func15, Try.ntmps15
  go_wp2
  go_loopw [3, 4] (fun lv i wr => ∃ k : Nat, k ≤ l1.length ∧ i = .int .i64 k ∧ (∃ l, l.length = k ∧ FilesAt wr w.heap.size lv l ∧ l.map FV.abs = (l1.map FV.abs).take k) ∧ Upd (fun _ => False) w wr) (fun _ i _ => l1.length - (intOf i).toNat)
  case atStart => exact ⟨0, Nat.zero_le _, rfl, ⟨[], rfl, ⟨World.ownsRow_nil _ _ _ _, by simp, by simp [fvBlocks], by simp [fvBlocks, Value.ownBlock]⟩, rfl⟩, Upd.refl _ _⟩
  case round =>
    obtain ⟨k, hk, rfl, ⟨l, hl, hfa, habs⟩, hup⟩ := hrel
    have HUP := hid hup; have HA := hid habs; have HFA := hid hfa
    clear hup habs hfa
    by_cases hlt : k < l1.length
    · obtain ⟨g, rfl, hg1, hg2, d0, d1, d2⟩ := S1.out k hlt
      have hby := (H1.out.data l1[k] (List.getElem_mem hlt)).bytes
      have lt1 := (H1.out.data l1[k] (List.getElem_mem hlt)).lt
      have hsm := HSM.out l1[k] (List.getElem_mem hlt)
      obtain ⟨p1, q1, hv1, -⟩ := (H1.out.data l1[k] (List.getElem_mem hlt)).shape
      obtain ⟨f1, hf1⟩ : ∃ f, f = l1[k] := ⟨_, rfl⟩
      rw [← hf1] at d0 d1 d2 hby lt1 hv1 hsm
      have hgr : g < wr.heap.size := Nat.lt_of_lt_of_le hg2 HUP.out.size
      have hgr1 : g < wr.heap.size + 1 := by omega
      have d0' : wr.cell? ⟨g, k * 3, none⟩ = some (.string f1.name) := by rw [World.cell?_of_block (w := w) (HUP.out.block g hg2 (fun h => h))]; exact d0
      have d1' : wr.cell? ⟨g, k * 3 + 1, none⟩ = some (.slice p1 f1.data.length q1) := by rw [World.cell?_of_block (w := w) (HUP.out.block g hg2 (fun h => h))]; exact d1.trans (by rw [hv1])
      have d2' : wr.cell? ⟨g, k * 3 + 2, none⟩ = some (.int .i64 f1.synced) := by rw [World.cell?_of_block (w := w) (HUP.out.block g hg2 (fun h => h))]; exact d2
      rw [hv1] at hby
      have HBY := hid ((hby.upd HUP.out (fun a l c he _ => ⟨fun h => h, lt1 a.block (by rw [hv1, he]; rfl)⟩)))
      have HLT := hid lt1
      have HB9 := hid (show ∀ (a : Addr) (l c : Nat), Value.slice p1 f1.data.length q1 = .slice (some a) l c → a.block < wr.heap.size from fun a l c he => Nat.lt_of_lt_of_le (lt1 a.block (by rw [hv1, he]; rfl)) HUP.out.size)
      have hws := HUP.out.size
      have HF1 := hid hf1
      clear d0 d1 d2 hby lt1 hv1 hf1
      go_wp2_with fail
      have hW0 : ∀ k : Nat, k < wr.heap.size → k < wr.heap.size + 1 := fun k hk => by omega
      have hd0 : DataIs (wr.drew.alloc (.cells #[] 5)) (.slice (some ⟨wr.heap.size, 0, none⟩) 0 0) [] := .inr ⟨wr.heap.size, 0, #[], rfl, heap_alloc_new wr.drew _, by simp, by simp, by simp, by simp⟩
      have hub : Upd (fun _ => False) wr (wr.drew.alloc (.cells #[] 5)) := ((Upd.refl _ _).drew).alloc _
      have hb0 : BytesAt (wr.drew.alloc (.cells #[] 5)) (.slice p1 f1.data.length q1) f1.data := HBY.out.upd hub (fun a l c he _ => ⟨fun h => h, HB9.out a l c he⟩)
      have HD0 := hid hd0; have HB0 := hid hb0
      have hlen12 : ([] : List UInt8).length + f1.data.length ≤ 1073741824 := by simp; omega
      have HFD := hid (HFA.out.upd ((Upd.refl (fun _ => False) wr).drew) (fun _ _ h => h))
      have hws3 : w.heap.size ≤ wr.drew.heap.size := HUP.out.size
      clear hd0 hub hb0 hW0
      go_region_held3 (fun W => W.cell? ⟨g, k * 3, none⟩ = some (.string f1.name) ∧ W.cell? ⟨g, k * 3 + 1, none⟩ = some (.slice p1 f1.data.length q1) ∧ W.cell? ⟨g, k * 3 + 2, none⟩ = some (.int .i64 f1.synced))
        (first
          | go_keep
          | (go_split_ands
             refine ⟨?_, ?_, ?_⟩
             · (first | (rw [World.cell?_of_block (w := wr.drew) (a := ⟨g, k * 3, none⟩) (hU3.block g (by simpa using hgr) (fun e => by have := (HFA.out.row.lt _ e).1; omega))]; assumption) | (rw [hbel.cell (p := ⟨g, k * 3, none⟩) (by simpa using hgr)]; assumption) | (simp [go_sem]; first | assumption | done))
             · (first | (rw [World.cell?_of_block (w := wr.drew) (a := ⟨g, k * 3 + 1, none⟩) (hU3.block g (by simpa using hgr) (fun e => by have := (HFA.out.row.lt _ e).1; omega))]; assumption) | (rw [hbel.cell (p := ⟨g, k * 3 + 1, none⟩) (by simpa using hgr)]; assumption) | (simp [go_sem]; first | assumption | done))
             · (first | (rw [World.cell?_of_block (w := wr.drew) (a := ⟨g, k * 3 + 2, none⟩) (hU3.block g (by simpa using hgr) (fun e => by have := (HFA.out.row.lt _ e).1; omega))]; assumption) | (rw [hbel.cell (p := ⟨g, k * 3 + 2, none⟩) (by simpa using hgr)]; assumption) | (simp [go_sem]; first | assumption | done))))
        ((first | (refine step_append_bytes rfl _ _ rfl (w := wr.drew.alloc (.cells #[] 5)) (v := .slice (some ⟨wr.heap.size, 0, none⟩) 0 0) (src := .slice p1 f1.data.length q1) (bs := []) (news := f1.data) rfl rfl HD0.out HB0.out hlen12 ?_; intro v' w2 hd hU2 hdo2; obtain ⟨aoc, capc, hsh, -, -, -, -⟩ := hd.shape; rw [List.nil_append] at hd hsh; obtain ⟨hdo, hbel⟩ := append_facts hU2 hdo2; subst hsh) | (refine step_append_file rfl _ _ rfl (w := wr.drew) rfl rfl HFD.out (by omega) (by assumption) (by assumption) (by assumption) (by omega) ?_; intro v' w3 hF3 hU3)))
      go_wp2
      go_roundw
      case rel =>
        refine ⟨k + 1, by omega, by go_num, ⟨_, by simp [hl], hF3, ?_⟩, HUP.out.drew.trans hU3 (fun b hb e => by have := (HFD.out.row.lt _ e).1; omega)⟩
        rw [List.map_append, HA.out, List.take_add_one, List.getElem?_map, List.getElem?_eq_getElem hlt, ← HF1.out]
        rfl
      case measure => simp [intOf]; omega
    · obtain rfl : k = l1.length := by omega
      have hfin : l.map FV.abs = l1.map FV.abs := by rw [HA.out]; exact List.take_of_length_le (by simp)
      go_wp2
      go_ret
      exact ⟨_, l, rfl, HFA.out, hfin, HUP.out⟩

end Go.Proofs.Ytohpgmeflmppaaa
