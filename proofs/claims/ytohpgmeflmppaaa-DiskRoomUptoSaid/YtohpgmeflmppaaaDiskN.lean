/-
  Package disk, walked: names, List.
-/
import Derived.Test.YtohpgmeflmppaaaDiskA
import Derived.Test.YtohpgmeflmppaaaSorts
import Derived.Deep.LoopGhost
namespace Go.Proofs.Ytohpgmeflmppaaa
set_option linter.unusedVariables false
set_option linter.unusedSimpArgs false
set_option linter.unnecessarySimpa false
set_option linter.unusedSectionVars false
open Go Go.RowKit

def lenOf : Value → Nat | .slice _ n _ => n | _ => 0

theorem lenOf_owns {w : World} {base : Nat} {e : TypeId} {sz n : Nat} {v : Value} {xs : List Value} (h : w.ownsRow base e sz v n xs) : lenOf v = n := by
  rcases h.2 with ⟨rfl, rfl⟩ | ⟨g, cap, cur, rfl, _⟩ <;> rfl

theorem owns_lower {w : World} {base base' : Nat} {e : TypeId} {sz n : Nat} {v : Value} {xs : List Value} (h : w.ownsRow base e sz v n xs) (hb : base' ≤ base) : w.ownsRow base' e sz v n xs := by
  refine ⟨h.1, h.2.imp id ?_⟩
  rintro ⟨g, cap, cur, hv, hg, r⟩
  exact ⟨g, cap, cur, hv, by omega, r⟩

theorem IterIs.lt {w : World} {r m : Nat} {E left : List (ByteArray × Value)} (h : IterIs w r m E left) : r < w.heap.size := by
  obtain ⟨_, _, _, _, _, _, h2, _⟩ := h
  exact lt_of_heap h2

theorem IterIs.kept {w w' : World} {r m : Nat} {E left : List (ByteArray × Value)} {o : Obj} {v : Value} (h : IterIs w r m E left) (hg : (w.alloc o).grownBy w' v.ownBlock) (hv : ∀ k, v.ownBlock = some k → k ≠ r ∧ k ≠ m) : IterIs w' r m E left := by
  obtain ⟨es, c, si, se, la, h1, h2, rest⟩ := h
  have hb : ∀ k, k < w.heap.size → (∀ j, v.ownBlock = some j → j ≠ k) → w'.heap[k]? = w.heap[k]? := by
    intro k hk hn
    rw [hg.block k (by simp; omega) (fun e => hn k e.symm rfl), heap_alloc_past _ _ _ hk]
  exact ⟨es, c, si, se, la, (hb m (lt_of_heap h1) (fun j hj => (hv j hj).2)).trans h1, (hb r (lt_of_heap h2) (fun j hj => (hv j hj).1)).trans h2, rest⟩

theorem Try.info9' : (Try.prog.info? 9).map (fun i => (i.zero, i.size, i.bytes)) = some (some (.string ByteArray.empty), 1, 16) := by kernel_rfl

def DS.names (s : DS) : List ByteArray := s.recs.map (·.name)

set_option maxRecDepth 100000 in
set_option maxHeartbeats 1000000 in
theorem names_any {w : World} {s : DS} (hs : s.In w) :
    Calls Try.prog 45 #[.pointer (some ⟨s.p, 0, none⟩)] w fun e w' =>
      ∃ v n, e = .returned v ∧ w'.ownsRow w.heap.size 9 1 v n ((sortNames s.names).map Value.string) ∧ Upd (fun _ => False) w w' := by
  have cm := hs.c_map
  obtain ⟨i0, hi, hz0, hz1, hz2⟩ := info_parts Try.info9'
  obtain ⟨w1, hrange, hit, hup⟩ := run_range_map (P := Try.prog) Try.underlying89 hs.map
  go_enter Try.func45, Try.ntmps45
  go_wp2
  have hEn : s.entries.length ≤ 256 := by simpa [DS.entries] using hs.count
  have HS := hid hs
  have HR := hid hup
  have hmlt := hs.map.lt
  have hrm : w.heap.size ≠ s.m := by omega
  clear hrange hs cm hup
  go_loopw [3] (fun v wr => ∃ done left : List (ByteArray × Value), (done ++ left).Perm s.entries ∧ wr.ownsRow (w.heap.size + 1) 9 1 v done.length (done.map (fun x => Value.string x.1)) ∧ IterIs wr w.heap.size s.m s.entries left ∧ Upd (fun _ => False) w wr)
    (fun v _ => 256 - lenOf v)
  case atStart => exact ⟨[], s.entries, List.Perm.refl _, World.ownsRow_nil _ _ _ _, hit, HR.out⟩
  case round =>
    obtain ⟨done, left, hperm, hown, hit', hup'⟩ := hrel
    have hne : ∀ k, _ → w.heap.size + 1 ≤ k := fun k hk => (hown.lt k hk).1
    have hlen := lenOf_owns hown
    have HP := hid hperm
    have hdl : done.length + left.length ≤ 256 := by have := hperm.length_eq; simp at this; omega
    have HU := hid hup'
    have HN := hid hne
    have HL := hid hlen
    clear hperm hup' hne hlen
    by_cases hle : left = []
    · subst hle
      have hnx := fun T' => run_next_end (P := Try.prog) hit' T'
      clear hit hit'
      have hown' := hown
      have hlt0 := hown.lt
      obtain ⟨hl0, hv0⟩ := hown'
      have HO := hid hown
      have hsz : (done.map (fun x => x.1.data.toList)).length = done.length := by simp
      have hmap : done.map (fun x => Value.string x.1) = (done.map (fun x => x.1.data.toList)).map encStr := by
        rw [List.map_map]; apply List.map_congr_left; intro x _; simp [encStr]
      have hsort : sortNames s.names = ((done.map (fun x => x.1.data.toList)).mergeSort leB).map toBA := by
        have hp : s.names.Perm (done.map (·.1)) := by
          have := (HP.out.map (·.1)).symm
          simp only [List.append_nil] at this
          have e : s.entries.map (·.1) = s.names := by simp [DS.entries, DS.names, FRec.entry]
          rwa [e] at this
        rw [sortNames_congr hp, sortNames, List.map_map]; rfl
      have HM := hid hmap; have HT := hid hsort
      have hlen' : ((done.map (fun x => x.1.data.toList)).mergeSort leB).length = done.length := by rw [List.length_mergeSort, hsz]
      have HL' := hid hlen'
      clear hmap hsort hlen' hl0 hlt0
      rcases hv0 with ⟨hv, hd0⟩ | ⟨g, cap, cur, hv, hr⟩
      · have hd : done = [] := List.eq_nil_of_length_eq_zero hd0
        subst hd
        rw [hv]
        clear hown
        go_wp2_with (go_at_call 69; refine (Try.slices_Sort_string_none _ _ _).mono ?_; rintro e w' ⟨rfl, rfl⟩)
        go_ret
        refine ⟨_, 0, rfl, ?_, HU.out⟩
        rw [HT.out, List.map_nil, List.mergeSort_nil, List.map_nil, List.map_nil]
        exact World.ownsRow_nil _ _ _ _
      · rw [hv] at hown HN ⊢
        rw [HM.out] at hown
        obtain ⟨hh, hg, hss⟩ := holds_owned hown
        have HH := hid hh; have HW := hid hown
        clear hh hown hr
        go_wp2_with (go_at_call 69; rw [← hsz]; refine (Try.slices_Sort_string _ _ _ _ _ HH.out hg (by omega)).mono ?_; rintro e w' ⟨rfl, q, os, rfl⟩)
        go_ret
        refine ⟨_, done.length, rfl, ?_, HU.out.trans (upd_grow_put _ _ _ _ _ _ _) ?_⟩
        · rw [HT.out, List.map_map]
          exact owns_lower (owns_sorted HW.out HL'.out) (by omega)
        · intro k hk e
          have := HN.out g rfl
          omega
    · obtain ⟨pre, x, post, w2, hpp, hnx, hen, hit2, hup2⟩ := run_next_some (P := Try.prog) hit' hle hrm
      clear hit hit'
      have hb2 := hup2.size
      have hown2 := owns_upd hown hup2 (fun k hk e => by have := HN.out k hk; omega)
      have HPP := hid hpp; have HI2 := hid hit2; have HU2 := hid hup2
      clear hpp hit2 hup2 hown
      go_wp2_with (at_builtin; refine wpList_append_own _ rfl _ _ 57 rfl (w.heap.size + 1) 9 i0 (.string ByteArray.empty) 1 16 Try.underlying57 hi hz0 hz1 hz2 rfl (by decide) _ _ _ rfl (hown2.alloc _) ⟨w2.heap.size, 0, none⟩ 1 1 [.string x.1] rfl rfl ?c1 ?c2 ?c3 ?c4 ?c5 ?_)
      case c1 =>
        intro j u hj
        match j, hj with
        | 0, hj => simp at hj; subst hj; simp [Addr.add]
      case c2 => intro u hu; simp at hu; subst hu; rfl
      case c3 => unfold maxLen; omega
      case c4 => omega
      case c5 => have := HI2.out.lt; simp; omega
      intro v' w3 hown3 hg3 _
      have hU3 : Upd (fun _ => False) w w3 := by
        refine ((HU.out.trans HU2.out (fun k hk e => by omega)).alloc _).grown hg3 ?_
        intro k hk hlt
        have := HN.out k hk
        omega
      have hlen3 := lenOf_owns hown3
      have hperm3 : ((done ++ [x]) ++ (pre ++ post)).Perm s.entries := by
        refine List.Perm.trans ?_ HP.out
        rw [HPP.out, List.append_assoc]
        refine List.Perm.append_left _ ?_
        show (x :: (pre ++ post)).Perm _
        exact List.perm_middle.symm
      have hown4 : w3.ownsRow (w.heap.size + 1) 9 1 v' (done ++ [x]).length ((done ++ [x]).map (fun x => Value.string x.1)) := by
        rw [List.length_append, List.map_append]; exact hown3
      have hit3 : IterIs w3 w.heap.size s.m s.entries (pre ++ post) := HI2.out.kept hg3 (fun k hk => by have := HN.out k hk; omega)
      have H1 := hid hU3; have H3 := hid hlen3; have H4 := hid hperm3; have H5 := hid hown4; have H6 := hid hit3
      clear hU3 hlen3 hperm3 hown4 hit3 hown3 hown2 hnx hen hg3
      go_wp2
      go_roundw
      case rel => exact ⟨done ++ [x], pre ++ post, H4.out, H5.out, H6.out, H1.out⟩
      case measure => rw [H3.out, HL.out]; have : 0 < left.length := List.length_pos_iff.2 hle; omega

end Go.Proofs.Ytohpgmeflmppaaa
