/-
  manifest.Load, walked once more: the disk keeps its blocks.
  Lists that were handed out and lie untouched, in memory: rows of any element; what a push, a mark and a growth leave. No walk stands here.
-/
import Derived.Test.YtgaidmohdhaonaaGreatDoorYK
import Derived.Test.YtgaidmohdhaonaaGreatDoorYJ
import Derived.Deep.OwnRows
import Derived.Laws.CopyRow
import Derived.Laws.IdiomCopy
import Derived.Lib.SlBuf
namespace Go.Proofs.YtgaidmohdhaonaaGreatDoor
set_option linter.unusedVariables false
set_option linter.unusedSimpArgs false
set_option linter.unnecessarySimpa false
set_option linter.unusedSectionVars false
open Go Go.RowKit

set_option maxRecDepth 100000 in
set_option maxHeartbeats 3200000 in
theorem load_own {w : World} {s : DS} (hT : TabIn w) (hs : s.In w) (h0 : 0 ∉ s.blocks) (pre : ByteArray) (hp : pre.size ≤ 140737488355328) :
    Calls Tryz.prog 20 #[.pointer (some ⟨s.p, 0, none⟩), .string pre] w fun e w' => LoadRes w' w.heap.size e (loadP s.abs pre).1 ∧ ∃ s2, Step w w' s s2 ∧ s2.abs = (loadP s.abs pre).2 ∧ s2.blocks = s.blocks := by
  have HS0 := hid hs; have H00 := hid h0
  have hlt := hs.lt
  have HLT := hid hlt
  have hu1 := (Upd.refl (fun _ => False) w).alloc (.cells (verC 0 0 0 0 0 (.slice none 0 0) (.slice none 0 0)) 25)
  have HU1 := hid hu1
  have HB := hid (heap_alloc_new w (.cells (verC 0 0 0 0 0 (.slice none 0 0) (.slice none 0 0)) 25))
  have HT := hid (hT.keep hu1)
  have HS := hid (hs.upd hu1 (fun _ _ e => e))
  obtain ⟨O, hO⟩ : ∃ O, O = loadP s.abs pre := ⟨_, rfl⟩
  rw [← hO]
  unfold loadP at hO
  have HD0 := hid hO
  have hplt := hs.plt
  have hp1 : ¬ (9223372036854775807 < pre.size + 8) := by omega
  obtain ⟨p4, hp4⟩ : ∃ p4, p4 = w.heap.size := ⟨_, rfl⟩
  rw [← hp4] at HB
  have HP4 := hid hp4
  have HNB := hid (show p4 ∉ s.blocks from fun e => by have := hlt _ e; omega)
  clear hO hs h0 hlt hu1 hT hp4
  go_enter Tryz.func20, Tryz.ntmps20
  go_upto_region 1 with fail
  rw [← HP4.out]
  generalize w.alloc (.cells #[.int .i64 0, .int .i64 0, .int .i64 0, .int .i64 0, .int .i64 0, .slice none 0 0, .slice none 0 0] 25) = W1 at HU1 HB HT HS ⊢
  have HA := hid (asked_any HS.out pre hp)
  obtain ⟨e0, he0⟩ : ∃ e0, e0 = askedP s.abs pre := ⟨_, rfl⟩
  rw [← he0] at HA HD0
  clear he0
  go_wp2_with fail
  refine HA.out.mono ?_
  rintro e W ⟨rfl, hww⟩
  obtain rfl := hww.symm
  by_cases hz : e0 = 0
  · subst hz
    have hO := HD0.out
    rw [if_neg (by decide)] at hO
    have HD1 := hid hO
    clear hO
    have HZ := hid (size_p HS.out (pre ++ nameB))
    have HRD := hid (read_p HS.out (pre ++ nameB))
    obtain ⟨e1, he1⟩ : ∃ e1, e1 = lookP s.abs (pre ++ nameB) true := ⟨_, rfl⟩
    obtain ⟨n1, hn1⟩ : ∃ n1, n1 = sizeP s.abs (pre ++ nameB) := ⟨_, rfl⟩
    obtain ⟨dt, hdt⟩ : ∃ dt, dt = ((findP s.abs.files (pre ++ nameB)).map (·.data)).getD [] := ⟨_, rfl⟩
    rw [← he1, ← hn1] at HZ
    rw [← he1, ← hn1, ← hdt] at HRD
    rw [← he1, ← hdt] at HD1
    clear he1 hn1 hdt
    go_wp2_with fail
    refine HZ.out.mono ?_
    rintro e W ⟨rfl, hww⟩
    obtain rfl := hww.symm
    by_cases hz1 : e1 = 0
    · subst hz1
      have hO := HD1.out
      rw [if_neg (by decide)] at hO
      have HD2 := hid hO
      clear hO
      go_wp2_with fail
      refine (HRD.out (by first | trivial | rfl)).mono ?_
      rintro e W2 ⟨v, rfl, hdv, hnv, hst, hdl⟩
      have HST := hid hst; have HDV := hid hdv
      have hT2 := hid (HT.out.upd hst.upd H00.out)
      have HB2 := hid (hst.upd.get HB.out HNB.out)
      have HLE := hid (show w.heap.size ≤ W2.heap.size from Nat.le_trans HU1.out.size hst.upd.size)
      have HDC := hid (decode_any hT2.out hdv.bat (by omega))
      clear hst hdv hnv hdl
      go_wp2_with fail
      refine HDC.out.mono ?_
      rintro e W3 ⟨hres, hu3⟩
      cases hdc : decodeA dt with
      | none =>
        rw [hdc] at hres
        obtain rfl := hres
        have HD3 := hid (show O = ((none, 100), readP s.abs) from by rw [HD2.out, hdc])
        clear hdc
        go_upto_region 11 with fail
        have hua := (Upd.refl (fun _ => False) W3).alloc (.cells (verC 0 0 0 0 0 (.slice none 0 0) (.slice none 0 0)) 25)
        have HU4 := hid (hu3.trans hua (fun _ _ e => e))
        have HB4 := hid (HU4.out.get HB2.out (fun e => e))
        have HBN := hid (heap_alloc_new W3 (.cells (verC 0 0 0 0 0 (.slice none 0 0) (.slice none 0 0)) 25))
        obtain ⟨p11, hp11⟩ : ∃ p, p = W3.heap.size := ⟨_, rfl⟩
        rw [← hp11] at HBN
        rw [← hp11]
        generalize W3.alloc (.cells #[.int .i64 0, .int .i64 0, .int .i64 0, .int .i64 0, .int .i64 0, .slice none 0 0, .slice none 0 0] 25) = W4 at HU4 HB4 HBN ⊢
        obtain ⟨⟨q0, q1, q2, q3, q4, q5, q6⟩, ⟨z0, z1, z2, z3, z4, z5, z6⟩, hql⟩ := verCells HB4.out
        obtain ⟨⟨v0, v1, v2, v3, v4, v5, v6⟩, -, hvl⟩ := verCells HBN.out
        clear hua hu3 hp11
        go_wp2
        (try simp only [Exit.inBlock, Exit.then])
        have HO := hid (verOut_at HB4.out 0 0 0 0 0 (.slice none 0 0) (.slice none 0 0))
        refine bodyPost_ret (results_ver3 rfl _ _ p4 _ rfl rfl HO.out) rfl ?_
        rw [HD3.out]
        exact ⟨rfl, _, ((Step.of_upd HS0.out HU1.out).trans HST.out).then_upd (verOut_upd (S := fun k => k = p4) (HU4.out.mono (fun _ _ e => e.elim)) (p := p4) (fun _ => rfl) 0 0 0 0 0 (.slice none 0 0) (.slice none 0 0)) (fun k e => by rw [e]; exact ⟨by have := HP4.out; omega, HNB.out⟩), bumpRead_p s, rfl⟩
      | some x =>
        rw [hdc] at hres
        obtain ⟨v', rfl, hown⟩ := hres
        have HD3 := hid (show O = ((some x, 0), readP s.abs) from by rw [HD2.out, hdc])
        have HOWN := hid hown
        obtain ⟨st, rs, L, e, h1, h2, -, -, -⟩ := hown.ex
        obtain ⟨a1, c1, e1, -⟩ := h1.bat
        obtain ⟨a2, c2, e2⟩ := h2.slice
        obtain ⟨m1, hm1⟩ : ∃ m, m = x.state.length := ⟨_, rfl⟩
        obtain ⟨m2, hm2⟩ : ∃ m, m = L.length := ⟨_, rfl⟩
        obtain ⟨y1, hy1⟩ : ∃ y, y = x.gen := ⟨_, rfl⟩
        obtain ⟨y2, hy2⟩ : ∃ y, y = x.flushed := ⟨_, rfl⟩
        obtain ⟨y3, hy3⟩ : ∃ y, y = x.next := ⟨_, rfl⟩
        obtain ⟨y4, hy4⟩ : ∃ y, y = x.low := ⟨_, rfl⟩
        obtain ⟨y5, hy5⟩ : ∃ y, y = x.clock := ⟨_, rfl⟩
        rw [e1, e2, ← hm1, ← hm2, ← hy1, ← hy2, ← hy3, ← hy4, ← hy5] at e
        subst e
        clear hdc hown h1 h2 e1 e2 hm1 hm2 hy1 hy2 hy3 hy4 hy5
        go_upto_region 11 with fail
        have hua := (Upd.refl (fun _ => False) W3).alloc (.cells (verC y1 y2 y3 y4 y5 (.slice a1 m1 c1) (.slice a2 m2 c2)) 25)
        have HUA := hid hua
        have HU4 := hid (hu3.trans hua (fun _ _ e => e))
        have HB4 := hid (HU4.out.get HB2.out (fun e => e))
        have HBN := hid (heap_alloc_new W3 (.cells (verC y1 y2 y3 y4 y5 (.slice a1 m1 c1) (.slice a2 m2 c2)) 25))
        obtain ⟨p11, hp11⟩ : ∃ p, p = W3.heap.size := ⟨_, rfl⟩
        rw [← hp11] at HBN
        rw [← hp11]
        generalize W3.alloc (.cells #[.int .i64 y1, .int .i64 y2, .int .i64 y3, .int .i64 y4, .int .i64 y5, .slice a1 m1 c1, .slice a2 m2 c2] 25) = W4 at HUA HU4 HB4 HBN ⊢
        obtain ⟨⟨q0, q1, q2, q3, q4, q5, q6⟩, ⟨z0, z1, z2, z3, z4, z5, z6⟩, hql⟩ := verCells HB4.out
        obtain ⟨⟨v0, v1, v2, v3, v4, v5, v6⟩, -, hvl⟩ := verCells HBN.out
        have HP2 := hid (show p4 < W2.heap.size from lt_of_heap HB2.out)
        clear hua hu3 hp11
        go_wp2
        (try simp only [Exit.inBlock, Exit.then])
        have HO := hid (verOut_at HB4.out y1 y2 y3 y4 y5 (.slice a1 m1 c1) (.slice a2 m2 c2))
        refine bodyPost_ret (results_ver3 rfl _ _ p4 _ rfl rfl HO.out) rfl ?_
        rw [HD3.out]
        refine ⟨⟨_, rfl, (HOWN.out.keep (verOut_upd (S := fun k => k = p4) (HUA.out.mono (fun _ _ e => e.elim)) (p := p4) (fun _ => rfl) y1 y2 y3 y4 y5 (.slice a1 m1 c1) (.slice a2 m2 c2)) (fun k e => by rw [e]; exact HP2.out)).lower HLE.out⟩, _, ((Step.of_upd HS0.out HU1.out).trans HST.out).then_upd (verOut_upd (S := fun k => k = p4) (HU4.out.mono (fun _ _ e => e.elim)) (p := p4) (fun _ => rfl) y1 y2 y3 y4 y5 (.slice a1 m1 c1) (.slice a2 m2 c2)) (fun k e => by rw [e]; exact ⟨by have := HP4.out; omega, HNB.out⟩), bumpRead_p s, rfl⟩
    · have HD := hid (show O = ((none, 0), s.abs) from by rw [HD1.out, if_pos hz1])
      have hnb : (e1 != 0) = true := by simpa using hz1
      clear hz1
      obtain ⟨⟨q0, q1, q2, q3, q4, q5, q6⟩, ⟨z0, z1, z2, z3, z4, z5, z6⟩, hql⟩ := verCells HB.out
      have HO := hid (And.intro (verOut_at HB.out 0 0 0 0 0 (.slice none 0 0) (.slice none 0 0)) (verOut_upd HU1.out (p := p4) (fun e => by have := HP4.out; omega) 0 0 0 0 0 (.slice none 0 0) (.slice none 0 0)))
      go_wp2
      (try simp only [Exit.inBlock, Exit.then])
      refine bodyPost_ret (results_ver3 rfl _ _ p4 _ rfl rfl HO.out.1) rfl ?_
      rw [HD.out]
      exact ⟨rfl, s, Step.of_upd HS0.out HO.out.2, rfl, rfl⟩
  · have HD := hid (show O = ((none, e0), s.abs) from by rw [HD0.out, if_pos hz])
    have hnb : (e0 != 0) = true := by simpa using hz
    clear hz
    obtain ⟨⟨q0, q1, q2, q3, q4, q5, q6⟩, ⟨z0, z1, z2, z3, z4, z5, z6⟩, hql⟩ := verCells HB.out
    have HO := hid (And.intro (verOut_at HB.out 0 0 0 0 0 (.slice none 0 0) (.slice none 0 0)) (verOut_upd HU1.out (p := p4) (fun e => by have := HP4.out; omega) 0 0 0 0 0 (.slice none 0 0) (.slice none 0 0)))
    go_wp2
    (try simp only [Exit.inBlock, Exit.then])
    refine bodyPost_ret (results_ver3 rfl _ _ p4 _ rfl rfl HO.out.1) rfl ?_
    rw [HD.out]
    exact ⟨rfl, s, Step.of_upd HS0.out HO.out.2, rfl, rfl⟩

end Go.Proofs.YtgaidmohdhaonaaGreatDoor

namespace Go.Proofs.YtgaidmohdhaonaaGreatDoor
set_option linter.unusedVariables false
set_option linter.unusedSimpArgs false
set_option linter.unnecessarySimpa false
set_option linter.unusedSectionVars false
open Go Go.RowKit

/-- T is the type of slices of E; an element has z cells and b bytes. -/
structure RowTy (T E : TypeId) (z b : Nat) : Prop where
  und : Tryz.prog.underlying T = some (.slice E)
  info : ∃ i0 zz, Tryz.prog.info? E = some i0 ∧ i0.zero = some zz ∧ i0.size = z ∧ i0.bytes = b ∧ zz.cells.size = z
  pos : 0 < z
  few : b ≤ 64

theorem Tryz.infoByteR : (Tryz.prog.info? 5).map (fun i => (i.zero, i.size, i.bytes)) = some (some (.int .u8 0), 1, 1) := by kernel_rfl
theorem Tryz.infoBytesR : (Tryz.prog.info? 22).map (fun i => (i.zero, i.size, i.bytes)) = some (some (.slice none 0 0), 1, 24) := by kernel_rfl
theorem rowBytes : RowTy 22 5 1 1 := by
  obtain ⟨i0, hi, hz0, hz1, hz2⟩ := info_parts Tryz.infoByteR
  exact ⟨Tryz.underlying22, ⟨i0, _, hi, hz0, hz1, hz2, rfl⟩, by decide, by decide⟩
theorem rowLists : RowTy 43 22 1 24 := by
  obtain ⟨i0, hi, hz0, hz1, hz2⟩ := info_parts Tryz.infoBytesR
  exact ⟨Tryz.underlying43, ⟨i0, _, hi, hz0, hz1, hz2, rfl⟩, by decide, by decide⟩
def SRow (w : World) (E : TypeId) (z : Nat) (v : Value) (n : Nat) (xs : List Value) : Prop :=
  xs.length = n * z ∧ ((v = .slice none 0 0 ∧ n = 0) ∨ ∃ g cap cur, v = .slice (some ⟨g, 0, none⟩) n cap ∧ w.heap[g]? = some (.cells cur E (0, 0)) ∧ n ≤ cap ∧ cap ≤ maxLen ∧ cap * z ≤ cur.size ∧ cur.toList.take (n * z) = xs)

theorem SRow.of_owns {w : World} {base z n : Nat} {E : TypeId} {v : Value} {xs : List Value} (h : w.ownsRow base E z v n xs) : SRow w E z v n xs := by
  refine ⟨h.1, h.2.imp id ?_⟩
  rintro ⟨g, cap, cur, hv, -, hg, h1, h2, h3, h4⟩
  exact ⟨g, cap, cur, hv, hg, h1, h2, Nat.le_of_eq h3.symm, h4⟩

theorem SRow.nil (w : World) (E : TypeId) (z : Nat) : SRow w E z (.slice none 0 0) 0 [] := ⟨by simp, .inl ⟨rfl, rfl⟩⟩

theorem SRow.of_data {w : World} {v : Value} {bs : List UInt8} (h : DataIs w v bs) : SRow w 5 1 v bs.length (bs.map byteV) := by
  refine ⟨by simp, ?_⟩
  rcases h with ⟨rfl, rfl⟩ | ⟨g, cap, cur, rfl, hg, h1, h2, h3, h4⟩
  · exact .inl ⟨rfl, rfl⟩
  · exact .inr ⟨g, cap, cur, rfl, hg, h1, h3, by rw [Nat.mul_one]; exact h2, by simpa using h4⟩

theorem SRow.data {w : World} {v : Value} {n : Nat} {bs : List UInt8} (h : SRow w 5 1 v n (bs.map byteV)) : DataIs w v bs := by
  have hn : n = bs.length := by have := h.1; simpa using this.symm
  subst hn
  rcases h.2 with ⟨rfl, h0⟩ | ⟨g, cap, cur, rfl, hg, h1, h2, h3, h4⟩
  · exact .inl ⟨rfl, List.eq_nil_of_length_eq_zero h0⟩
  · exact .inr ⟨g, cap, cur, rfl, hg, h1, by rw [Nat.mul_one] at h3; exact h3, h2, by simpa using h4⟩

theorem SRow.upd {S : Nat → Prop} {w w' : World} {E : TypeId} {z n : Nat} {v : Value} {xs : List Value} (h : SRow w E z v n xs) (hu : Upd S w w') (hn : ∀ k, v.ownBlock = some k → ¬ S k) : SRow w' E z v n xs := by
  obtain ⟨hl, h⟩ := h
  refine ⟨hl, ?_⟩
  rcases h with h | ⟨g, cap, cur, rfl, hg, r⟩
  · exact .inl h
  · exact .inr ⟨g, cap, cur, rfl, hu.get hg (hn g rfl), r⟩

theorem SRow.lt {w : World} {E : TypeId} {z n : Nat} {v : Value} {xs : List Value} (h : SRow w E z v n xs) (k : Nat) (hk : v.ownBlock = some k) : k < w.heap.size := by
  rcases h.2 with ⟨rfl, _⟩ | ⟨g, cap, cur, rfl, hg, _⟩
  · cases hk
  · cases hk; exact lt_of_heap hg

theorem SRow.set {w : World} {E : TypeId} {z n m : Nat} {v u : Value} {xs : List Value} (h : SRow w E z v n xs) (hm : m < n * z) : ∃ g cap old, v = .slice (some ⟨g, 0, none⟩) n cap ∧ SRow (w.setCell ⟨g, m, none⟩ u) E z v n (xs.set m u) ∧
    w.cell? ⟨g, m, none⟩ = some old ∧ w.frozen? ⟨g, m, none⟩ = false ∧ g < w.heap.size ∧ n ≤ cap ∧ cap ≤ 9223372036854775807 := by
  obtain ⟨hl, hr⟩ := h
  rcases hr with ⟨rfl, hz⟩ | ⟨g, cap, cur, rfl, hg, h1, h2, h3, h4⟩
  · subst hz; simp at hm
  · have hlt : m < cur.size := Nat.lt_of_lt_of_le hm (Nat.le_trans (Nat.mul_le_mul_right _ h1) h3)
    refine ⟨g, cap, cur[m], rfl, ⟨by simpa using hl, .inr ⟨g, cap, cur.setIfInBounds m u, rfl, heap_setCell_at _ _ _ _ _ _ hg, h1, h2, by simpa using h3, ?_⟩⟩, ?_, frozen_of_row _ _ _ _ _ hg, lt_of_heap hg, h1, by simpa [maxLen] using h2⟩
    · rw [Array.toList_setIfInBounds, List.take_set, h4]
    · rw [cell_of_row _ _ _ _ _ _ hg, Array.getElem?_eq_getElem hlt]

theorem SRow.cells {w : World} {E : TypeId} {z n g c o : Nat} {v : Value} {xs : List Value} (h : SRow w E z v n xs) (hv : v = .slice (some ⟨g, o, none⟩) n c) : ∀ j u, xs[j]? = some u → w.cell? ((⟨g, o, none⟩ : Addr).add j) = some u := by
  intro j u hu
  rcases h.2 with ⟨e, _⟩ | ⟨g', cap, cur, e, hg, h1, h2, h3, h4⟩
  · rw [hv] at e; cases e
  · rw [hv] at e
    injection e with e1 _ _
    injection e1 with e1
    injection e1 with e1 e2
    subst e1 e2
    rw [show (Addr.add ⟨g, 0, none⟩ j : Addr) = ⟨g, j, none⟩ from by simp [Addr.add_lit], cell_of_row _ _ j _ _ _ hg, ← Array.getElem?_toList]
    rw [← h4, List.getElem?_take] at hu
    split at hu
    · exact hu
    · cases hu

/-- A new array of one element. -/
theorem new_cells (w : World) (E : TypeId) (M : List Value) : ∀ j u, M[j]? = some u → (w.alloc (.cells M.toArray E)).cell? ((⟨w.heap.size, 0, none⟩ : Addr).add j) = some u := by
  intro j u hu
  rw [show (Addr.add ⟨w.heap.size, 0, none⟩ j : Addr) = ⟨w.heap.size, j, none⟩ from by simp [Addr.add_lit], cell_of_row _ _ j _ _ _ (heap_alloc_new w _)]
  simpa using hu

section
variable {T E : TypeId} {z b : Nat}

/-- What an append leaves: it stays in its block, or all of it moves to a new one. -/
theorem RowTy.more (hr : RowTy T E z b) {w : World} {v : Value} {n : Nat} {xs : List Value} (h : SRow w E z v n xs) (a : Addr) (m c : Nat) (news : List Value) (hl : news.length = m * z) (hnews : ∀ j u, news[j]? = some u → w.cell? (a.add j) = some u)
    (h1 : ∀ u ∈ news, u.oneCell' = true) (hn : n + m ≤ 3000000001) (ty : TypeId) :
    ∃ v' w', (Builtin.append_ #[T, T] ty #[v, .slice (some a) m c]).run Tryz.prog w = .ok v' w' ∧ SRow w' E z v' (n + m) (xs ++ news) ∧
      Upd (fun k => v.ownBlock = some k) w w' ∧ (∀ k, v'.ownBlock = some k → v.ownBlock = some k ∨ w.heap.size ≤ k) ∧ (v'.ownBlock = v.ownBlock ∨ Upd (fun _ => False) w w') := by
  obtain ⟨i0, zz, hi, hz0, hz1, hz2, hz3⟩ := hr.info
  have hb := hr.few
  have hby : (n + m) * b ≤ 140737488355328 := Nat.le_trans (Nat.mul_le_mul hn hb) (by decide)
  have hlen : (xs ++ news).length = (n + m) * z := by rw [List.length_append, h.1, hl, Nat.add_mul]
  rcases id h.2 with ⟨rfl, rfl⟩ | ⟨g, cap, cur, rfl, hg, hnc, hcm, hcs, htake⟩
  · have hx : xs = [] := List.eq_nil_of_length_eq_zero (by have := h.1; simpa using this)
    subst hx
    obtain ⟨v', w', hrun, hown, hgr, -, hat⟩ := run_append_own_at (P := Tryz.prog) w 0 T ty E i0 zz z b hr.und hi hz0 hz1 hz2 hz3 hr.pos (.slice none 0 0) 0 [] (World.ownsRow_nil _ _ _ _) a m c news hl hnews h1 (by unfold maxLen; omega) hby (Nat.zero_le _)
    have hu : Upd (fun _ => False) w w' := (Upd.refl _ _).grown hgr (fun k hk _ => by cases hk)
    refine ⟨v', w', hrun, SRow.of_owns hown, hu.mono (fun _ _ e => e.elim), fun k hk => ?_, .inr hu⟩
    rcases hat with h1 | h1
    · exact .inl (h1 ▸ hk)
    · rw [h1] at hk
      injection hk with hk
      exact .inr (by omega)
  · subst hz1
    by_cases hroom : n + m ≤ cap
    · have hfit : n * i0.size + news.length ≤ cur.size := by rw [hl, ← Nat.add_mul]; exact Nat.le_trans (Nat.mul_le_mul_right _ hroom) hcs
      have hr2 := run_append_room (P := Tryz.prog) w T ty E i0 hr.und hi g n cap cur hg a m c news hl hnews h1 hroom hfit
      refine ⟨_, _, hr2, ⟨hlen, .inr ⟨g, cap, _, rfl, setRow_heap w g cur _ E _ hg, hroom, hcm, ?_, ?_⟩⟩, (Upd.refl _ _).grown (row := some g) ⟨rfl, rfl, rfl, by simp, fun k _ hk => setRow_other w g k _ (fun e => hk (by rw [e]))⟩ (fun k hk _ => hk), fun k hk => .inl hk, .inl rfl⟩
      · simp only [List.size_toArray, List.length_append, List.length_take, List.length_drop, Array.length_toList]
        omega
      · rw [htake, ← hlen]
        exact List.take_left
    · have hr2 := run_append_grow (P := Tryz.prog) w T ty E i0 zz hr.und hi hz0 ⟨g, 0, none⟩ n cap xs h.1 (h.cells rfl) a m c news hl hnews (by omega) (by omega) (growslice_fits (by omega) (by rw [hz2]; exact hby))
      have hge := grownCap_ge w (n + m) cap E
      have hcm : grownCap w (n + m) cap E ≤ maxLen := grownCap_le_maxLen w (n + m) cap E (by unfold maxLen; omega)
      refine ⟨_, _, hr2, ⟨hlen, .inr ⟨w.heap.size, _, _, rfl, heap_alloc_new w.drew _, hge, hcm, ?_, ?_⟩⟩, ((Upd.refl _ _).drew).alloc _, fun k hk => .inr (by simp only [Value.ownBlock, Option.some.injEq] at hk; omega), .inr (((Upd.refl _ _).drew).alloc _)⟩
      · apply Nat.le_of_eq
        simp only [Array.size_append, List.size_toArray, size_zeroCells, hz3, h.1, hl]
        rw [← Nat.add_mul, ← Nat.add_mul]
        exact congrArg (fun q => q * i0.size) (by omega)
      · simp only [Array.toList_append, List.append_assoc]
        rw [← List.append_assoc, ← hlen]
        exact List.take_left

/-- One element joins a row. -/
theorem RowTy.push (hr : RowTy T E z b) {w : World} {v : Value} {n : Nat} {xs M : List Value} (h : SRow w E z v n xs) (hM : M.length = z) (h1 : ∀ u ∈ M, u.oneCell' = true) (hn : n ≤ 3000000000) (ty : TypeId) :
    ∃ v' w', (Builtin.append_ #[T, T] ty #[v, .slice (some ⟨w.heap.size, 0, none⟩) 1 1]).run Tryz.prog (w.alloc (.cells M.toArray E)) = .ok v' w' ∧ SRow w' E z v' (n + 1) (xs ++ M) ∧
      Upd (fun k => v.ownBlock = some k) w w' ∧ (∀ k, v'.ownBlock = some k → v.ownBlock = some k ∨ w.heap.size ≤ k) ∧ (v'.ownBlock = v.ownBlock ∨ Upd (fun _ => False) w w') := by
  have hal : Upd (fun _ => False) w (w.alloc (.cells M.toArray E)) := (Upd.refl _ _).alloc _
  obtain ⟨v', w', hrun, hown, hu, hat, hor⟩ := hr.more (w := w.alloc (.cells M.toArray E)) (h.upd hal (fun _ _ h => h)) ⟨w.heap.size, 0, none⟩ 1 1 M (by rw [hM, Nat.one_mul]) (new_cells w E M) h1 (by omega) ty
  have hsz : (w.alloc (.cells M.toArray E)).heap.size = w.heap.size + 1 := by simp
  exact ⟨v', w', hrun, hown, (hal.mono (T := fun k => v.ownBlock = some k) (fun _ _ h => h.elim)).trans hu (fun _ _ h => h), fun k hk => (hat k hk).imp id (fun h => by omega), hor.imp id (fun h => hal.trans h (fun _ _ h => h))⟩

/-- A row joins a row. -/
theorem RowTy.join (hr : RowTy T E z b) {w : World} {v s : Value} {n m : Nat} {xs ys : List Value} (h : SRow w E z v n xs) (hs : SRow w E z s m ys) (h1 : ∀ u ∈ ys, u.oneCell' = true) (hn : n + m ≤ 3000000000) (ty : TypeId) :
    ∃ v' w', (Builtin.append_ #[T, T] ty #[v, s]).run Tryz.prog w = .ok v' w' ∧ SRow w' E z v' (n + m) (xs ++ ys) ∧
      Upd (fun k => v.ownBlock = some k) w w' ∧ (∀ k, v'.ownBlock = some k → v.ownBlock = some k ∨ w.heap.size ≤ k) := by
  obtain ⟨i0, zz, hi, hz0, hz1, hz2, hz3⟩ := hr.info
  rcases id hs.2 with ⟨rfl, rfl⟩ | ⟨g, cap, cur, rfl, hg, q1, q2, q3, q4⟩
  · have hy : ys = [] := List.eq_nil_of_length_eq_zero (by have := hs.1; simpa using this)
    refine ⟨v, w, ?_, by rw [hy, List.append_nil]; exact h, Upd.refl _ _, fun k hk => .inl hk⟩
    rcases h.2 with ⟨rfl, rfl⟩ | ⟨g, cap, cur, rfl, _, hnc, _⟩
    · simp [Builtin.append_, run_underlying hr.und, sizeOf, typeInfo, hi, Builtin.lenOf, Builtin.firstCells]
    · simp [Builtin.append_, run_underlying hr.und, sizeOf, typeInfo, hi, Builtin.lenOf, Builtin.firstCells, hnc, storeCells]
  · obtain ⟨v', w', hrun, hown, hu, hat, -⟩ := hr.more h ⟨g, 0, none⟩ m cap ys hs.1 (hs.cells rfl) h1 (by omega) ty
    exact ⟨v', w', hrun, hown, hu, hat⟩
end

/-- n times the same element. -/
def rep (n : Nat) (M : List Value) : List Value := (List.replicate n M).flatten

theorem rep_length (n : Nat) (M : List Value) : (rep n M).length = n * M.length := by simp [rep]
theorem rep_succ (n : Nat) (M : List Value) : rep (n + 1) M = rep n M ++ M := by simp [rep, List.replicate_succ']
theorem rep_at {n i j : Nat} {M : List Value} (hi : i < n) (hj : j < M.length) : (rep n M)[i * M.length + j]? = some M[j] := by
  induction n with
  | zero => omega
  | succ n ih =>
    rw [rep_succ]
    by_cases h : i < n
    · have h2 : i * M.length + j < (rep n M).length := by
        rw [rep_length]
        have : (i + 1) * M.length ≤ n * M.length := Nat.mul_le_mul_right _ h
        rw [Nat.add_mul] at this
        omega
      rw [List.getElem?_append_left h2]
      exact ih h
    · obtain rfl : i = n := by omega
      rw [List.getElem?_append_right (by rw [rep_length]; omega), rep_length, Nat.add_sub_cancel_left, List.getElem?_eq_getElem hj]
theorem rep_one (n : Nat) (u : Value) : rep n [u] = List.replicate n u := by
  induction n with
  | zero => rfl
  | succ n ih => rw [rep_succ, ih, List.replicate_succ']
theorem rep_map {α : Type} (f : α → Value) (n : Nat) (a : α) : rep n [f a] = (List.replicate n a).map f := by rw [rep_one, List.map_replicate]

/-- v reads as elements that are all M. -/
def FullG (w : World) (v : Value) (M : List Value) : Prop :=
  ∃ ao n c, v = .slice ao n c ∧ n ≤ c ∧ c ≤ 9223372036854775807 ∧ ∀ i, i < n → ∃ g o, ao = some ⟨g, o, none⟩ ∧ g < w.heap.size ∧ ∀ j (hj : j < M.length), w.cell? ⟨g, o + (i * M.length + j), none⟩ = some M[j]

theorem FullG.upd {S : Nat → Prop} {w w' : World} {v : Value} {M : List Value} (h : FullG w v M) (hu : Upd S w w') (hn : ∀ k, v.ownBlock = some k → ¬ S k) : FullG w' v M := by
  obtain ⟨ao, n, c, rfl, h1, h2, h3⟩ := h
  refine ⟨ao, n, c, rfl, h1, h2, fun i hi => ?_⟩
  obtain ⟨g, o, rfl, hg, hc⟩ := h3 i hi
  exact ⟨g, o, rfl, Nat.lt_of_lt_of_le hg hu.size, fun j hj => (World.cell?_of_block (a := ⟨g, o + (i * M.length + j), none⟩) (hu.block g hg (hn g rfl))).trans (hc j hj)⟩

theorem SRow.cell {w : World} {z n : Nat} {E : TypeId} {v : Value} {xs : List Value} (h : SRow w E z v n xs) {k : Nat} {u : Value} (hu : xs[k]? = some u) : ∃ g c, v = .slice (some ⟨g, 0, none⟩) n c ∧ g < w.heap.size ∧ w.cell? ⟨g, k, none⟩ = some u := by
  obtain ⟨hl, h⟩ := h
  rcases h with ⟨rfl, rfl⟩ | ⟨g, cap, cur, rfl, hg, h2, h3, h4, h5⟩
  · have : xs = [] := List.eq_nil_of_length_eq_zero (by simpa using hl)
    subst this
    simp at hu
  · refine ⟨g, cap, rfl, lt_of_heap hg, ?_⟩
    rw [cell_of_row w g k cur _ _ hg, ← Array.getElem?_toList]
    rw [← h5, List.getElem?_take] at hu
    split at hu
    · exact hu
    · cases hu

theorem SRow.slice {w : World} {z n : Nat} {E : TypeId} {v : Value} {xs : List Value} (h : SRow w E z v n xs) : ∃ ao c, v = .slice ao n c ∧ n ≤ c ∧ c ≤ 9223372036854775807 ∧ ∀ a, ao = some a → a.off = 0 ∧ a.spot = none := by
  rcases h.2 with ⟨rfl, hz⟩ | ⟨g, cap, cur, rfl, -, h1, h2, -⟩
  · exact ⟨none, 0, by rw [hz], by omega, by omega, fun a h => by cases h⟩
  · exact ⟨_, cap, rfl, h1, by simpa [maxLen] using h2, fun a h => by cases h; exact ⟨rfl, rfl⟩⟩

theorem FullG.of_owns {w : World} {n : Nat} {E : TypeId} {v : Value} {M : List Value} (h : SRow w E M.length v n (rep n M)) (hM : 0 < M.length) : FullG w v M := by
  obtain ⟨ao, c, rfl, h1, h2, h3⟩ := h.slice
  refine ⟨ao, n, c, rfl, h1, h2, fun i hi => ?_⟩
  obtain ⟨g, c', e, hg, -⟩ := h.cell (rep_at hi hM)
  injection e with e1 _ _
  subst e1
  refine ⟨g, 0, rfl, hg, fun j hj => ?_⟩
  obtain ⟨g', c', e, -, hc⟩ := h.cell (rep_at hi hj)
  injection e with e1 _ _
  injection e1 with e1
  injection e1 with e1
  subst e1
  rw [Nat.zero_add]
  exact hc

/-- A list of one mark all over grows by one more; what it was made of reads as before. -/
theorem RowTy.grow {T E : TypeId} {z b : Nat} (hr : RowTy T E z b) {w : World} {ao : Option Addr} {n c L : Nat} {gv : Value} {M : List Value} (hM : M.length = z) (h1 : ∀ u ∈ M, u.oneCell' = true) (hd : SRow w E z gv L (rep L M)) (hf : FullG w (.slice ao n c) M)
    (hz : ∀ a, ao = some a → a.off = 0 ∧ a.spot = none) (hn : n ≤ L) (hL : L ≤ 3000000000) (ty : TypeId) :
    ∃ gv' w', (Builtin.append_ #[T, T] ty #[gv, .slice (some ⟨w.heap.size, 0, none⟩) 1 1]).run Tryz.prog (w.alloc (.cells M.toArray E)) = .ok gv' w' ∧ SRow w' E z gv' (L + 1) (rep (L + 1) M) ∧ FullG w' (.slice ao n c) M ∧
      Upd (fun k => gv.ownBlock = some k) w w' ∧ ∀ k, gv'.ownBlock = some k → gv.ownBlock = some k ∨ w.heap.size ≤ k := by
  obtain ⟨gv', w', hrun, hown, hu, hat, hor⟩ := hr.push hd hM h1 hL ty
  rw [← rep_succ] at hown
  refine ⟨gv', w', hrun, hown, ?_, hu, hat⟩
  have hpos := hr.pos
  subst hM
  have hfg := FullG.of_owns hown hpos
  by_cases hsame : (Value.slice ao n c).ownBlock = gv.ownBlock
  · by_cases hg : gv'.ownBlock = gv.ownBlock
    · cases ao with
      | none => exact hf.upd hu (fun k hk => by cases hk)
      | some a =>
        obtain ⟨z1, z2⟩ := hz a rfl
        obtain ⟨g, o, s⟩ := a
        simp only at z1 z2
        subst z1 z2
        obtain ⟨ao', n', c', e1, e2, e3, e4⟩ := hf
        injection e1 with i1 i2 i3
        subst i1 i2 i3
        have hgg : gv'.ownBlock = some g := by rw [hg, ← hsame]; rfl
        obtain ⟨ga, ca, rfl, f1, f2, f3⟩ := hown.slice
        obtain ⟨ga', na, ca', e5, -, -, f4⟩ := hfg
        injection e5 with j1 j2 j3
        subst j1 j2 j3
        refine ⟨_, n, c, rfl, e2, e3, fun i hi => ?_⟩
        obtain ⟨gg, oo, q1, q2, q3⟩ := f4 i (by omega)
        subst q1
        obtain ⟨r1, -⟩ := f3 _ rfl
        simp only at r1
        subst r1
        have : gg = g := by simpa [Value.ownBlock] using hgg
        subst this
        exact ⟨gg, 0, rfl, q2, q3⟩
    · exact hf.upd (hor.resolve_left hg) (fun _ _ h => h)
  · exact hf.upd hu (fun k hk e => hsame (by rw [hk, e]))

end Go.Proofs.YtgaidmohdhaonaaGreatDoor
