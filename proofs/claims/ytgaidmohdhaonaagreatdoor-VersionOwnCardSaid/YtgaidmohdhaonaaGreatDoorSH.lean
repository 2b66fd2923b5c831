/-
  Lists of bytes that were told, written full and lengthened: what each round leaves. No walk stands here.
  stratalaw10.tail; what a walk reads of the lists.
-/
import Derived.Test.YtgaidmohdhaonaaGreatDoorSG
import Derived.Test.YtgaidmohdhaonaaGreatDoorYU
namespace Go.Proofs.YtgaidmohdhaonaaGreatDoor
set_option linter.unusedVariables false
set_option linter.unusedSimpArgs false
set_option linter.unnecessarySimpa false
set_option linter.unusedSectionVars false
open Go Go.RowKit

theorem cell_lt {w : World} {a : Addr} {v : Value} (h : w.cell? a = some v) : a.block < w.heap.size := by
  cases hb : w.heap[a.block]? with
  | none => simp [World.cell?, hb] at h
  | some o => exact lt_of_heap hb

/-- What holds its place's value goes on holding it. -/
def Keeps (f : Nat → Value) (w w' : World) : Prop := w.heap.size ≤ w'.heap.size ∧ ∀ q j : Nat, w.cell? ⟨q, j, none⟩ = some (f j) → w'.cell? ⟨q, j, none⟩ = some (f j)
theorem Keeps.of_upd {f : Nat → Value} {w w' : World} (hu : Upd (fun _ => False) w w') : Keeps f w w' :=
  ⟨hu.size, fun q j h => (World.cell?_of_block (a := ⟨q, j, none⟩) (hu.block q (cell_lt h) (fun e => e))).trans h⟩
theorem Keeps.trans {f : Nat → Value} {a b c : World} (h : Keeps f a b) (h' : Keeps f b c) : Keeps f a c := ⟨Nat.le_trans h.1 h'.1, fun q j e => h'.2 q j (h.2 q j e)⟩
theorem Keeps.refl (f : Nat → Value) (w : World) : Keeps f w w := ⟨Nat.le_refl _, fun _ _ e => e⟩

theorem room_keeps {cur news : List Value} {n m j : Nat} {f : Nat → Value} (hl : news.length = m) (hc : n + m ≤ cur.length) (hf : ∀ j u, news[j]? = some u → u = f (n + j)) (hq : cur[j]? = some (f j)) : (cur.take n ++ news ++ cur.drop (n + m))[j]? = some (f j) := by
  have ht : (cur.take n).length = n := by rw [List.length_take]; omega
  by_cases hj1 : j < n
  · rw [List.append_assoc, List.getElem?_append_left (by omega), List.getElem?_take, if_pos hj1]
    exact hq
  · by_cases hj2 : j < n + m
    · rw [List.append_assoc, List.getElem?_append_right (by omega), ht, List.getElem?_append_left (by omega)]
      obtain ⟨u, hu2⟩ : ∃ u, news[j - n]? = some u := ⟨_, List.getElem?_eq_getElem (by omega)⟩
      rw [hu2, hf _ _ hu2]
      congr 2
      omega
    · rw [List.getElem?_append_right (by rw [List.length_append]; omega), List.length_append, ht, hl, List.getElem?_drop, show n + m + (j - (n + m)) = j by omega]
      exact hq
theorem getD_l {l m : List Value} {k : Nat} {d : Value} (h : k < l.length) : (l ++ m).getD k d = l.getD k d := by simp [List.getD, List.getElem?_append_left h]
theorem getD_r {l m : List Value} {k n : Nat} {d : Value} (h : l.length = n) : (l ++ m).getD (n + k) d = m.getD k d := by
  subst h
  simp [List.getD, List.getElem?_append_right]

set_option maxRecDepth 100000 in
/-- Bytes are appended that are what their places ask. -/
theorem bytes_more {w : World} {v : Value} {n : Nat} {xs : List Value} (h : SRow w 5 1 v n xs) (a : Addr) (m c : Nat) (news : List Value) (hl : news.length = m) (hnews : ∀ j u, news[j]? = some u → w.cell? (a.add j) = some u)
    (h1 : ∀ u ∈ news, u.oneCell' = true) (hn : n + m ≤ 3000000001) (f : Nat → Value) (hf : ∀ j u, news[j]? = some u → u = f (n + j)) (ty : TypeId) :
    ∃ v' w', (Builtin.append_ #[22, 22] ty #[v, .slice (some a) m c]).run Tryz.prog w = .ok v' w' ∧ SRow w' 5 1 v' (n + m) (xs ++ news) ∧
      Upd (fun k => v.ownBlock = some k) w w' ∧ (∀ k, v'.ownBlock = some k → v.ownBlock = some k ∨ w.heap.size ≤ k) ∧ Keeps f w w' ∧ SRow w' 5 1 v n xs := by
  have hr := rowBytes
  obtain ⟨v', w', hrun, hrow, hu, ho, hor⟩ := hr.more h a m c news (by rw [hl, Nat.mul_one]) hnews h1 hn ty
  refine ⟨v', w', hrun, hrow, hu, ho, ?_⟩
  rcases hor with hor | hor
  · obtain ⟨i0, zz, hi, hz0, hz1, hz2, hz3⟩ := hr.info
    rcases id h.2 with ⟨rfl, rfl⟩ | ⟨g, cap, cur, rfl, hg, hnc, hcm, hcs, htake⟩
    · exact ⟨Keeps.of_upd (hu.mono (fun _ _ e => by cases e)), h.upd hu (fun k e => by cases e)⟩
    · by_cases hroom : n + m ≤ cap
      · have hfit : n * i0.size + news.length ≤ cur.size := by rw [hl, hz1, Nat.mul_one]; omega
        have hr2 := run_append_room (P := Tryz.prog) w 22 ty 5 i0 hr.und hi g n cap cur hg a m c news (by rw [hl, hz1, Nat.mul_one]) hnews h1 hroom hfit
        have he := hrun.symm.trans hr2
        injection he with he1 he2
        subst he2
        refine ⟨⟨hu.size, fun q j hq => ?_⟩, h.1, .inr ⟨g, cap, _, rfl, setRow_heap w g cur _ 5 _ hg, hnc, hcm, ?_, ?_⟩⟩
        by_cases hqg : q = g
        · subst hqg
          rw [cell_of_row w _ j _ _ _ hg] at hq
          rw [cell_of_row _ _ j _ _ _ (setRow_heap w q cur _ 5 _ hg)]
          rw [← Array.getElem?_toList] at hq ⊢
          rw [hz1, Nat.mul_one, hl]
          exact room_keeps hl (by rw [Array.length_toList]; omega) hf hq
        · exact (World.cell?_of_block (a := ⟨q, j, none⟩) (hu.block q (cell_lt hq) (fun e => hqg (by injection e with e; exact e.symm)))).trans hq
        · simp only [List.size_toArray, List.length_append, List.length_take, List.length_drop, Array.length_toList]
          rw [hz1]
          omega
        · rw [hz1, Nat.mul_one, hl]
          rw [Nat.mul_one] at htake
          show List.take n (List.take n cur.toList ++ news ++ List.drop (n + m) cur.toList) = xs
          rw [List.append_assoc, List.take_append_of_le_length (by rw [List.length_take, Array.length_toList]; omega), List.take_take, Nat.min_self]
          exact htake
      · have hb := hr.few
        have hby : (n + m) * i0.bytes ≤ 140737488355328 := by rw [hz2]; omega
        have hr2 := run_append_grow (P := Tryz.prog) w 22 ty 5 i0 zz hr.und hi hz0 ⟨g, 0, none⟩ n cap xs (by rw [hz1]; exact h.1) (h.cells rfl) a m c news (by rw [hl, hz1, Nat.mul_one]) hnews (by omega) (by omega) (growslice_fits (by omega) (by rw [hz2]; omega))
        have he := hrun.symm.trans hr2
        injection he with he1 he2
        rw [he2]
        exact ⟨Keeps.of_upd (((Upd.refl _ _).drew).alloc _), h.upd (((Upd.refl (fun _ => False) _).drew).alloc _) (fun _ _ e => e)⟩
  · exact ⟨Keeps.of_upd hor, h.upd hor (fun _ _ e => e)⟩

/-- A list whose places hold what f asks. -/
def Vw (w : World) (g : Value) (L : Nat) (f : Nat → Value) : Prop :=
  ∃ ao c, g = .slice ao L c ∧ L ≤ c ∧ c ≤ 9223372036854775807 ∧ (∀ a, ao = some a → a.off = 0 ∧ a.spot = none) ∧ ∀ j, j < L → ∃ b, ao = some ⟨b, 0, none⟩ ∧ b < w.heap.size ∧ w.cell? ⟨b, j, none⟩ = some (f j)
theorem Vw.upd {S : Nat → Prop} {w w' : World} {g : Value} {L : Nat} {f : Nat → Value} (h : Vw w g L f) (hu : Upd S w w') (hn : ∀ k, g.ownBlock = some k → ¬ S k) : Vw w' g L f := by
  obtain ⟨ao, c, rfl, h1, h2, h3, h4⟩ := h
  refine ⟨ao, c, rfl, h1, h2, h3, fun j hj => ?_⟩
  obtain ⟨b, rfl, e1, e2⟩ := h4 j hj
  exact ⟨b, rfl, Nat.lt_of_lt_of_le e1 hu.size, (World.cell?_of_block (a := ⟨b, j, none⟩) (hu.block b e1 (hn b rfl))).trans e2⟩
theorem Vw.keeps {w w' : World} {g : Value} {L : Nat} {f : Nat → Value} (h : Vw w g L f) (hk : Keeps f w w') : Vw w' g L f := by
  obtain ⟨ao, c, rfl, h1, h2, h3, h4⟩ := h
  refine ⟨ao, c, rfl, h1, h2, h3, fun j hj => ?_⟩
  obtain ⟨b, rfl, e1, e2⟩ := h4 j hj
  exact ⟨b, rfl, Nat.lt_of_lt_of_le e1 hk.1, hk.2 b j e2⟩
theorem Vw.of_row {w : World} {g : Value} {L : Nat} {xs : List Value} {f : Nat → Value} (h : SRow w 5 1 g L xs) (hf : ∀ j u, xs[j]? = some u → u = f j) : Vw w g L f := by
  obtain ⟨ao, c, rfl, h1, h2, h3⟩ := h.slice
  refine ⟨ao, c, rfl, h1, h2, h3, fun j hj => ?_⟩
  have hlen : xs.length = L := by have := h.1; simpa using this
  obtain ⟨u, hu⟩ : ∃ u, xs[j]? = some u := ⟨_, List.getElem?_eq_getElem (by omega)⟩
  obtain ⟨b, c', e, hb, hc⟩ := h.cell hu
  injection e with e1 _ _
  exact ⟨b, e1, hb, by rw [hc, hf j u hu]⟩

/-- A list that was told: its value, its length, what it holds. -/
structure LV where
  v : Value
  n : Nat
  xs : List Value

structure LsIn (w : World) (lv : Value) (ls : List LV) : Prop where
  row : SRow w 22 1 lv ls.length (ls.map LV.v)
  vs : ∀ t (h : t < ls.length), SRow w 5 1 ls[t].v ls[t].n ls[t].xs
  one : ∀ t i q (ht : t < ls.length) (hi : i < ls.length), ls[t].v.ownBlock = some q → ls[i].v.ownBlock = some q → t = i
  out : ∀ t q (ht : t < ls.length), ls[t].v.ownBlock = some q → ¬ lv.ownBlock = some q
  short : ∀ t (h : t < ls.length), ls[t].n ≤ 1000000

def vblk (ls : List LV) (q : Nat) : Prop := ∃ t, ∃ h : t < ls.length, ls[t].v.ownBlock = some q

def mkO (i : Nat) : UInt8 := UInt8.ofNat (1 + i % 250)
def tlO (i : Nat) : UInt8 := UInt8.ofNat (251 + i % 5)
theorem mkO_val (i : Nat) : 1 + (i : Int) % 250 = ((mkO i).toNat : Int) := by unfold mkO; rw [UInt8.toNat_ofNat']; omega
theorem tlO_val (i : Nat) : 251 + (i : Int) % 5 = ((tlO i).toNat : Int) := by unfold tlO; rw [UInt8.toNat_ofNat']; omega
/-- What the places of the i-th list hold, and those behind it. -/
def fO (i n j : Nat) : Value := if j < n then byteV (mkO i) else byteV (tlO i)

section
variable {w w0 wr w' : World} {lv : Value} {ls : List LV}

theorem LsIn.tops (h : LsIn w lv ls) {S : Nat → Prop} (hu : Upd S w wr) (hS : ∀ q, q < w.heap.size → S q → vblk ls q) : SRow wr 22 1 lv ls.length (ls.map LV.v) :=
  SRow.upd h.row hu (fun q hq e => by
    obtain ⟨t, ht, e2⟩ := hS q (h.row.lt q hq) e
    exact h.out t q ht e2 hq)
theorem LsIn.lt (h : LsIn w lv ls) {q : Nat} (hq : vblk ls q) : q < w.heap.size := by
  obtain ⟨t, ht, e⟩ := hq
  exact (h.vs t ht).lt q e

/-- The first i lists are full of their marks. -/
structure MarkedO (w0 wr : World) (ls : List LV) (i : Nat) : Prop where
  done : ∀ t (h : t < ls.length), t < i → SRow wr 5 1 ls[t].v ls[t].n (rep ls[t].n [byteV (mkO t)])
  rest : ∀ t (h : t < ls.length), i ≤ t → SRow wr 5 1 ls[t].v ls[t].n ls[t].xs
  upd : Upd (vblk ls) w0 wr

theorem LsIn.marked0 (h : LsIn w0 lv ls) : MarkedO w0 w0 ls 0 := ⟨fun t _ ht => by omega, fun t ht _ => h.vs t ht, Upd.refl _ _⟩
theorem MarkedO.step {i : Nat} (hm : MarkedO w0 wr ls i) (h : LsIn w0 lv ls) (hi : i < ls.length) (hu : Upd (fun q => ls[i].v.ownBlock = some q) wr w') (hr : SRow w' 5 1 ls[i].v ls[i].n (rep ls[i].n [byteV (mkO i)])) : MarkedO w0 w' ls (i + 1) := by
  refine ⟨fun t ht hlt => ?_, fun t ht hle => ?_, hm.upd.trans hu (fun q _ e => ⟨i, hi, e⟩)⟩
  · by_cases e : t = i
    · subst e; exact hr
    · exact SRow.upd (hm.done t ht (by omega)) hu (fun q e1 e2 => e (h.one t i q ht hi e1 e2))
  · exact SRow.upd (hm.rest t ht (by omega)) hu (fun q e1 e2 => by have := h.one t i q ht hi e1 e2; omega)

/-- What the three lengthened lists of the t-th are. -/
structure Tri (w0 wr : World) (v : Value) (n t : Nat) (mv g1 g2 g3 : Value) : Prop where
  base : Vw wr v n (fO t n)
  a : Vw wr g1 (n + 1) (fO t n)
  b : Vw wr g2 (n + 2) (fO t n)
  c : Vw wr g3 (n + 70) (fO t n)
  own : ∀ g ∈ [g1, g2, g3], ∀ q, g.ownBlock = some q → (v.ownBlock = some q ∨ w0.heap.size ≤ q) ∧ ¬ mv.ownBlock = some q ∧ q < wr.heap.size

theorem Tri.upd {S : Nat → Prop} {v mv mv' g1 g2 g3 : Value} {n t : Nat} (h : Tri w0 wr v n t mv g1 g2 g3) (hu : Upd S wr w') (hv : ∀ q, v.ownBlock = some q → ¬ S q) (hg : ∀ g ∈ [g1, g2, g3], ∀ q, g.ownBlock = some q → ¬ S q) (hm : ∀ q, q < wr.heap.size → mv'.ownBlock = some q → mv.ownBlock = some q) : Tri w0 w' v n t mv' g1 g2 g3 :=
  ⟨h.base.upd hu hv, h.a.upd hu (hg g1 (by simp)), h.b.upd hu (hg g2 (by simp)), h.c.upd hu (hg g3 (by simp)), fun g hgm q hq => by
    obtain ⟨a1, a2, a3⟩ := h.own g hgm q hq
    exact ⟨a1, fun e => a2 (hm q a3 e), Nat.lt_of_lt_of_le a3 hu.size⟩⟩

/-- The first i lists were lengthened. -/
structure GrownO (w0 wr : World) (ls : List LV) (i : Nat) (mv : Value) (gs : List Value) : Prop where
  len : gs.length = 3 * i
  row : SRow wr 22 1 mv (3 * i) gs
  new : ∀ q, mv.ownBlock = some q → w0.heap.size ≤ q
  tri : ∀ t (h : t < ls.length) (hi : t < i), Tri w0 wr ls[t].v ls[t].n t mv (gs.getD (3 * t) undef) (gs.getD (3 * t + 1) undef) (gs.getD (3 * t + 2) undef)
  rest : ∀ t (h : t < ls.length), i ≤ t → SRow wr 5 1 ls[t].v ls[t].n (rep ls[t].n [byteV (mkO t)])
  upd : Upd (vblk ls) w0 wr

theorem MarkedO.grown (hm : MarkedO w0 wr ls ls.length) : GrownO w0 wr ls 0 (.slice none 0 0) [] :=
  ⟨rfl, SRow.nil _ _ _, fun q e => (by cases e), fun t _ ht => by omega, fun t ht _ => hm.done t ht ht, hm.upd⟩

/-- One more was lengthened three times (w1), and the three were kept (w2). -/
theorem GrownO.step {i : Nat} {mv mv' g1 g2 g3 : Value} {gs : List Value} {w1 w2 : World} (hg : GrownO w0 wr ls i mv gs) (h : LsIn w0 lv ls) (hi : i < ls.length)
    (u1 : Upd (fun q => ls[i].v.ownBlock = some q) wr w1) (f0 : Vw w1 ls[i].v ls[i].n (fO i ls[i].n)) (f1 : Vw w1 g1 (ls[i].n + 1) (fO i ls[i].n)) (f2 : Vw w1 g2 (ls[i].n + 2) (fO i ls[i].n)) (f3 : Vw w1 g3 (ls[i].n + 70) (fO i ls[i].n))
    (o1 : ∀ g ∈ [g1, g2, g3], ∀ q, g.ownBlock = some q → (ls[i].v.ownBlock = some q ∨ wr.heap.size ≤ q) ∧ q < w1.heap.size)
    (r2 : SRow w2 22 1 mv' (3 * i + 3) (gs ++ [g1, g2, g3])) (u2 : Upd (fun q => mv.ownBlock = some q) w1 w2) (o2 : ∀ q, mv'.ownBlock = some q → mv.ownBlock = some q ∨ w1.heap.size ≤ q) : GrownO w0 w2 ls (i + 1) mv' (gs ++ [g1, g2, g3]) := by
  have s0 := hg.upd.size
  have s1 := u1.size
  have hmv : ∀ q, mv.ownBlock = some q → w0.heap.size ≤ q ∧ q < wr.heap.size := fun q e => ⟨hg.new q e, hg.row.lt q e⟩
  have hU : Upd (fun q => ls[i].v.ownBlock = some q ∨ mv.ownBlock = some q) wr w2 := (u1.mono (fun _ _ e => .inl e)).trans u2 (fun _ _ e => .inr e)
  have hvm : ∀ t (ht : t < ls.length) q, ls[t].v.ownBlock = some q → ¬ mv.ownBlock = some q := fun t ht q e e2 => by
    have h1 := (hmv q e2).1
    have h2 := h.lt ⟨t, ht, e⟩
    omega
  have hgm : ∀ g ∈ [g1, g2, g3], ∀ q, g.ownBlock = some q → ¬ mv.ownBlock = some q := fun g hgg q e e2 => by
    rcases (o1 g hgg q e).1 with e3 | e3
    · exact hvm i hi q e3 e2
    · have := (hmv q e2).2; omega
  refine ⟨by simp [hg.len]; omega, by rw [show 3 * (i + 1) = 3 * i + 3 by omega]; exact r2, fun q e => (o2 q e).elim (hg.new q) (fun e => by omega), fun t ht hlt => ?_, fun t ht hle => ?_, ?_⟩
  · by_cases e : t = i
    · subst e
      have e1 : (gs ++ [g1, g2, g3]).getD (3 * t) undef = g1 := by exact getD_r (k := 0) hg.len
      have e2 : (gs ++ [g1, g2, g3]).getD (3 * t + 1) undef = g2 := by exact getD_r (k := 1) hg.len
      have e3 : (gs ++ [g1, g2, g3]).getD (3 * t + 2) undef = g3 := by exact getD_r (k := 2) hg.len
      rw [e1, e2, e3]
      refine ⟨f0.upd u2 (fun q e => hvm t ht q e), f1.upd u2 (hgm g1 (by simp)), f2.upd u2 (hgm g2 (by simp)), f3.upd u2 (hgm g3 (by simp)), fun g hgg q hq => ?_⟩
      obtain ⟨a1, a2⟩ := o1 g hgg q hq
      refine ⟨a1.imp id (fun e => by omega), fun e => ?_, Nat.lt_of_lt_of_le a2 u2.size⟩
      exact (o2 q e).elim (hgm g hgg q hq) (fun e => by omega)
    · have hT := hg.tri t ht (by omega)
      rw [getD_l (by rw [hg.len]; omega), getD_l (by rw [hg.len]; omega), getD_l (by rw [hg.len]; omega)]
      refine hT.upd hU (fun q e1 e2 => e2.elim (fun e2 => e (h.one t i q ht hi e1 e2)) (fun e2 => hvm t ht q e1 e2)) (fun g hgg q e1 e2 => ?_) (fun q hq e => (o2 q e).elim id (fun e => by omega))
      obtain ⟨a1, a2, a3⟩ := hT.own g hgg q e1
      rcases e2 with e2 | e2
      · rcases a1 with a1 | a1
        · exact e (h.one t i q ht hi a1 e2)
        · have := h.lt ⟨i, hi, e2⟩; omega
      · exact a2 e2
  · exact SRow.upd (hg.rest t ht (by omega)) hU (fun q e1 e2 => e2.elim (fun e2 => by have := h.one t i q ht hi e1 e2; omega) (fun e2 => hvm t ht q e1 e2))
  · exact hg.upd.trans hU (fun q hq e => e.elim (fun e => ⟨i, hi, e⟩) (fun e => by have := (hmv q e).1; omega))
end

end Go.Proofs.YtgaidmohdhaonaaGreatDoor

namespace Go.Proofs.YtgaidmohdhaonaaGreatDoor
set_option linter.unusedVariables false
set_option linter.unusedSimpArgs false
set_option linter.unnecessarySimpa false
set_option linter.unusedSectionVars false
open Go Go.RowKit

set_option maxRecDepth 100000 in
set_option maxHeartbeats 3200000 in
theorem tail_any (w : World) (i n : Nat) (hi : i ≤ 1000000) (hn : n ≤ 1000) :
    Calls Tryz.prog 78 #[.int .i64 i, .int .i64 n] w fun e w' => ∃ ao cap, e = .returned (.slice ao n cap) ∧ NewB w w' (.slice ao n cap) (List.replicate n (tlO i)) := by
  go_enter Tryz.func78, Tryz.ntmps78
  go_wp2
  go_loopw [5] (fun lv wr => ∃ k : Nat, k ≤ n ∧ ∃ ao cap, lv = .slice ao k cap ∧ NewB w wr (.slice ao k cap) (List.replicate k (tlO i))) (fun lv _ => n - lenOf lv)
  case atStart => exact ⟨0, Nat.zero_le _, none, 0, rfl, NewB.nil w⟩
  case round =>
    obtain ⟨k, hk, ao, cap, rfl, hnew⟩ := hrel
    have HNEW := hid hnew
    clear hnew
    by_cases hlt : k < n
    · have hlti : (k : Int) < (n : Int) := by omega
      obtain ⟨v', w2, hr, hn2⟩ := HNEW.out.push [tlO i] (by simp; omega) 22
      obtain ⟨ao', cap', e, -, -⟩ := hn2.shape
      rw [show (List.replicate k (tlO i) ++ [tlO i]) = List.replicate (k + 1) (tlO i) from (List.replicate_succ').symm] at hn2 e
      rw [List.length_replicate] at e
      subst e
      have hr' : (Builtin.append_ #[22, 22] 22 #[.slice ao k cap, .slice (some ⟨wr.heap.size, 0, none⟩) 1 1]).run Tryz.prog (wr.alloc (.cells #[.int .u8 ((tlO i).toNat : Int)] 5)) = .ok (.slice ao' (k + 1) cap') w2 := hr
      have HR := hid hr'; have HN2 := hid hn2
      have hme := tlO_val i
      obtain ⟨m, hm⟩ : ∃ m, m = tlO i := ⟨_, rfl⟩
      rw [← hm] at hme HR
      clear hr hr' hn2 hm
      go_wp2_with (at_builtin; refine wpList_append_run rfl _ _ _ rfl rfl rfl HR.out ?_)
      go_roundw
      case rel => exact ⟨k + 1, by omega, ao', cap', rfl, HN2.out⟩
      case measure => simp [lenOf]; omega
    · obtain rfl : k = n := by omega
      go_wp2
      go_ret
      exact ⟨ao, cap, rfl, HNEW.out⟩

theorem LsIn.rowAt {w : World} {lv : Value} {ls : List LV} (h : LsIn w lv ls) : ∃ ga la lc, lv = .slice la ls.length lc ∧ ls.length ≤ lc ∧ lc ≤ 9223372036854775807 ∧ (0 < ls.length → la = some ⟨ga, 0, none⟩) ∧
    ∀ (S : Nat → Prop) wr, Upd S w wr → (∀ q, q < w.heap.size → S q → vblk ls q) → ∀ j (hj : j < ls.length), ga < wr.heap.size ∧ wr.cell? ⟨ga, j, none⟩ = some ls[j].v := by
  obtain ⟨la, lc, hlv, h1, h2, h3⟩ := SRow.slice h.row
  obtain ⟨ga, hga⟩ : ∃ ga, 0 < ls.length → la = some ⟨ga, 0, none⟩ := by
    by_cases h0 : 0 < ls.length
    · obtain ⟨g, c, e, -, -⟩ := SRow.cell h.row (k := 0) (u := ls[0].v) (by simp [h0])
      rw [hlv] at e
      injection e with e _ _
      exact ⟨g, fun _ => e⟩
    · exact ⟨0, fun h => absurd h h0⟩
  refine ⟨ga, la, lc, hlv, h1, h2, hga, fun S wr hu hS j hj => ?_⟩
  obtain ⟨g, c, e, e1, e2⟩ := SRow.cell (h.tops hu hS) (k := j) (u := ls[j].v) (by simp [hj])
  rw [hlv, hga (by omega)] at e
  injection e with e _ _
  injection e with e
  injection e with e
  subst e
  exact ⟨e1, e2⟩

theorem rep_setO {xs : List Value} {n c : Nat} {u : Value} (hx : xs.length = n) (hc : c < n) : (rep c [u] ++ xs.drop (c * 1)).set c u = rep (c + 1) [u] ++ xs.drop ((c + 1) * 1) := by
  simp only [Nat.mul_one]
  rw [rep_succ, List.drop_eq_getElem_cons (by omega : c < xs.length)]
  have hl : (rep c [u]).length = c := by rw [rep_length, List.length_singleton, Nat.mul_one]
  rw [List.set_append_right _ _ (by omega), hl, Nat.sub_self, List.set_cons_zero, List.append_assoc]
  rfl

/-- A list full of its marks, as its places ask. -/
theorem rep_fO {t n : Nat} : ∀ j u, (rep n [byteV (mkO t)])[j]? = some u → u = fO t n j := by
  intro j u h
  rw [rep_one] at h
  have hj : j < n := by
    have := (List.getElem?_eq_some_iff.1 h).1
    simpa using this
  rw [List.getElem?_replicate, if_pos hj] at h
  unfold fO
  rw [if_pos hj]
  exact (Option.some.inj h).symm

/-- Marks of the tail are appended to what stands at n or behind. -/
theorem tail_more {w : World} {v : Value} {t n L m : Nat} {xs : List Value} (h : SRow w 5 1 v L xs) (hL : n ≤ L) {ao : Option Addr} {cap : Nat} {w0 : World} (hs : NewB w0 w (.slice ao m cap) (List.replicate m (tlO t))) (hm : 0 < m) (hn : L + m ≤ 3000000001) (hxs : ∀ j u, xs[j]? = some u → u = fO t n j) (ty : TypeId) :
    ∃ v' w', (Builtin.append_ #[22, 22] ty #[v, .slice ao m cap]).run Tryz.prog w = .ok v' w' ∧ (∃ ys, SRow w' 5 1 v' (L + m) ys ∧ ∀ j u, ys[j]? = some u → u = fO t n j) ∧
      Upd (fun k => v.ownBlock = some k) w w' ∧ (∀ k, v'.ownBlock = some k → v.ownBlock = some k ∨ w.heap.size ≤ k) ∧ Keeps (fO t n) w w' ∧ SRow w' 5 1 v L xs := by
  have hrow := SRow.of_data hs.data
  rw [List.length_replicate] at hrow
  obtain ⟨g, hao⟩ : ∃ g, ao = some ⟨g, 0, none⟩ := by
    rcases hrow.2 with ⟨-, e⟩ | ⟨g, c, cur, e, -⟩
    · omega
    · injection e with e _ _; exact ⟨g, e⟩
  subst hao
  obtain ⟨v', w', hrun, hr, hu, ho, hk⟩ := bytes_more h ⟨g, 0, none⟩ m cap ((List.replicate m (tlO t)).map byteV) (by simp) (hrow.cells rfl) (fun u hu => by obtain ⟨b, -, rfl⟩ := List.mem_map.1 hu; rfl) hn (fO t n) (fun j u hj => by
    rw [List.map_replicate, List.getElem?_replicate] at hj
    split at hj
    · have := Option.some.inj hj
      rw [← this]
      unfold fO
      rw [if_neg (by omega)]
    · cases hj) ty
  refine ⟨v', w', hrun, ⟨_, hr, fun j u hj => ?_⟩, hu, ho, hk⟩
  have hl : xs.length = L := by have := h.1; simpa using this
  by_cases hjl : j < L
  · rw [List.getElem?_append_left (by omega)] at hj
    exact hxs j u hj
  · rw [List.getElem?_append_right (by omega), List.map_replicate, List.getElem?_replicate] at hj
    split at hj
    · have := Option.some.inj hj
      rw [← this]
      unfold fO
      rw [if_neg (by omega)]
    · cases hj

end Go.Proofs.YtgaidmohdhaonaaGreatDoor
