/-
  The world of DiskAgain, in memory: the disks, a desk, a row of desks, a row of files. No walk stands here.
  loads, walked.
  The contracts of what DiskAgain calls, said over its whole world. No walk stands here.
-/
import Derived.Test.YtohpgmeflmppaaaGreatQA
import Derived.Test.YtohpgmeflmppaaaGreatGT
import Derived.Test.YtohpgmeflmppaaaGreatPF
import Derived.Deep.Slices
namespace Go.Proofs.YtohpgmeflmppaaaGreat
set_option linter.unusedVariables false
set_option linter.unusedSimpArgs false
set_option linter.unnecessarySimpa false
set_option linter.unusedSectionVars false
open Go Go.RowKit

/-- Who owns a block: each block has one owner, and lies from lo on, below hi. -/
structure OwnersOk (own : Nat → Nat → Prop) (lo hi : Nat) : Prop where
  lab : ∃ lab : Nat → Nat, ∀ L q, own L q → lab q = L
  rng : ∀ L q, own L q → lo ≤ q ∧ q < hi

theorem OwnersOk.one {own : Nat → Nat → Prop} {lo hi : Nat} (h : OwnersOk own lo hi) {L L' q : Nat} (h1 : own L q) (h2 : own L' q) : L = L' := by
  obtain ⟨lab, hl⟩ := h.lab
  exact (hl L q h1).symm.trans (hl L' q h2)

/-- One owner has got new blocks, or lost some. -/
theorem OwnersOk.step {own own' : Nat → Nat → Prop} {lo hi hi' : Nat} (h : OwnersOk own lo hi) (hlo : lo ≤ hi) (Lx : Nat) (hs : ∀ L q, L ≠ Lx → own' L q → own L q) (hx : ∀ q, own' Lx q → own Lx q ∨ hi ≤ q) (hhi : hi ≤ hi') (hr : ∀ q, own' Lx q → q < hi') : OwnersOk own' lo hi' := by
  obtain ⟨lab, hl⟩ := h.lab
  refine ⟨⟨fun q => if q < hi then lab q else Lx, fun L q hq => ?_⟩, fun L q hq => ?_⟩
  · show (if q < hi then lab q else Lx) = L
    by_cases e : L = Lx
    · subst e
      rcases hx q hq with h1 | h1
      · rw [if_pos (h.rng L q h1).2]; exact hl L q h1
      · rw [if_neg (by omega)]
    · have h1 := hs L q e hq
      rw [if_pos (h.rng L q h1).2]
      exact hl L q h1
  · by_cases e : L = Lx
    · subst e
      refine ⟨?_, hr q hq⟩
      rcases hx q hq with h1 | h1
      · exact (h.rng L q h1).1
      · omega
    · have h1 := h.rng L q (hs L q e hq)
      exact ⟨h1.1, Nat.lt_of_lt_of_le h1.2 hhi⟩

def ptrK (k : DK) : Value := .pointer (some ⟨k.p, 0, none⟩)

/-- All that DiskAgain holds beside the row of files' place: the disks, the desk, the row of desks, the desks, the files' cells, the call in its box. -/
structure AS where
  S : WS
  D : DK
  dsv : Value
  KS : List DK
  xs : List Value
  bx : Option (Nat × Array Value)

def agOwn (fg : Nat) (s : AS) (L q : Nat) : Prop :=
  (L = 0 ∧ ∃ L', s.S.ownAt L' q) ∨ (L = 1 ∧ s.D.own q) ∨ (L = 2 ∧ s.dsv.ownBlock = some q) ∨ (L = 3 ∧ q = fg) ∨ (L = 4 ∧ ∃ c, s.bx = some (q, c)) ∨ ∃ i, ∃ h : i < s.KS.length, L = 5 + i ∧ s.KS[i].own q

def filesV (fg : Nat) : Value := .slice (some ⟨fg, 0, none⟩) 600 600

structure AG (W wr : World) (fg : Nat) (s : AS) : Prop where
  mem : s.S.Mem W.heap.size wr
  upd : Upd (fun _ => False) W wr
  d : s.D.In wr
  row : wr.ownsRow 0 71 1 s.dsv s.KS.length (s.KS.map ptrK)
  ks : ∀ i (h : i < s.KS.length), s.KS[i].In wr
  fl : wr.ownsRow 0 80 3 (filesV fg) 600 s.xs
  box : ∀ q c, s.bx = some (q, c) → wr.heap[q]? = some (.cells c 42 (0, 0))
  own : OwnersOk (agOwn fg s) W.heap.size wr.heap.size

section
variable {W wr w' : World} {fg : Nat} {s : AS}

theorem AG.oD {q : Nat} (h : s.D.own q) : agOwn fg s 1 q := .inr (.inl ⟨rfl, h⟩)
theorem AG.oS {L q : Nat} (h : s.S.ownAt L q) : agOwn fg s 0 q := .inl ⟨rfl, L, h⟩
theorem AG.oR {q : Nat} (h : s.dsv.ownBlock = some q) : agOwn fg s 2 q := .inr (.inr (.inl ⟨rfl, h⟩))
theorem AG.oF : agOwn fg s 3 fg := .inr (.inr (.inr (.inl ⟨rfl, rfl⟩)))
theorem AG.oB {q : Nat} {c : Array Value} (h : s.bx = some (q, c)) : agOwn fg s 4 q := .inr (.inr (.inr (.inr (.inl ⟨rfl, c, h⟩))))
theorem AG.oK {i q : Nat} (hi : i < s.KS.length) (h : s.KS[i].own q) : agOwn fg s (5 + i) q := .inr (.inr (.inr (.inr (.inr ⟨i, hi, rfl, h⟩))))

/-- What only one owner's step may turn leaves the others' blocks. -/
theorem AG.out {T : Nat → Prop} (h : AG W wr fg s) {Lx : Nat} (hT : ∀ q, q < wr.heap.size → T q → agOwn fg s Lx q) {L q : Nat} (hL : L ≠ Lx) (hq : agOwn fg s L q) : ¬ T q :=
  fun ht => hL (h.own.one hq (hT q (h.own.rng L q hq).2 ht))

/-- One owner's step. -/
structure Kept (W wr w' : World) (fg : Nat) (s : AS) (Lx : Nat) : Prop where
  mem : Lx ≠ 0 → s.S.Mem W.heap.size w'
  upd : Upd (fun _ => False) W w'
  d : Lx ≠ 1 → s.D.In w'
  row : Lx ≠ 2 → w'.ownsRow 0 71 1 s.dsv s.KS.length (s.KS.map ptrK)
  ks : ∀ i (h : i < s.KS.length), Lx ≠ 5 + i → s.KS[i].In w'
  fl : Lx ≠ 3 → w'.ownsRow 0 80 3 (filesV fg) 600 s.xs
  box : Lx ≠ 4 → ∀ q c, s.bx = some (q, c) → w'.heap[q]? = some (.cells c 42 (0, 0))
  size : wr.heap.size ≤ w'.heap.size

theorem AG.kept {T : Nat → Prop} (h : AG W wr fg s) (hu : Upd T wr w') {Lx : Nat} (hT : ∀ q, q < wr.heap.size → T q → agOwn fg s Lx q) : Kept W wr w' fg s Lx where
  mem := fun hx => h.mem.keepT hu (fun L q hq => h.out hT (Ne.symm hx) (AG.oS hq))
  upd := h.upd.trans hu (fun q hq ht => by
    have h1 := (h.own.rng Lx q (hT q (Nat.lt_of_lt_of_le hq h.upd.size) ht)).1
    omega)
  d := fun hx => h.d.upd hu (fun q hq => h.out hT (Ne.symm hx) (AG.oD hq))
  row := fun hx => owns_upd h.row hu (fun q hq => h.out hT (Ne.symm hx) (AG.oR hq))
  ks := fun i hi hx => (h.ks i hi).upd hu (fun q hq => h.out hT (Ne.symm hx) (AG.oK hi hq))
  fl := fun hx => owns_upd h.fl hu (fun q hq => by
    have e : fg = q := Option.some.inj hq
    subst e
    exact h.out hT (Ne.symm hx) AG.oF)
  box := fun hx q c e => hu.get (h.box q c e) (h.out hT (Ne.symm hx) (AG.oB e))
  size := hu.size

theorem AG.keep (h : AG W wr fg s) (hu : Upd (fun _ => False) wr w') : AG W w' fg s := by
  have k := h.kept hu (Lx := 0) (fun _ _ h => h.elim)
  exact ⟨h.mem.keep hu, k.upd, k.d (by decide), k.row (by decide), fun i hi => k.ks i hi (by omega), k.fl (by decide), k.box (by decide), ⟨h.own.lab, fun L q hq => ⟨(h.own.rng L q hq).1, Nat.lt_of_lt_of_le (h.own.rng L q hq).2 hu.size⟩⟩⟩

/-- The disks have turned. -/
theorem AG.turn {S' : WS} (h : AG W wr fg s) (hm : S'.Mem W.heap.size w') (ht : Turn wr.heap.size wr w' s.S S') : AG W w' fg { s with S := S' } := by
  have k := h.kept ht.upd (Lx := 0) (fun q hq hh => hh.elim (fun ⟨L, hL⟩ => AG.oS hL) (fun h => by omega))
  refine ⟨hm, k.upd, k.d (by decide), k.row (by decide), fun i hi => k.ks i hi (by omega), k.fl (by decide), k.box (by decide), h.own.step h.upd.size 0 (fun L q hL hq => ?_) (fun q hq => ?_) ht.upd.size (fun q hq => ?_)⟩
  · rcases hq with ⟨e, _⟩ | hq
    · exact absurd e hL
    · exact .inr hq
  · rcases hq with ⟨_, L', hq⟩ | ⟨e, _⟩ | ⟨e, _⟩ | ⟨e, _⟩ | ⟨e, _⟩ | ⟨i, hi, e, _⟩
    · exact (ht.foot L' q hq).elim (fun ⟨L2, h2⟩ => .inl (AG.oS h2)) .inr
    · cases e
    · cases e
    · cases e
    · cases e
    · omega
  · rcases hq with ⟨_, L', hq⟩ | ⟨e, _⟩ | ⟨e, _⟩ | ⟨e, _⟩ | ⟨e, _⟩ | ⟨i, hi, e, _⟩
    · exact hm.lt hq
    · cases e
    · cases e
    · cases e
    · cases e
    · omega

/-- The desk has turned. -/
theorem AG.desk {D' : DK} (h : AG W wr fg s) (hst : DStep wr w' s.D D') : AG W w' fg { s with D := D' } := by
  have k := h.kept hst.upd (Lx := 1) (fun q _ hq => AG.oD hq)
  refine ⟨k.mem (by decide), k.upd, hst.ins, k.row (by decide), fun i hi => k.ks i hi (by omega), k.fl (by decide), k.box (by decide), h.own.step h.upd.size 1 (fun L q hL hq => ?_) (fun q hq => ?_) hst.upd.size (fun q hq => ?_)⟩
  · rcases hq with hq | ⟨e, _⟩ | hq
    · exact .inl hq
    · exact absurd e hL
    · exact .inr (.inr hq)
  · rcases hq with ⟨e, _⟩ | ⟨_, hq⟩ | ⟨e, _⟩ | ⟨e, _⟩ | ⟨e, _⟩ | ⟨i, hi, e, _⟩
    · cases e
    · exact (hst.foot q hq).elim (fun h2 => .inl (AG.oD h2)) .inr
    · cases e
    · cases e
    · cases e
    · omega
  · rcases hq with ⟨e, _⟩ | ⟨_, hq⟩ | ⟨e, _⟩ | ⟨e, _⟩ | ⟨e, _⟩ | ⟨i, hi, e, _⟩
    · cases e
    · exact hst.ins.lt hq
    · cases e
    · cases e
    · cases e
    · omega

theorem map_set_ptrK {l : List DK} {i : Nat} (hi : i < l.length) {k : DK} (hp : k.p = l[i].p) : (l.set i k).map ptrK = l.map ptrK := by
  apply List.ext_getElem?
  intro j
  rw [List.getElem?_map, List.getElem?_map, List.getElem?_set]
  by_cases e : i = j
  · subst e
    rw [if_pos rfl, if_pos hi, List.getElem?_eq_getElem hi]
    simp [ptrK, hp]
  · rw [if_neg e]

/-- One of the row's desks has turned. -/
theorem AG.kdesk {i : Nat} {K' : DK} (h : AG W wr fg s) (hi : i < s.KS.length) (hst : DStep wr w' s.KS[i] K') : AG W w' fg { s with KS := s.KS.set i K' } := by
  have k := h.kept hst.upd (Lx := 5 + i) (fun q _ hq => AG.oK hi hq)
  refine ⟨k.mem (by omega), k.upd, k.d (by omega), ?_, fun j hj => ?_, k.fl (by omega), k.box (by omega), h.own.step h.upd.size (5 + i) (fun L q hL hq => ?_) (fun q hq => ?_) hst.upd.size (fun q hq => ?_)⟩
  · show w'.ownsRow 0 71 1 s.dsv (s.KS.set i K').length ((s.KS.set i K').map ptrK)
    rw [List.length_set, map_set_ptrK hi hst.p]
    exact k.row (by omega)
  · have hj' : j < s.KS.length := by simpa using hj
    show ((s.KS.set i K')[j]'hj).In w'
    by_cases e : i = j
    · subst e
      rw [List.getElem_set_self]
      exact hst.ins
    · rw [List.getElem_set_ne e]
      exact k.ks j hj' (by omega)
  · rcases hq with hq | hq | hq | hq | hq | ⟨j, hj, e, hq⟩
    · exact .inl hq
    · exact .inr (.inl hq)
    · exact .inr (.inr (.inl hq))
    · exact .inr (.inr (.inr (.inl hq)))
    · exact .inr (.inr (.inr (.inr (.inl hq))))
    · have hj' : j < s.KS.length := by simpa using hj
      have hne : i ≠ j := fun e2 => hL (by omega)
      have hq' : ((s.KS.set i K')[j]'hj).own q := hq
      rw [List.getElem_set_ne hne] at hq'
      exact .inr (.inr (.inr (.inr (.inr ⟨j, hj', e, hq'⟩))))
  · rcases hq with ⟨e, _⟩ | ⟨e, _⟩ | ⟨e, _⟩ | ⟨e, _⟩ | ⟨e, _⟩ | ⟨j, hj, e, hq⟩
    · omega
    · omega
    · omega
    · omega
    · omega
    · obtain rfl : j = i := by omega
      have hq' : ((s.KS.set j K')[j]'hj).own q := hq
      rw [List.getElem_set_self] at hq'
      exact (hst.foot q hq').elim (fun h2 => .inl (AG.oK hi h2)) .inr
  · rcases hq with ⟨e, _⟩ | ⟨e, _⟩ | ⟨e, _⟩ | ⟨e, _⟩ | ⟨e, _⟩ | ⟨j, hj, e, hq⟩
    · omega
    · omega
    · omega
    · omega
    · omega
    · obtain rfl : j = i := by omega
      have hq' : ((s.KS.set j K')[j]'hj).own q := hq
      rw [List.getElem_set_self] at hq'
      exact hst.ins.lt hq'

/-- The row of files has turned. -/
theorem AG.files {xs' : List Value} (h : AG W wr fg s) (hu : Upd (fun q => q = fg) wr w') (hf : w'.ownsRow 0 80 3 (filesV fg) 600 xs') : AG W w' fg { s with xs := xs' } := by
  have k := h.kept hu (Lx := 3) (fun q _ hq => by subst hq; exact AG.oF)
  exact ⟨k.mem (by decide), k.upd, k.d (by decide), k.row (by decide), fun i hi => k.ks i hi (by omega), hf, k.box (by decide), ⟨h.own.lab, fun L q hq => ⟨(h.own.rng L q hq).1, Nat.lt_of_lt_of_le (h.own.rng L q hq).2 hu.size⟩⟩⟩

/-- A call is in a new box. -/
theorem AG.newBox (h : AG W wr fg s) (hu : Upd (fun _ => False) wr w') {fb : Nat} {c : Array Value} (hfb : wr.heap.size ≤ fb) (hb : w'.heap[fb]? = some (.cells c 42 (0, 0))) : AG W w' fg { s with bx := some (fb, c) } := by
  have k := h.keep hu
  refine ⟨k.mem, k.upd, k.d, k.row, k.ks, k.fl, fun q c' e => ?_, h.own.step h.upd.size 4 (fun L q hL hq => ?_) (fun q hq => ?_) hu.size (fun q hq => ?_)⟩
  · injection e with e
    injection e with e1 e2
    subst e1 e2
    exact hb
  · rcases hq with hq | hq | hq | hq | ⟨e, _⟩ | hq
    · exact .inl hq
    · exact .inr (.inl hq)
    · exact .inr (.inr (.inl hq))
    · exact .inr (.inr (.inr (.inl hq)))
    · exact absurd e hL
    · exact .inr (.inr (.inr (.inr (.inr hq))))
  · rcases hq with ⟨e, _⟩ | ⟨e, _⟩ | ⟨e, _⟩ | ⟨e, _⟩ | ⟨_, c', e⟩ | ⟨i, hi, e, _⟩
    · cases e
    · cases e
    · cases e
    · cases e
    · injection e with e
      injection e with e1 e2
      exact .inr (by omega)
    · omega
  · rcases hq with ⟨e, _⟩ | ⟨e, _⟩ | ⟨e, _⟩ | ⟨e, _⟩ | ⟨_, c', e⟩ | ⟨i, hi, e, _⟩
    · cases e
    · cases e
    · cases e
    · cases e
    · injection e with e
      injection e with e1 e2
      subst e1
      exact lt_of_heap hb
    · omega

/-- One more desk. -/
theorem AG.grow {w1 : World} {K : DK} {dsv' : Value} (h : AG W wr fg s) (hu1 : Upd (fun _ => False) wr w1) (hk : K.In w1) (hkn : ∀ q, K.own q → wr.heap.size ≤ q)
    (hrow : w'.ownsRow 0 71 1 dsv' (s.KS.length + 1) (s.KS.map ptrK ++ [ptrK K])) (hu2 : Upd (fun q => s.dsv.ownBlock = some q) w1 w') (hat : ∀ q, dsv'.ownBlock = some q → s.dsv.ownBlock = some q ∨ w1.heap.size ≤ q) : AG W w' fg { s with dsv := dsv', KS := s.KS ++ [K] } := by
  have h1 := h.keep hu1
  have hkd : ∀ q, K.own q → ¬ s.dsv.ownBlock = some q := fun q hq e => by have := (h.row.lt q e).2; have := hkn q hq; omega
  have hs1 := hu1.size
  have hs2 := hu2.size
  have k := h1.kept hu2 (Lx := 2) (fun q _ hq => AG.oR hq)
  have hw1 : OwnersOk (agOwn fg { s with KS := s.KS ++ [K] }) W.heap.size w1.heap.size := by
    refine h.own.step h.upd.size (5 + s.KS.length) (fun L q hL hq => ?_) (fun q hq => ?_) hs1 (fun q hq => ?_)
    · rcases hq with hq | hq | hq | hq | hq | ⟨j, hj, e, hq⟩
      · exact .inl hq
      · exact .inr (.inl hq)
      · exact .inr (.inr (.inl hq))
      · exact .inr (.inr (.inr (.inl hq)))
      · exact .inr (.inr (.inr (.inr (.inl hq))))
      · have hj' : j < s.KS.length := by have : j < s.KS.length + 1 := by simpa using hj
                                         omega
        have hq' : ((s.KS ++ [K])[j]'hj).own q := hq
        rw [List.getElem_append_left hj'] at hq'
        exact .inr (.inr (.inr (.inr (.inr ⟨j, hj', e, hq'⟩))))
    · rcases hq with ⟨e, _⟩ | ⟨e, _⟩ | ⟨e, _⟩ | ⟨e, _⟩ | ⟨e, _⟩ | ⟨j, hj, e, hq⟩
      · omega
      · omega
      · omega
      · omega
      · omega
      · obtain rfl : j = s.KS.length := by omega
        have hq' : ((s.KS ++ [K])[s.KS.length]'hj).own q := hq
        rw [List.getElem_append_right (Nat.le_refl _)] at hq'
        exact .inr (hkn q (by simpa using hq'))
    · rcases hq with ⟨e, _⟩ | ⟨e, _⟩ | ⟨e, _⟩ | ⟨e, _⟩ | ⟨e, _⟩ | ⟨j, hj, e, hq⟩
      · omega
      · omega
      · omega
      · omega
      · omega
      · obtain rfl : j = s.KS.length := by omega
        have hq' : ((s.KS ++ [K])[s.KS.length]'hj).own q := hq
        rw [List.getElem_append_right (Nat.le_refl _)] at hq'
        exact hk.lt (by simpa using hq')
  refine ⟨k.mem (by decide), k.upd, k.d (by decide), ?_, fun j hj => ?_, k.fl (by decide), k.box (by decide), hw1.step (Nat.le_trans h.upd.size hs1) 2 (fun L q hL hq => ?_) (fun q hq => ?_) hs2 (fun q hq => ?_)⟩
  · show w'.ownsRow 0 71 1 dsv' (s.KS ++ [K]).length ((s.KS ++ [K]).map ptrK)
    simpa using hrow
  · show ((s.KS ++ [K])[j]'hj).In w'
    by_cases e : j < s.KS.length
    · rw [List.getElem_append_left e]
      exact k.ks j e (by omega)
    · have ej : j = s.KS.length := by have : j < s.KS.length + 1 := by simpa using hj
                                      omega
      subst ej
      rw [List.getElem_append_right (Nat.le_refl _)]
      have e0 : [K][s.KS.length - s.KS.length]'(by simp) = K := by simp
      rw [e0]
      exact hk.upd hu2 hkd
  · rcases hq with hq | hq | ⟨e, _⟩ | hq | hq
    · exact .inl hq
    · exact .inr (.inl hq)
    · exact absurd e hL
    · exact .inr (.inr (.inr (.inl hq)))
    · exact .inr (.inr (.inr (.inr hq)))
  · rcases hq with ⟨e, _⟩ | ⟨e, _⟩ | ⟨_, hq⟩ | ⟨e, _⟩ | ⟨e, _⟩ | ⟨j, hj, e, _⟩
    · cases e
    · cases e
    · exact (hat q hq).elim (fun h2 => .inl (AG.oR h2)) .inr
    · cases e
    · cases e
    · omega
  · rcases hq with ⟨e, _⟩ | ⟨e, _⟩ | ⟨_, hq⟩ | ⟨e, _⟩ | ⟨e, _⟩ | ⟨j, hj, e, _⟩
    · cases e
    · cases e
    · exact (hrow.lt q hq).2
    · cases e
    · cases e
    · omega
end

end Go.Proofs.YtohpgmeflmppaaaGreat

namespace Go.Proofs.YtohpgmeflmppaaaGreat
set_option linter.unusedVariables false
set_option linter.unusedSimpArgs false
set_option linter.unnecessarySimpa false
set_option linter.unusedSectionVars false
open Go Go.RowKit

theorem LoadRes.more {w w1 w2 : World} {cap : Int} {R : Int ⊕ List FileA} {e : Ending} (h : LoadRes w cap R e w1) (hu : Upd (fun _ => False) w1 w2) : LoadRes w cap R e w2 := by
  obtain ⟨h1, h2⟩ := h
  refine ⟨h1.trans hu (fun _ _ h => h), ?_⟩
  cases R with
  | inl err => exact h2
  | inr F =>
    obtain ⟨s, e1, e2, e3, e4⟩ := h2
    exact ⟨s, e1, e2.upd hu (fun _ _ h => h), e3, e4⟩

set_option maxRecDepth 100000 in
set_option maxHeartbeats 3200000 in
theorem loads_any {w0 w1 w : World} {S : WS} {o : OpI} {x : Value} {c : Int} {l' : List FileI} (hw : WOn w0 w S) (hw1 : WOn w0 w1 S) (hld : LoadRes w1 o.n (loadA o.n l') (.returned (.tuple #[x, .int .i64 c])) w) (hcore : l'.map FileI.core = o.files.map FileI.core)
    (ho : OpShapes o) (hfi : FilesIn w0 o.fv o.files) (hfs : ∀ f ∈ o.files, f.data.length ≤ 16777216) :
    Calls Tryz.prog 33 #[.pointer (some ⟨S.p, 0, none⟩), x, .int .i64 c, .agg o.cells] w fun e w' => e = .returned (.bool true) ∧ Went w0 w1 S 0 w' := by
  obtain ⟨ba, bc, ca, cl, cc, fa, fl, fc, hb1, hc1, hf1⟩ := ho.get
  obtain ⟨fa', fc', hfv, hfl1, hfl2, -⟩ := hfi.shape
  obtain ⟨rfl, rfl, rfl⟩ : fa' = fa ∧ o.files.length = fl ∧ fc' = fc := by rw [hf1] at hfv; injection hfv with h1 h2 h3; exact ⟨h1.symm, h2.symm, h3.symm⟩
  have hcells : o.cells = #[.int .i64 o.kind, .int .i64 o.obj, .string o.name, .string o.dest, .slice ba o.bs.length bc, .int .i64 o.pos, .int .i64 o.n, .slice ca cl cc, .slice fa' o.files.length fc'] := by unfold OpI.cells; rw [hb1, hc1, hf1]
  rw [hcells]
  obtain ⟨da, dc, hdv, -, -⟩ := owns_shape hw.mem.rowD
  have htop := hw.mem.top
  have hpl := lt_of_heap htop
  have HW := hid hw; have HFI := hid hfi; have HF1 := hid hf1; have HFS := hid hfs; have HLD := hid hld; have HW1 := hid hw1; have HCORE := hid hcore; have HDV := hid hdv
  clear hw ho hb1 hc1 hf1 hcells hdv htop hfi hfv hfs hld hw1 hcore
  go_enter Tryz.func33, Tryz.ntmps33
  go_upto_region 1 with fail
  obtain ⟨wb, hwb⟩ : ∃ wb, wb = w.alloc (.cells #[.int .i64 o.kind, .int .i64 o.obj, .string o.name, .string o.dest, .slice ba o.bs.length bc, .int .i64 o.pos, .int .i64 o.n, .slice ca cl cc, .slice fa' o.files.length fc'] 42) := ⟨_, rfl⟩
  rw [← hwb]
  obtain ⟨fb, hfb⟩ : ∃ fb, fb = w.heap.size := ⟨_, rfl⟩
  rw [← hfb]
  have hbx : wb.heap[fb]? = some (.cells #[.int .i64 o.kind, .int .i64 o.obj, .string o.name, .string o.dest, .slice ba o.bs.length bc, .int .i64 o.pos, .int .i64 o.n, .slice ca cl cc, .slice fa' o.files.length fc'] 42 (0, 0)) := by rw [hwb, hfb]; exact heap_alloc_new w _
  have hub : Upd (fun _ => False) w wb := by rw [hwb]; exact (Upd.refl _ _).alloc _
  have b6 : wb.cell? ⟨fb, 6, none⟩ = some (.int .i64 o.n) := by rw [cell_of_row wb _ 6 _ _ _ hbx]; rfl
  have b8 : wb.cell? ⟨fb, 8, none⟩ = some (.slice fa' o.files.length fc') := by rw [cell_of_row wb _ 8 _ _ _ hbx]; rfl
  have hfbl : fb < wb.heap.size := lt_of_heap hbx
  have hwb0 : WOn w0 wb S := HW.out.keep hub
  have hfin : FilesIn wb (.slice fa' o.files.length fc') o.files := by have h := HFI.out.keep hwb0.upd; rw [HF1.out] at h; exact h
  have hload := refLoad_any (cap := o.n) hfin (fun f hf => by have := HFS.out f hf; omega)
  have HLR := hid hload; have HUB := hid hub; have HWB := hid hwb0; have HLDB := hid (HLD.out.more hub)
  clear hwb hfb hbx hub hwb0 hfin hload hpl
  go_wp2_with fail
  refine HLR.out.mono ?_
  rintro e w3 hres
  obtain ⟨y, c', rfl⟩ := hres.split
  have hla : loadA o.n l' = loadA o.n o.files := loadA_core HCORE.out
  obtain ⟨rfl, hmade⟩ := made_loads (S := S) (fun L' q hq => HW1.out.mem.lt hq) (hla ▸ HLDB.out) hres
  have HW3 := hid (HWB.out.keep hres.1)
  have HU3 := hid ((HLD.out.1.trans HUB.out (fun _ _ h => h)).trans hres.1 (fun _ _ h => h))
  have c0w : w3.cell? ⟨S.p, 0, none⟩ = some (.slice da S.ds.length dc) := by rw [cell_of_row w3 _ 0 _ _ _ HW3.out.mem.top, ← HDV.out]; rfl
  have hp3 : S.p < w3.heap.size := lt_of_heap HW3.out.mem.top
  have HSZ := hid (show w0.heap.size ≤ w1.heap.size from HW1.out.upd.size)
  by_cases hfull : 5 ≤ S.ds.length
  · have hfull' : (5 : Int) ≤ (S.ds.length : Int) := by omega
    rcases hmade with ⟨rfl, rfl, hc⟩ | ⟨s, r, rfl, rfl, rfl, -⟩
    · have hc1 : (c' != 0) = true := by simpa using hc
      have hc2 : (c' == 0) = false := by simpa using hc
      clear hres hla hc b6 b8
      go_wp2_with (go_at_call 9; refine (num_any _ _).mono ?_; rintro e w' ⟨rfl, hww⟩; obtain rfl := hww.symm)
      go_ret
      exact ⟨by first | rfl | simp, S, HW3.out, rfl, Nat.le_refl _, by omega, Turn.keep _ _ HU3.out⟩
    · unfold ptrD ptrR at *
      clear hres hla b6 b8
      go_wp2_with (go_at_call 9; refine (num_any _ _).mono ?_; rintro e w' ⟨rfl, hww⟩; obtain rfl := hww.symm)
      go_ret
      exact ⟨by first | rfl | simp, S, HW3.out, rfl, Nat.le_refl _, by omega, Turn.keep _ _ HU3.out⟩
  · have hfull' : ¬ (5 : Int) ≤ (S.ds.length : Int) := by omega
    have hjoin := hmade.joins HW3.out (by omega) HSZ.out (Nat.le_refl _) HU3.out.size
    have HJ := hid hjoin
    clear hres hla hjoin hmade b6 b8
    go_wp2_with fail
    refine HJ.out.mono ?_
    rintro e w6 ⟨rfl, S', p1, p2, p3, p4, p5, p6⟩
    have HF := hid (show Went w0 w1 S 0 w6 from ⟨S', p1, p2, p3, by rw [p4]; omega, (Turn.keep _ S HU3.out).trans p6⟩)
    clear p1 p2 p3 p4 p5 p6
    go_wp2
    go_ret
    exact ⟨rfl, HF.out⟩

end Go.Proofs.YtohpgmeflmppaaaGreat

namespace Go.Proofs.YtohpgmeflmppaaaGreat
set_option linter.unusedVariables false
set_option linter.unusedSimpArgs false
set_option linter.unnecessarySimpa false
set_option linter.unusedSectionVars false
open Go Go.RowKit

/-- What was lent reads as it was. -/
theorem DK.Lent.bytes {w : World} {k : DK} {data : List UInt8} (hl : k.Lent data) (hk : k.In w) {g c : Nat} (hrv : k.rv = .slice (some ⟨g, 0, none⟩) k.bs.length c) : BytesAt w (.slice (some ⟨g, 0, none⟩) data.length c) data ∧ k.own g := by
  have hd := hk.data
  rw [hrv] at hd
  have hfit := hk.fits
  rw [hl.n] at hfit
  have h3 := (hd.bytes).take (n := data.length) hfit c (fun h => by cases h)
  have e : k.bs.take data.length = data := by
    have h := hl.bs
    rw [h]
    unfold lent
    rw [List.take_left]
  rw [e] at h3
  exact ⟨h3, .inr (by rw [hrv]; rfl)⟩

section
variable {W w V : World} {fg : Nat} {s : AS}

theorem AG.at_p (h : AG W V fg s) {v u : Value} (e1 : s.S.dv = v) (e2 : s.S.rv = u) : V.cell? ⟨s.S.p, 0, none⟩ = some v ∧ V.cell? ⟨s.S.p, 1, none⟩ = some u ∧ s.S.p < V.heap.size := by
  subst e1 e2
  exact ⟨by rw [cell_of_row V _ 0 _ _ _ h.mem.top]; rfl, by rw [cell_of_row V _ 1 _ _ _ h.mem.top]; rfl, lt_of_heap h.mem.top⟩

theorem owns_slice {w : World} {base : Nat} {e : TypeId} {n : Nat} {v : Value} {xs : List Value} (h : w.ownsRow base e 1 v n xs) (hn : 0 < n) : ∃ g c, v = .slice (some ⟨g, 0, none⟩) n c ∧ n ≤ c ∧ c ≤ 9223372036854775807 := by
  rcases h.2 with ⟨_, hz⟩ | ⟨g, cap, cur, e, -, -, h1, h2, -⟩
  · omega
  · exact ⟨g, cap, e, h1, by simpa [maxLen] using h2⟩

theorem owns_at {w : World} {base : Nat} {e : TypeId} {n : Nat} {v : Value} {xs : List Value} (h : w.ownsRow base e 1 v n xs) {g m c : Nat} (hv : v = .slice (some ⟨g, 0, none⟩) m c) {k : Nat} (hk : k < n) {u : Value} (hu : xs[k]? = some u) : w.cell? ⟨g, k, none⟩ = some u ∧ g < w.heap.size := by
  obtain ⟨ao, cap, hv2, hn, h1⟩ := owns_shape h
  obtain ⟨g', e, -, hlt, h2⟩ := h1 k hk
  rw [hv2, e] at hv
  injection hv with e1 _ _
  injection e1 with e1
  injection e1 with e1
  subst e1
  have hk' : k < xs.length := by omega
  rw [List.getElem?_eq_getElem hk'] at hu
  rw [h2 k hk']
  exact ⟨hu, hlt⟩

theorem AG.at_d (h : AG W V fg s) {g n c : Nat} (e : s.S.dv = .slice (some ⟨g, 0, none⟩) n c) {k : Nat} (hk : k < s.S.ds.length) {p : Nat} (hp : s.S.ds[k].p = p) : V.cell? ⟨g, k, none⟩ = some (.pointer (some ⟨p, 0, none⟩)) ∧ g < V.heap.size :=
  owns_at h.mem.rowD e hk (by simp [hk, ptrD, hp])

theorem AG.at_r (h : AG W V fg s) {g n c : Nat} (e : s.S.rv = .slice (some ⟨g, 0, none⟩) n c) {k : Nat} (hk : k < s.S.rs.length) {p : Nat} (hp : s.S.rs[k].p = p) : V.cell? ⟨g, k, none⟩ = some (.pointer (some ⟨p, 0, none⟩)) ∧ g < V.heap.size :=
  owns_at h.mem.rowR e hk (by simp [hk, ptrR, hp])

theorem AG.at_k (h : AG W V fg s) {g n c : Nat} (e : s.dsv = .slice (some ⟨g, 0, none⟩) n c) {k : Nat} (hk : k < s.KS.length) {p : Nat} (hp : s.KS[k].p = p) : V.cell? ⟨g, k, none⟩ = some (.pointer (some ⟨p, 0, none⟩)) ∧ g < V.heap.size :=
  owns_at h.row e hk (by simp [hk, ptrK, hp])

theorem AG.at_b (h : AG W V fg s) {fb : Nat} {c : Array Value} (hb : s.bx = some (fb, c)) {i : Nat} {u : Value} (hu : c[i]? = some u) : V.cell? ⟨fb, i, none⟩ = some u := by
  rw [cell_of_row V _ i _ _ _ (h.box fb c hb)]
  exact hu

theorem AG.at_bl (h : AG W V fg s) {fb : Nat} {c : Array Value} (hb : s.bx = some (fb, c)) : fb < V.heap.size := lt_of_heap (h.box fb c hb)

theorem AG.at_f (h : AG W V fg s) {i : Nat} {u : Value} (hu : s.xs[i]? = some u) : V.cell? ⟨fg, i, none⟩ = some u ∧ V.frozen? ⟨fg, i, none⟩ = false ∧ fg < V.heap.size := by
  have h0 := h.fl
  rcases h0 with ⟨hl, ⟨e, hz⟩ | ⟨g, cap, cur, e, -, hg, h2, h3, h4, h5⟩⟩
  · cases e
  · injection e with e1 _ _
    injection e1 with e1
    injection e1 with e1
    subst e1
    have hi : i < s.xs.length := by
      by_cases hi : i < s.xs.length
      · exact hi
      · rw [List.getElem?_eq_none (by omega)] at hu; cases hu
    refine ⟨?_, frozen_of_row _ _ _ _ _ hg, lt_of_heap hg⟩
    rw [cell_of_row V fg i cur _ _ hg, ← Array.getElem?_toList]
    have h6 := congrArg (fun l => l[i]?) h5
    simp only [List.getElem?_take] at h6
    rw [if_pos (by omega)] at h6
    rw [h6]
    exact hu

theorem AG.low (h : AG W V fg s) {L q : Nat} (hq : agOwn fg s L q) : W.heap.size ≤ q := (h.own.rng L q hq).1

/-- What came from outside still reads as it did. -/
theorem AG.bytes (h : AG W V fg s) {bv : Value} {bs : List UInt8} (hb : BytesAt W bv bs) (hlow : ∀ a l c, bv = .slice (some a) l c → 0 < l → a.block < W.heap.size) : BytesAt V bv bs :=
  hb.upd h.upd (fun a l c e h0 => ⟨fun h => h, hlow a l c e h0⟩)

/-- The desk lends. -/
theorem AG.lend (h : AG W V fg s) {bv : Value} {bs : List UInt8} (hb : BytesAt W bv bs) (hlow : ∀ a l c, bv = .slice (some a) l c → 0 < l → a.block < W.heap.size) (hfew : bs.length ≤ 16777216) :
    Calls Tryz.prog 28 #[.pointer (some ⟨s.D.p, 0, none⟩), bv] V fun e V' => ∃ D' g c, e = .returned (.slice (some ⟨g, 0, none⟩) bs.length c) ∧ AG W V' fg { s with D := D' } ∧ D'.p = s.D.p ∧ D'.Lent bs ∧ D'.rv = .slice (some ⟨g, 0, none⟩) D'.bs.length c := by
  refine (lend_any h.d (h.bytes hb hlow) (fun a l c e h0 => ?_) hfew).mono ?_
  · have h1 := hlow a l c e h0
    exact ⟨fun ho => by have := h.low (AG.oD ho); omega, Nat.lt_of_lt_of_le h1 h.upd.size⟩
  · rintro e V' ⟨D', g, c, rfl, hst, hl, hrv⟩
    exact ⟨D', g, c, rfl, h.desk hst, hst.p, hl, hrv⟩

theorem AG.klend (h : AG W V fg s) {i : Nat} (hi : i < s.KS.length) {bv : Value} {bs : List UInt8} (hb : BytesAt W bv bs) (hlow : ∀ a l c, bv = .slice (some a) l c → 0 < l → a.block < W.heap.size) (hfew : bs.length ≤ 16777216) :
    Calls Tryz.prog 28 #[.pointer (some ⟨s.KS[i].p, 0, none⟩), bv] V fun e V' => ∃ K' g c, e = .returned (.slice (some ⟨g, 0, none⟩) bs.length c) ∧ AG W V' fg { s with KS := s.KS.set i K' } ∧ K'.p = s.KS[i].p ∧ K'.Lent bs ∧ K'.rv = .slice (some ⟨g, 0, none⟩) K'.bs.length c := by
  refine (lend_any (h.ks i hi) (h.bytes hb hlow) (fun a l c e h0 => ?_) hfew).mono ?_
  · have h1 := hlow a l c e h0
    exact ⟨fun ho => by have := h.low (AG.oK hi ho); omega, Nat.lt_of_lt_of_le h1 h.upd.size⟩
  · rintro e V' ⟨D', g, c, rfl, hst, hl, hrv⟩
    exact ⟨D', g, c, rfl, h.kdesk hi hst, hst.p, hl, hrv⟩

/-- The program's disk appends what the desk lent. -/
theorem AG.append (h : AG W V fg s) {k : Nat} (hk : k < s.S.ds.length) (n : ByteArray) {bs : List UInt8} (hl : s.D.Lent bs) {g c : Nat} (hrv : s.D.rv = .slice (some ⟨g, 0, none⟩) s.D.bs.length c) :
    Calls Tryz.prog 27 #[.pointer (some ⟨s.S.ds[k].p, 0, none⟩), .string n, .slice (some ⟨g, 0, none⟩) bs.length c] V fun e V' => e = .returned (.int .i64 (cAppend s.S.ds[k].abs n bs).1) ∧ ∃ s2, AG W V' fg { s with S := { s.S with ds := s.S.ds.set k s2 } } ∧ s2.p = s.S.ds[k].p ∧ s2.abs = (cAppend s.S.ds[k].abs n bs).2 := by
  obtain ⟨hb, ho⟩ := hl.bytes h.d hrv
  have hdin := h.mem.dsIn k hk
  refine (append_any hdin n hb (fun a l c' e h0 => ?_)).mono ?_
  · injection e with e1 _ _
    injection e1 with e1
    subst e1
    refine ⟨fun e => ?_, h.d.lt ho⟩
    have e' : g = s.S.ds[k].p := e
    have h1 : s.S.ownAt (2 * k + 1) g := .inr (.inl ⟨k, hk, rfl, by rw [e']; simp [DS.blocks]⟩)
    have := h.own.one (AG.oS (fg := fg) h1) (AG.oD ho)
    omega
  · rintro e V' ⟨rfl, s2, hst, habs⟩
    rw [appendA_c] at habs
    exact ⟨by rw [appendA_c], s2, h.turn (h.mem.stepD h.upd.size hk hst) (Turn.stepD (Nat.le_refl _) hk hst), hst.p, habs⟩

/-- The document's disk appends what came from outside. -/
theorem AG.refAppend (h : AG W V fg s) {k : Nat} (hk : k < s.S.rs.length) (hso : Sorted s.S.rs[k].F) (n : ByteArray) {bv : Value} {bs : List UInt8} (hb : BytesAt W bv bs) (hlow : ∀ a l c, bv = .slice (some a) l c → 0 < l → a.block < W.heap.size) (hfew : bs.length ≤ 16777216) :
    Calls Tryz.prog 29 #[.pointer (some ⟨s.S.rs[k].p, 0, none⟩), .string n, bv] V fun e V' => e = .returned (.int .i64 (cAppend s.S.rs[k].abs n bs).1) ∧ ∃ r2, AG W V' fg { s with S := { s.S with rs := s.S.rs.set k r2 } } ∧ r2.p = s.S.rs[k].p ∧ Alike r2.abs (cAppend s.S.rs[k].abs n bs).2 ∧ Sorted r2.F := by
  have hrin := h.mem.rsIn k hk
  refine (refAppend_any hrin hso n (h.bytes hb hlow) (fun a l c e h0 => ?_) (by omega)).mono ?_
  · have h1 := hlow a l c e h0
    exact ⟨fun ho => by have := h.low (AG.oS (fg := fg) (.inr (.inr ⟨k, hk, rfl, ho⟩) : s.S.ownAt (2 * k + 2) a.block)); omega, Nat.lt_of_lt_of_le h1 h.upd.size⟩
  · rintro e V' ⟨rfl, r2, hst, hal, hso2⟩
    exact ⟨rfl, r2, h.turn (h.mem.stepR h.upd.size hk hst) (Turn.stepR (Nat.le_refl _) hk hst), hst.p, hal, hso2⟩

/-- The desk still holds what it lent. -/
theorem AG.back (h : AG W V fg s) {bv : Value} {bs : List UInt8} (hb : BytesAt W bv bs) (hlow : ∀ a l c, bv = .slice (some a) l c → 0 < l → a.block < W.heap.size) (hl : s.D.Lent bs) :
    Calls Tryz.prog 30 #[.pointer (some ⟨s.D.p, 0, none⟩), bv] V fun e V' => e = .returned (.bool true) ∧ AG W V' fg s ∧ Upd (fun _ => False) V V' := by
  refine (back_any h.d hl (h.bytes hb hlow)).mono ?_
  rintro e V' ⟨rfl, hu⟩
  exact ⟨rfl, h.keep hu, hu⟩

theorem AG.kback (h : AG W V fg s) {i : Nat} (hi : i < s.KS.length) {bv : Value} {bs : List UInt8} (hb : BytesAt W bv bs) (hlow : ∀ a l c, bv = .slice (some a) l c → 0 < l → a.block < W.heap.size) (hl : s.KS[i].Lent bs) :
    Calls Tryz.prog 30 #[.pointer (some ⟨s.KS[i].p, 0, none⟩), bv] V fun e V' => e = .returned (.bool true) ∧ AG W V' fg s ∧ Upd (fun _ => False) V V' := by
  refine (back_any (h.ks i hi) hl (h.bytes hb hlow)).mono ?_
  rintro e V' ⟨rfl, hu⟩
  exact ⟨rfl, h.keep hu, hu⟩

theorem AG.wipe (h : AG W V fg s) : Calls Tryz.prog 31 #[.pointer (some ⟨s.D.p, 0, none⟩)] V fun e V' => e = .returned (.tuple #[]) ∧ ∃ D', AG W V' fg { s with D := D' } ∧ D'.p = s.D.p := by
  refine (wipe_any h.d).mono ?_
  rintro e V' ⟨rfl, D', hst⟩
  exact ⟨rfl, D', h.desk hst, hst.p⟩

theorem AG.kwipe (h : AG W V fg s) {i : Nat} (hi : i < s.KS.length) : Calls Tryz.prog 31 #[.pointer (some ⟨s.KS[i].p, 0, none⟩)] V fun e V' => e = .returned (.tuple #[]) ∧ ∃ K', AG W V' fg { s with KS := s.KS.set i K' } ∧ K'.p = s.KS[i].p := by
  refine (wipe_any (h.ks i hi)).mono ?_
  rintro e V' ⟨rfl, K', hst⟩
  exact ⟨rfl, K', h.kdesk hi hst, hst.p⟩

/-- Behind both Appends the disks are alike again. -/
theorem AG.appended {V0 : World} (hon : WOn W V0 s.S) {V' : World} {s' : AS} {k : Nat} (hk : k < s.S.ds.length) (hk' : k < s.S.rs.length) {n : ByteArray} {bs : List UInt8} {s2 : DS} {r2 : RS} (hs' : s'.S = { s.S with ds := s.S.ds.set k s2, rs := s.S.rs.set k r2 }) (h : AG W V' fg s')
    (habs : s2.abs = (cAppend s.S.ds[k].abs n bs).2) (hal : Alike r2.abs (cAppend s.S.rs[k].abs n bs).2) (hso : Sorted r2.F) : WOn W V' s'.S := by
  have hm := h.mem
  rw [hs'] at hm ⊢
  obtain ⟨hp, -⟩ := hon.pair k hk hk'
  have hnd : NamesND s.S.ds[k].abs := names_nodup (hon.mem.dsIn k hk)
  have hc := cAppend_alike hp hnd n bs
  exact hon.mk2 hk hk' hm h.upd (by rw [habs]; exact hc.2.trans hal.symm) hso

theorem append_same {V0 : World} (hon : WOn W V0 s.S) {k : Nat} (hk : k < s.S.ds.length) (hk' : k < s.S.rs.length) (n : ByteArray) (bs : List UInt8) : (cAppend s.S.rs[k].abs n bs).1 = (cAppend s.S.ds[k].abs n bs).1 := by
  obtain ⟨hp, -⟩ := hon.pair k hk hk'
  have hnd : NamesND s.S.ds[k].abs := names_nodup (hon.mem.dsIn k hk)
  exact ((cAppend_alike hp hnd n bs).1).symm

/-- Any call of the script. -/
theorem AG.plays (h : AG W V fg s) (hon : WOn W V s.S) {o : OpI} (ho : o.Ok2 W) (hL : 0 < s.S.ds.length) (hn : s.S.b.n + ((o.files.length : Int) + 256) * 268435456 ≤ 4611686018427387904) :
    Calls Tryz.prog 22 #[.pointer (some ⟨s.S.p, 0, none⟩), .agg o.cells] V fun e V' => e = .returned (.bool true) ∧ ∃ S', AG W V' fg { s with S := S' } ∧ WOn W V' S' ∧ S'.p = s.S.p ∧ s.S.ds.length ≤ S'.ds.length ∧ S'.b.n ≤ s.S.b.n + ((o.files.length : Int) + 256) * 268435456 := by
  refine (plays_any hon ho hL hn).mono ?_
  rintro e V' ⟨rfl, S', h1, h2, h3, h4, h5⟩
  exact ⟨rfl, S', h.turn h1.mem h5, h1, h2, h3, h4⟩

/-- What Load made is taken in. -/
theorem AG.loads {V1 : World} (h : AG W V1 fg s) (hon : WOn W V1 s.S) {o : OpI} {x : Value} {c : Int} {l' : List FileI} (hld : LoadRes V1 o.n (loadA o.n l') (.returned (.tuple #[x, .int .i64 c])) V) (hcore : l'.map FileI.core = o.files.map FileI.core) (ho : o.Ok2 W) :
    Calls Tryz.prog 33 #[.pointer (some ⟨s.S.p, 0, none⟩), x, .int .i64 c, .agg o.cells] V fun e V' => e = .returned (.bool true) ∧ ∃ S', AG W V' fg { s with S := S' } ∧ WOn W V' S' ∧ S'.p = s.S.p ∧ s.S.ds.length ≤ S'.ds.length ∧ S'.b.n ≤ s.S.b.n := by
  refine (loads_any (hon.keep hld.1) hon hld hcore (OpI.shapes ho.ok) ho.ok.files ho.ok.filesFew).mono ?_
  rintro e V' ⟨rfl, S', h1, h2, h3, h4, h5⟩
  exact ⟨rfl, S', h.turn h1.mem h5, h1, h2, h3, by omega⟩

/-- Both tell the same files. -/
theorem AG.files2 (hon : WOn W V s.S) {k : Nat} (hk : k < s.S.ds.length) (hk' : k < s.S.rs.length) :
    (∀ V', Upd (fun _ => False) V V' → Calls Tryz.prog 16 #[.pointer (some ⟨s.S.ds[k].p, 0, none⟩)] V' fun e V2 => ∃ v l, e = .returned v ∧ FilesAt V2 V'.heap.size v l ∧ l.map FV.abs = fileList s.S.ds[k] ∧ Upd (fun _ => False) V' V2) ∧
    ∀ V', Upd (fun _ => False) V V' → Calls Tryz.prog 18 #[.pointer (some ⟨s.S.rs[k].p, 0, none⟩)] V' fun e V2 => ∃ v l, e = .returned v ∧ FilesAt V2 V'.heap.size v l ∧ l.map FV.abs = fileList s.S.ds[k] ∧ Upd (fun _ => False) V' V2 := by
  obtain ⟨hal, hso⟩ := hon.pair k hk hk'
  have hsf : s.S.rs[k].F.map FV.abs = fileList s.S.ds[k] := sorted_fileList (hon.mem.dsIn k hk) hal hso
  exact ⟨fun V' hV => files_any ((hon.keep hV).mem.dsIn k hk), fun V' hV => by rw [← hsf]; exact refFiles_any ((hon.keep hV).mem.rsIn k hk')⟩
end

/-- The c-th file's three cells. -/
def Row3 (xs : List Value) (c : Nat) (x y z : Value) : Prop := xs[c * 3]? = some x ∧ xs[c * 3 + 1]? = some y ∧ xs[c * 3 + 2]? = some z

def set3 (xs : List Value) (c : Nat) (x y z : Value) : List Value := ((xs.set (c * 3) x).set (c * 3 + 1) y).set (c * 3 + 2) z

theorem row3_at {xs : List Value} (hl : xs.length = 1800) {c : Nat} (hc : c < 600) (x y z : Value) : Row3 (set3 xs c x y z) c x y z := by
  unfold Row3 set3
  refine ⟨?_, ?_, ?_⟩
  · rw [List.getElem?_set_ne (by omega), List.getElem?_set_ne (by omega), List.getElem?_set_self (by omega)]
  · rw [List.getElem?_set_ne (by omega), List.getElem?_set_self (by simp; omega)]
  · rw [List.getElem?_set_self (by simp; omega)]

theorem row3_ne {xs : List Value} {c j : Nat} (hj : j ≠ c) (x y z : Value) {a b d : Value} (h : Row3 xs j a b d) : Row3 (set3 xs c x y z) j a b d := by
  obtain ⟨h1, h2, h3⟩ := h
  unfold Row3 set3
  refine ⟨?_, ?_, ?_⟩
  · rw [List.getElem?_set_ne (by omega), List.getElem?_set_ne (by omega), List.getElem?_set_ne (by omega)]; exact h1
  · rw [List.getElem?_set_ne (by omega), List.getElem?_set_ne (by omega), List.getElem?_set_ne (by omega)]; exact h2
  · rw [List.getElem?_set_ne (by omega), List.getElem?_set_ne (by omega), List.getElem?_set_ne (by omega)]; exact h3

theorem set3_length (xs : List Value) (c : Nat) (x y z : Value) : (set3 xs c x y z).length = xs.length := by simp [set3]

section
variable {W w V : World} {fg : Nat} {s : AS}

theorem AG.xsl (h : AG W V fg s) : s.xs.length = 1800 := by have := h.fl.1; omega

/-- A file was stored, cell by cell. -/
theorem AG.store (h : AG W V fg s) {c : Nat} (hc : c < 600) (x y z : Value) : AG W (((V.setCell ⟨fg, c * 3, none⟩ x).setCell ⟨fg, c * 3 + 1, none⟩ y).setCell ⟨fg, c * 3 + 2, none⟩ z) fg { s with xs := set3 s.xs c x y z } := by
  refine h.files ((((Upd.refl (fun q => q = fg) V).setCell (p := ⟨fg, c * 3, none⟩) (fun _ => rfl) x).setCell (p := ⟨fg, c * 3 + 1, none⟩) (fun _ => rfl) y).setCell (p := ⟨fg, c * 3 + 2, none⟩) (fun _ => rfl) z) ?_
  obtain ⟨g1, c1, o1, e1, r1, -⟩ := owns_setN h.fl (m := c * 3) (u := x) (by omega)
  injection e1 with e1 _ _
  injection e1 with e1
  injection e1 with e1
  subst e1
  obtain ⟨g2, c2, o2, e2, r2, -⟩ := owns_setN r1 (m := c * 3 + 1) (u := y) (by omega)
  injection e2 with e2 _ _
  injection e2 with e2
  injection e2 with e2
  subst e2
  obtain ⟨g3, c3, o3, e3, r3, -⟩ := owns_setN r2 (m := c * 3 + 2) (u := z) (by omega)
  injection e3 with e3 _ _
  injection e3 with e3
  injection e3 with e3
  subst e3
  exact r3

/-- The cells of a file that is to be stored, at each world on the way. -/
theorem AG.room3 (h : AG W V fg s) {c : Nat} (hc : c < 600) (x y : Value) : (∃ o, V.cell? ⟨fg, c * 3, none⟩ = some o) ∧ V.frozen? ⟨fg, c * 3, none⟩ = false ∧ (∃ o, (V.setCell ⟨fg, c * 3, none⟩ x).cell? ⟨fg, c * 3 + 1, none⟩ = some o) ∧ (V.setCell ⟨fg, c * 3, none⟩ x).frozen? ⟨fg, c * 3 + 1, none⟩ = false ∧
    (∃ o, ((V.setCell ⟨fg, c * 3, none⟩ x).setCell ⟨fg, c * 3 + 1, none⟩ y).cell? ⟨fg, c * 3 + 2, none⟩ = some o) ∧ ((V.setCell ⟨fg, c * 3, none⟩ x).setCell ⟨fg, c * 3 + 1, none⟩ y).frozen? ⟨fg, c * 3 + 2, none⟩ = false ∧ fg < V.heap.size := by
  obtain ⟨g1, c1, o1, e1, r1, a1, b1, l1, -⟩ := owns_setN h.fl (m := c * 3) (u := x) (by omega)
  injection e1 with e1 _ _
  injection e1 with e1
  injection e1 with e1
  subst e1
  obtain ⟨g2, c2, o2, e2, r2, a2, b2, -⟩ := owns_setN r1 (m := c * 3 + 1) (u := y) (by omega)
  injection e2 with e2 _ _
  injection e2 with e2
  injection e2 with e2
  subst e2
  obtain ⟨g3, c3, o3, e3, r3, a3, b3, -⟩ := owns_setN r2 (m := c * 3 + 2) (u := .nilIface) (by omega)
  injection e3 with e3 _ _
  injection e3 with e3
  injection e3 with e3
  subst e3
  exact ⟨⟨_, a1⟩, b1, ⟨_, a2⟩, b2, ⟨_, a3⟩, b3, l1⟩
end

/-- The word that lies behind what is handed in. -/
def behindB : ByteArray := ⟨#[98, 101, 104, 105, 110, 100]⟩

/-- The i-th file lies in the row, its bytes are lent by the i-th desk. -/
def LentAt (KS : List DK) (files : List FileI) (xs : List Value) (i : Nat) : Prop :=
  ∃ K f g c, KS[i]? = some K ∧ files[i]? = some f ∧ K.Lent f.data ∧ K.rv = .slice (some ⟨g, 0, none⟩) K.bs.length c ∧ Row3 xs i (.string f.name) (.slice (some ⟨g, 0, none⟩) f.data.length c) (.int .i64 f.synced)

def BehindAt (xs : List Value) (i : Nat) : Prop := Row3 xs i (.string behindB) (.slice none 0 0) (.int .i64 i)

theorem LentAt.grow {KS : List DK} {files : List FileI} {xs : List Value} {i : Nat} (h : LentAt KS files xs i) (K : DK) : LentAt (KS ++ [K]) files xs i := by
  obtain ⟨K0, f, g, c, h1, h2⟩ := h
  have hi : i < KS.length := by
    by_cases hi : i < KS.length
    · exact hi
    · rw [List.getElem?_eq_none (by omega)] at h1; cases h1
  exact ⟨K0, f, g, c, by rw [List.getElem?_append_left hi]; exact h1, h2⟩

theorem LentAt.other {KS : List DK} {files : List FileI} {xs : List Value} {i t : Nat} (h : LentAt KS files xs t) (hne : t ≠ i) (K : DK) (x y z : Value) : LentAt (KS.set i K) files (set3 xs i x y z) t := by
  obtain ⟨K0, f, g, c, h1, h2, h3, h4, h5⟩ := h
  exact ⟨K0, f, g, c, by rw [List.getElem?_set_ne (Ne.symm hne)]; exact h1, h2, h3, h4, row3_ne hne x y z h5⟩

theorem LentAt.other' {KS : List DK} {files : List FileI} {xs : List Value} {i t : Nat} (h : LentAt KS files xs t) (hne : t ≠ i) (K : DK) : LentAt (KS.set i K) files xs t := by
  obtain ⟨K0, f, g, c, h1, h2, h3, h4, h5⟩ := h
  exact ⟨K0, f, g, c, by rw [List.getElem?_set_ne (Ne.symm hne)]; exact h1, h2, h3, h4, h5⟩

theorem Tryz.infoDeskP : (Tryz.prog.info? 71).map (fun i => (i.zero, i.size, i.bytes)) = some (some (.pointer none), 1, 8) := by kernel_rfl

/-- One desk joins a row of desks. -/
theorem run_append_desk1 {w : World} {lv a : Value} {n : Nat} {xs : List Value} (h : w.ownsRow 0 71 1 lv n xs) (hn : n ≤ 100000000) (ha : a.oneCell' = true) (ty : TypeId) :
    ∃ v' w', (Builtin.append_ #[74, 74] ty #[lv, .slice (some ⟨w.heap.size, 0, none⟩) 1 1]).run Tryz.prog (w.alloc (.cells #[a] 71)) = .ok v' w' ∧ w'.ownsRow 0 71 1 v' (n + 1) (xs ++ [a]) ∧
      Upd (fun k => lv.ownBlock = some k) w w' ∧ (∀ k, v'.ownBlock = some k → lv.ownBlock = some k ∨ w.heap.size ≤ k) := by
  obtain ⟨i0, hi, hz0, hz1, hz2⟩ := info_parts Tryz.infoDeskP
  obtain ⟨v', w', hr, hown, hgr, -, hat⟩ := run_append_own_at (P := Tryz.prog) (w.alloc (.cells #[a] 71)) 0 74 ty 71 i0 _ 1 8 Tryz.underlying74 hi hz0 hz1 hz2 rfl (by omega) lv n xs
    ((owns_upd (S := fun _ => False) h (Upd.refl _ _) (fun _ _ h => h)).alloc _) ⟨w.heap.size, 0, none⟩ 1 1 [a] rfl (by
      intro j u hu
      have hb0 := heap_alloc_new w (.cells #[a] 71)
      match j, hu with
      | 0, hu => simp at hu; subst hu; rw [show (Addr.add ⟨w.heap.size, 0, none⟩ 0 : Addr) = ⟨w.heap.size, 0, none⟩ from by simp [Addr.add], cell_of_row _ _ 0 _ _ _ hb0]; rfl
      | j + 1, hu => simp at hu) (by
      intro u hu
      simp only [List.mem_cons, List.not_mem_nil, or_false] at hu
      subst hu
      exact ha) (by unfold maxLen; omega) (by omega) (Nat.zero_le _)
  refine ⟨v', w', hr, hown, ((Upd.refl _ _).alloc _).grown hgr (fun k hk _ => hk), fun k hk => ?_⟩
  rcases hat with h1 | h1
  · exact .inl (h1 ▸ hk)
  · rw [h1] at hk
    right
    simp at hk
    omega

section
variable {W w V : World} {fg : Nat} {s : AS}

theorem AG.won (h : AG W V fg s) {V0 : World} {S0 : WS} (hon : WOn W V0 S0) (e : s.S = S0) : WOn W V s.S := ⟨h.mem, h.upd, by rw [e]; exact hon.pair, by rw [e]; exact hon.few⟩

/-- What was laid into the row reads as the call's files. -/
theorem AG.loadIn (h : AG W V fg s) {files : List FileI} (hn : files.length ≤ 600) (hla : ∀ i, i < files.length → LentAt s.KS files s.xs i) :
    ∃ l', FilesIn V (.slice (some ⟨fg, 0, none⟩) files.length 600) l' ∧ l'.map FileI.core = files.map FileI.core := by
  have hall : ∀ i, i < files.length → ∃ f' : FileI, (∀ hi : i < files.length, f'.core = (files[i]).core) ∧ Row3 s.xs i (.string f'.name) f'.dv (.int .i64 f'.synced) ∧ BytesAt V f'.dv f'.data ∧ (∀ a l c, f'.dv = .slice (some a) l c → 0 < l → a.block < V.heap.size) := fun i hi => by
    obtain ⟨K, f, g, c, h1, h2, h3, h4, h5⟩ := hla i hi
    have hik : i < s.KS.length := by
      by_cases hik : i < s.KS.length
      · exact hik
      · rw [List.getElem?_eq_none (by omega)] at h1; cases h1
    rw [List.getElem?_eq_getElem hik] at h1
    rw [List.getElem?_eq_getElem hi] at h2
    have hK : s.KS[i] = K := Option.some.inj h1
    have hf : files[i] = f := Option.some.inj h2
    have hin := h.ks i hik
    rw [hK] at hin
    obtain ⟨hb, ho⟩ := h3.bytes hin h4
    refine ⟨⟨f.name, .slice (some ⟨g, 0, none⟩) f.data.length c, f.data, f.synced⟩, fun _ => by rw [hf]; rfl, h5, hb, fun a l c' e h0 => ?_⟩
    injection e with e1 _ _
    injection e1 with e1
    subst e1
    exact hin.lt ho
  haveI : Inhabited FileI := ⟨⟨ByteArray.empty, .nilIface, [], 0⟩⟩
  obtain ⟨F, hF⟩ := Go.Deep.choose_lt hall
  refine ⟨(List.range files.length).map F, ⟨⟨some ⟨fg, 0, none⟩, 600, by simp, by simpa using hn, by decide, fun k hk => ?_⟩, ?_, ?_⟩, ?_⟩
  · have hk' : k < files.length := by simpa using hk
    obtain ⟨-, ⟨r1, r2, r3⟩, -, -⟩ := hF k hk'
    obtain ⟨z1, -, z3⟩ := h.at_f r1
    simp only [List.getElem_map, List.getElem_range, Nat.zero_add]
    exact ⟨fg, 0, rfl, z3, by simpa using z1, by simpa using (h.at_f r2).1, by simpa using (h.at_f r3).1⟩
  · intro x hx
    obtain ⟨i, hi, rfl⟩ := List.mem_map.1 hx
    exact (hF i (by simpa using hi)).2.2.1
  · intro x hx
    obtain ⟨i, hi, rfl⟩ := List.mem_map.1 hx
    exact (hF i (by simpa using hi)).2.2.2
  · apply List.ext_getElem (by simp)
    intro i h1 h2
    have hi : i < files.length := by simpa using h2
    simp only [List.getElem_map, List.getElem_range]
    exact (hF i hi).1 hi
end

end Go.Proofs.YtohpgmeflmppaaaGreat
