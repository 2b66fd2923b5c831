/-
  The world of DiskLent, in memory: the disks, the book, the lists of names, the lists of files. No walk stands here.
  A slice of calls, as a plain list; how much they may make the book grow. No walk stands here.
-/
import Derived.Test.YtohpgmeflmppaaaGreatQF
import Derived.Test.YtohpgmeflmppaaaGreatQG
import Derived.Test.YtohpgmeflmppaaaGreatQH
import Derived.Test.YtohpgmeflmppaaaGreatQB
import Derived.Test.YtohpgmeflmppaaaGreatPF
namespace Go.Proofs.YtohpgmeflmppaaaGreat
set_option linter.unusedVariables false
set_option linter.unusedSimpArgs false
set_option linter.unnecessarySimpa false
set_option linter.unusedSectionVars false
open Go Go.RowKit

/-- All that DiskLent holds. -/
structure LD where
  S : WS
  B : KP
  Nm : KP
  F : KF
  bx : Option (Nat × Array Value)

def alOwn (s : LD) (L q : Nat) : Prop :=
  (L = 0 ∧ ∃ L', s.S.ownAt L' q) ∨ (L = 1 ∧ s.B.own q) ∨ (L = 2 ∧ s.Nm.own q) ∨ (L = 3 ∧ s.F.own q) ∨ (L = 4 ∧ ∃ c, s.bx = some (q, c))

def SameN (b : KP) : Prop := ∀ x ∈ b.ls, ∃ l : List ByteArray, x.xs = l.map Value.string ∧ x.ys = l.map Value.string

structure AL (W w : World) (s : LD) : Prop where
  mem : s.S.Mem W.heap.size w
  upd : Upd (fun _ => False) W w
  b : s.B.B w
  nm : s.Nm.N w
  f : s.F.In w
  box : ∀ q c, s.bx = some (q, c) → w.heap[q]? = some (.cells c 42 (0, 0))
  own : OwnersOk (alOwn s) W.heap.size w.heap.size
  sb : SameB s.B
  sn : SameN s.Nm

/-- One owner has got new blocks, or such as were nobody's. -/
theorem OwnersOk.adopt {own own' : Nat → Nat → Prop} {lo hi hi' : Nat} (h : OwnersOk own lo hi) (hlo : lo ≤ hi) (X : Nat → Prop) (hX : ∀ q, X q → lo ≤ q ∧ ∀ L, ¬ own L q) (Lx : Nat) (hs : ∀ L q, L ≠ Lx → own' L q → own L q) (hx : ∀ q, own' Lx q → own Lx q ∨ X q ∨ hi ≤ q) (hhi : hi ≤ hi') (hr : ∀ q, own' Lx q → q < hi') : OwnersOk own' lo hi' := by
  obtain ⟨lab, hl⟩ := h.lab
  classical
  refine ⟨⟨fun q => if (∃ L, own L q) then lab q else Lx, fun L q hq => ?_⟩, fun L q hq => ?_⟩
  · show (if (∃ L, own L q) then lab q else Lx) = L
    by_cases e : L = Lx
    · subst e
      rcases hx q hq with h1 | h1 | h1
      · rw [if_pos ⟨_, h1⟩]; exact hl L q h1
      · rw [if_neg (fun ⟨L', h2⟩ => (hX q h1).2 L' h2)]
      · rw [if_neg (fun ⟨L', h2⟩ => by have := (h.rng L' q h2).2; omega)]
    · have h1 := hs L q e hq
      rw [if_pos ⟨_, h1⟩]
      exact hl L q h1
  · by_cases e : L = Lx
    · subst e
      refine ⟨?_, hr q hq⟩
      rcases hx q hq with h1 | h1 | h1
      · exact (h.rng L q h1).1
      · exact (hX q h1).1
      · omega
    · have h1 := h.rng L q (hs L q e hq)
      exact ⟨h1.1, Nat.lt_of_lt_of_le h1.2 hhi⟩

section
variable {W w w' : World} {s : LD}

theorem AL.oS {L q : Nat} (h : s.S.ownAt L q) : alOwn s 0 q := .inl ⟨rfl, L, h⟩
theorem AL.oB {q : Nat} (h : s.B.own q) : alOwn s 1 q := .inr (.inl ⟨rfl, h⟩)
theorem AL.oN {q : Nat} (h : s.Nm.own q) : alOwn s 2 q := .inr (.inr (.inl ⟨rfl, h⟩))
theorem AL.oF {q : Nat} (h : s.F.own q) : alOwn s 3 q := .inr (.inr (.inr (.inl ⟨rfl, h⟩)))
theorem AL.oX {q : Nat} {c : Array Value} (h : s.bx = some (q, c)) : alOwn s 4 q := .inr (.inr (.inr (.inr ⟨rfl, c, h⟩)))

theorem AL.out {T : Nat → Prop} (h : AL W w s) {Lx : Nat} (hT : ∀ q, q < w.heap.size → T q → alOwn s Lx q) {L q : Nat} (hL : L ≠ Lx) (hq : alOwn s L q) : ¬ T q :=
  fun ht => hL (h.own.one hq (hT q (h.own.rng L q hq).2 ht))

structure KeptL (W w w' : World) (s : LD) (Lx : Nat) : Prop where
  mem : Lx ≠ 0 → s.S.Mem W.heap.size w'
  upd : Upd (fun _ => False) W w'
  b : Lx ≠ 1 → s.B.B w'
  nm : Lx ≠ 2 → s.Nm.N w'
  f : Lx ≠ 3 → s.F.In w'
  box : Lx ≠ 4 → ∀ q c, s.bx = some (q, c) → w'.heap[q]? = some (.cells c 42 (0, 0))
  size : w.heap.size ≤ w'.heap.size

theorem AL.kept {T : Nat → Prop} (h : AL W w s) (hu : Upd T w w') {Lx : Nat} (hT : ∀ q, q < w.heap.size → T q → alOwn s Lx q) : KeptL W w w' s Lx where
  mem := fun hx => h.mem.keepT hu (fun L q hq => h.out hT (Ne.symm hx) (AL.oS hq))
  upd := h.upd.trans hu (fun q hq ht => by
    have h1 := (h.own.rng Lx q (hT q (Nat.lt_of_lt_of_le hq h.upd.size) ht)).1
    omega)
  b := fun hx => h.b.upd hu (fun q hq => h.out hT (Ne.symm hx) (AL.oB hq))
  nm := fun hx => h.nm.upd hu (fun q hq => h.out hT (Ne.symm hx) (AL.oN hq))
  f := fun hx => h.f.upd hu (fun q hq => h.out hT (Ne.symm hx) (AL.oF hq))
  box := fun hx q c e => hu.get (h.box q c e) (h.out hT (Ne.symm hx) (AL.oX e))
  size := hu.size

theorem AL.keep (h : AL W w s) (hu : Upd (fun _ => False) w w') : AL W w' s := by
  have k := h.kept hu (Lx := 0) (fun _ _ h => h.elim)
  exact ⟨h.mem.keep hu, k.upd, k.b (by decide), k.nm (by decide), k.f (by decide), k.box (by decide), ⟨h.own.lab, fun L q hq => ⟨(h.own.rng L q hq).1, Nat.lt_of_lt_of_le (h.own.rng L q hq).2 hu.size⟩⟩, h.sb, h.sn⟩

/-- The disks have turned. -/
theorem AL.turn {S' : WS} (h : AL W w s) (hm : S'.Mem W.heap.size w') (ht : Turn w.heap.size w w' s.S S') : AL W w' { s with S := S' } := by
  have k := h.kept ht.upd (Lx := 0) (fun q hq hh => hh.elim (fun ⟨L, hL⟩ => AL.oS hL) (fun h => by omega))
  refine ⟨hm, k.upd, k.b (by decide), k.nm (by decide), k.f (by decide), k.box (by decide), h.own.step h.upd.size 0 (fun L q hL hq => ?_) (fun q hq => ?_) ht.upd.size (fun q hq => ?_), h.sb, h.sn⟩
  · rcases hq with ⟨e, _⟩ | hq
    · exact absurd e hL
    · exact .inr hq
  · rcases hq with ⟨_, L', hq⟩ | ⟨e, _⟩ | ⟨e, _⟩ | ⟨e, _⟩ | ⟨e, _⟩
    · exact (ht.foot L' q hq).elim (fun ⟨L2, h2⟩ => .inl (AL.oS h2)) .inr
    all_goals cases e
  · rcases hq with ⟨_, L', hq⟩ | ⟨e, _⟩ | ⟨e, _⟩ | ⟨e, _⟩ | ⟨e, _⟩
    · exact hm.lt hq
    all_goals cases e

/-- A new call in its box. -/
theorem AL.newBox (h : AL W w s) (hu : Upd (fun _ => False) w w') {q : Nat} {c : Array Value} (hq : w.heap.size ≤ q) (hb : w'.heap[q]? = some (.cells c 42 (0, 0))) : AL W w' { s with bx := some (q, c) } := by
  have k := h.kept hu (Lx := 0) (fun _ _ h => h.elim)
  refine ⟨h.mem.keep hu, k.upd, k.b (by decide), k.nm (by decide), k.f (by decide), fun q' c' e => ?_, h.own.step h.upd.size 4 (fun L q' hL hq' => ?_) (fun q' hq' => ?_) hu.size (fun q' hq' => ?_), h.sb, h.sn⟩
  · injection e with e
    injection e with e1 e2
    subst e1 e2
    exact hb
  · rcases hq' with h1 | h1 | h1 | h1 | ⟨e, _⟩
    · exact .inl h1
    · exact .inr (.inl h1)
    · exact .inr (.inr (.inl h1))
    · exact .inr (.inr (.inr (.inl h1)))
    · exact absurd e hL
  · rcases hq' with ⟨e, _⟩ | ⟨e, _⟩ | ⟨e, _⟩ | ⟨e, _⟩ | ⟨_, c', e⟩
    · cases e
    · cases e
    · cases e
    · cases e
    · injection e with e
      injection e with e1 e2
      subst e1
      exact .inr hq
  · rcases hq' with ⟨e, _⟩ | ⟨e, _⟩ | ⟨e, _⟩ | ⟨e, _⟩ | ⟨_, c', e⟩
    · cases e
    · cases e
    · cases e
    · cases e
    · injection e with e
      injection e with e1 e2
      subst e1
      exact lt_of_heap hb

/-- The book has taken one more. -/
theorem AL.bkeep (h : AL W w s) {B' : KP} {v : Value} {bs : List UInt8} (hk : KStepB w w' s.B B' v bs.length (bs.map byteV)) (hv : ∀ q, v.ownBlock = some q → W.heap.size ≤ q ∧ ∀ L, ¬ alOwn s L q) : AL W w' { s with B := B' } := by
  have hS : ∀ q, q < w.heap.size → (q = s.B.p ∨ s.B.lv.ownBlock = some q ∨ s.B.wv.ownBlock = some q) → alOwn s 1 q := fun q _ e => by
    rcases e with e | e | e
    · exact AL.oB ⟨_, .inl ⟨rfl, e⟩⟩
    · exact AL.oB ⟨_, KP.oL e⟩
    · exact AL.oB ⟨_, KP.oW e⟩
  have k := h.kept hk.1.upd (Lx := 1) hS
  refine ⟨k.mem (by decide), k.upd, hk.1.ins, k.nm (by decide), k.f (by decide), k.box (by decide), h.own.adopt h.upd.size (fun q => v.ownBlock = some q) hv 1 (fun L q hL hq => ?_) (fun q hq => ?_) hk.1.upd.size (fun q hq => ?_), ?_, h.sn⟩
  · rcases hq with h1 | ⟨e, _⟩ | h1
    · exact .inl h1
    · exact absurd e hL
    · exact .inr (.inr h1)
  · rcases hq with ⟨e, _⟩ | ⟨_, h1⟩ | ⟨e, _⟩ | ⟨e, _⟩ | ⟨e, _⟩
    · cases e
    · rcases hk.1.foot q h1 with h2 | h2 | h2
      · exact .inl (AL.oB h2)
      · exact .inr (.inl h2)
      · exact .inr (.inr h2)
    all_goals cases e
  · rcases hq with ⟨e, _⟩ | ⟨_, h1⟩ | ⟨e, _⟩ | ⟨e, _⟩ | ⟨e, _⟩
    · cases e
    · exact hk.1.ins.lt h1
    all_goals cases e
  · obtain ⟨u, e⟩ := hk.2
    intro x hx
    have hx' : x ∈ B'.ls := hx
    rw [e] at hx'
    rcases List.mem_append.1 hx' with hx' | hx'
    · exact h.sb x hx'
    · obtain rfl := List.mem_singleton.1 hx'
      exact ⟨_, rfl, rfl⟩

theorem AL.nkeep (h : AL W w s) {N' : KP} {v : Value} {l : List ByteArray} (hk : KStepN w w' s.Nm N' v l.length (l.map Value.string)) (hv : ∀ q, v.ownBlock = some q → W.heap.size ≤ q ∧ ∀ L, ¬ alOwn s L q) : AL W w' { s with Nm := N' } := by
  have hS : ∀ q, q < w.heap.size → (q = s.Nm.p ∨ s.Nm.lv.ownBlock = some q ∨ s.Nm.wv.ownBlock = some q) → alOwn s 2 q := fun q _ e => by
    rcases e with e | e | e
    · exact AL.oN ⟨_, .inl ⟨rfl, e⟩⟩
    · exact AL.oN ⟨_, KP.oL e⟩
    · exact AL.oN ⟨_, KP.oW e⟩
  have k := h.kept hk.1.upd (Lx := 2) hS
  refine ⟨k.mem (by decide), k.upd, k.b (by decide), hk.1.ins, k.f (by decide), k.box (by decide), h.own.adopt h.upd.size (fun q => v.ownBlock = some q) hv 2 (fun L q hL hq => ?_) (fun q hq => ?_) hk.1.upd.size (fun q hq => ?_), h.sb, ?_⟩
  · rcases hq with h1 | h1 | ⟨e, _⟩ | h1
    · exact .inl h1
    · exact .inr (.inl h1)
    · exact absurd e hL
    · exact .inr (.inr (.inr h1))
  · rcases hq with ⟨e, _⟩ | ⟨e, _⟩ | ⟨_, h1⟩ | ⟨e, _⟩ | ⟨e, _⟩
    · cases e
    · cases e
    · rcases hk.1.foot q h1 with h2 | h2 | h2
      · exact .inl (AL.oN h2)
      · exact .inr (.inl h2)
      · exact .inr (.inr h2)
    all_goals cases e
  · rcases hq with ⟨e, _⟩ | ⟨e, _⟩ | ⟨_, h1⟩ | ⟨e, _⟩ | ⟨e, _⟩
    · cases e
    · cases e
    · exact hk.1.ins.lt h1
    all_goals cases e
  · obtain ⟨u, e⟩ := hk.2
    intro x hx
    have hx' : x ∈ N'.ls := hx
    rw [e] at hx'
    rcases List.mem_append.1 hx' with hx' | hx'
    · exact h.sn x hx'
    · obtain rfl := List.mem_singleton.1 hx'
      exact ⟨_, rfl, rfl⟩

theorem AL.fkeep (h : AL W w s) {F' : KF} {v : Value} {fs : List FV} (hk : KFStep w w' s.F F' v fs) (hv : ∀ q, ownFiles v fs q → W.heap.size ≤ q ∧ ∀ L, ¬ alOwn s L q) : AL W w' { s with F := F' } := by
  have hS : ∀ q, q < w.heap.size → (q = s.F.p ∨ s.F.lv.ownBlock = some q ∨ s.F.wv.ownBlock = some q) → alOwn s 3 q := fun q _ e => by
    rcases e with e | e | e
    · exact AL.oF (.inl ⟨_, .inl ⟨rfl, e⟩⟩)
    · exact AL.oF (.inl ⟨_, KP.oL (k := s.F.kp) e⟩)
    · exact AL.oF (.inl ⟨_, KP.oW (k := s.F.kp) e⟩)
  have k := h.kept hk.upd (Lx := 3) hS
  refine ⟨k.mem (by decide), k.upd, k.b (by decide), k.nm (by decide), hk.ins, k.box (by decide), h.own.adopt h.upd.size (fun q => ownFiles v fs q) hv 3 (fun L q hL hq => ?_) (fun q hq => ?_) hk.upd.size (fun q hq => ?_), h.sb, h.sn⟩
  · rcases hq with h1 | h1 | h1 | ⟨e, _⟩ | h1
    · exact .inl h1
    · exact .inr (.inl h1)
    · exact .inr (.inr (.inl h1))
    · exact absurd e hL
    · exact .inr (.inr (.inr (.inr h1)))
  · rcases hq with ⟨e, _⟩ | ⟨e, _⟩ | ⟨e, _⟩ | ⟨_, h1⟩ | ⟨e, _⟩
    · cases e
    · cases e
    · cases e
    · rcases hk.foot q h1 with h2 | h2 | h2
      · exact .inl (AL.oF h2)
      · exact .inr (.inl h2)
      · exact .inr (.inr h2)
    · cases e
  · rcases hq with ⟨e, _⟩ | ⟨e, _⟩ | ⟨e, _⟩ | ⟨_, h1⟩ | ⟨e, _⟩
    · cases e
    · cases e
    · cases e
    · exact hk.ins.lt h1
    · cases e

theorem AL.at_p (h : AL W w s) {v u : Value} (e1 : s.S.dv = v) (e2 : s.S.rv = u) : w.cell? ⟨s.S.p, 0, none⟩ = some v ∧ w.cell? ⟨s.S.p, 1, none⟩ = some u ∧ s.S.p < w.heap.size := by
  subst e1 e2
  exact ⟨by rw [cell_of_row w _ 0 _ _ _ h.mem.top]; rfl, by rw [cell_of_row w _ 1 _ _ _ h.mem.top]; rfl, lt_of_heap h.mem.top⟩
theorem AL.at_d (h : AL W w s) {g n c : Nat} (e : s.S.dv = .slice (some ⟨g, 0, none⟩) n c) {k : Nat} (hk : k < s.S.ds.length) {p : Nat} (hp : s.S.ds[k].p = p) : w.cell? ⟨g, k, none⟩ = some (.pointer (some ⟨p, 0, none⟩)) ∧ g < w.heap.size :=
  owns_at h.mem.rowD e hk (by simp [hk, ptrD, hp])
theorem AL.at_r (h : AL W w s) {g n c : Nat} (e : s.S.rv = .slice (some ⟨g, 0, none⟩) n c) {k : Nat} (hk : k < s.S.rs.length) {p : Nat} (hp : s.S.rs[k].p = p) : w.cell? ⟨g, k, none⟩ = some (.pointer (some ⟨p, 0, none⟩)) ∧ g < w.heap.size :=
  owns_at h.mem.rowR e hk (by simp [hk, ptrR, hp])
theorem AL.at_b (h : AL W w s) {fb : Nat} {c : Array Value} (hb : s.bx = some (fb, c)) {i : Nat} {u : Value} (hu : c[i]? = some u) : w.cell? ⟨fb, i, none⟩ = some u := by
  rw [cell_of_row w _ i _ _ _ (h.box fb c hb)]
  exact hu
theorem AL.at_bl (h : AL W w s) {fb : Nat} {c : Array Value} (hb : s.bx = some (fb, c)) : fb < w.heap.size := lt_of_heap (h.box fb c hb)
end

/-- The state of the loop: how many lists were kept, how much the disks' book holds. -/
structure LI (W w : World) (P pb pn pf : Nat) (c : Nat) (nb : Int) (s : LD) : Prop where
  al : AL W w s
  on : WOn W w s.S
  p : s.S.p = P
  bp : s.B.p = pb
  np : s.Nm.p = pn
  fp : s.F.p = pf
  cb : s.B.ls.length ≤ c
  cn : s.Nm.ls.length ≤ c
  cf : s.F.ls.length ≤ c
  bn : s.S.b.n ≤ nb

/-- The same disks stand there. -/
structure SameD (s s' : LD) : Prop where
  dv : s'.S.dv = s.S.dv
  rv : s'.S.rv = s.S.rv
  len : s'.S.ds.length = s.S.ds.length
  rlen : s'.S.rs.length = s.S.rs.length
  dp : ∀ i (h : i < s.S.ds.length) (h' : i < s'.S.ds.length), s'.S.ds[i].p = s.S.ds[i].p
  rp : ∀ i (h : i < s.S.rs.length) (h' : i < s'.S.rs.length), s'.S.rs[i].p = s.S.rs[i].p
  bx : s'.bx = s.bx

theorem SameD.refl (s : LD) : SameD s s := ⟨rfl, rfl, rfl, rfl, fun _ _ _ => rfl, fun _ _ _ => rfl, rfl⟩

theorem SameD.trans {a b c : LD} (h : SameD a b) (h' : SameD b c) : SameD a c :=
  ⟨h'.dv.trans h.dv, h'.rv.trans h.rv, h'.len.trans h.len, h'.rlen.trans h.rlen, fun i hi hi' => (h'.dp i (by rw [h.len]; exact hi) hi').trans (h.dp i hi (by rw [h.len]; exact hi)), fun i hi hi' => (h'.rp i (by rw [h.rlen]; exact hi) hi').trans (h.rp i hi (by rw [h.rlen]; exact hi)), h'.bx.trans h.bx⟩

section
variable {W w w' : World} {s : LD} {P pb pn pf c : Nat} {nb : Int}

theorem LI.more (h : LI W w P pb pn pf c nb s) {c' : Nat} {nb' : Int} (hc : c ≤ c') (hn : nb ≤ nb') : LI W w P pb pn pf c' nb' s :=
  ⟨h.al, h.on, h.p, h.bp, h.np, h.fp, Nat.le_trans h.cb hc, Nat.le_trans h.cn hc, Nat.le_trans h.cf hc, Int.le_trans h.bn hn⟩

theorem LI.keep (h : LI W w P pb pn pf c nb s) (hu : Upd (fun _ => False) w w') : LI W w' P pb pn pf c nb s := ⟨h.al.keep hu, h.on.keep hu, h.p, h.bp, h.np, h.fp, h.cb, h.cn, h.cf, h.bn⟩

theorem LI.caps (h : LI W w P pb pn pf c nb s) {k : Nat} (hk : k < s.S.ds.length) : ∃ cp fr : Nat, fr ≤ cp ∧ cp ≤ 67108864 ∧
    Calls Tryz.prog 20 #[.pointer (some ⟨s.S.ds[k].p, 0, none⟩)] w (fun e w' => e = .returned (.int .i64 (cp : Int)) ∧ w' = w) ∧
    Calls Tryz.prog 21 #[.pointer (some ⟨s.S.ds[k].p, 0, none⟩)] w fun e w' => e = .returned (.int .i64 (fr : Int)) ∧ LI W w' P pb pn pf c nb s := by
  have hin := h.al.mem.dsIn k hk
  refine ⟨s.S.ds[k].cap, s.S.ds[k].cap - s.S.ds[k].used, Nat.sub_le _ _, hin.cap, capacity_any hin, (free_any hin).mono ?_⟩
  rintro e w' ⟨rfl, n, rfl⟩
  exact ⟨rfl, h.keep ((Upd.refl _ _).drewN n)⟩

theorem AL.low (h : AL W w s) {L q : Nat} (hq : alOwn s L q) : W.heap.size ≤ q ∧ q < w.heap.size := h.own.rng L q hq

set_option maxHeartbeats 1600000 in
/-- Both read; the answer is kept. -/
theorem LI.read (h : LI W w P pb pn pf c nb s) {k : Nat} (hk : k < s.S.ds.length) (hk' : k < s.S.rs.length) (n : ByteArray) (p m : Int) (hc : c ≤ 1000000) :
    Calls Tryz.prog 7 #[.pointer (some ⟨s.S.ds[k].p, 0, none⟩), .string n, .int .i64 p, .int .i64 m] w fun e w1 => ∃ va NV vc ec, e = .returned (.tuple #[.slice va NV vc, .int .i64 ec]) ∧ NV ≤ 67108864 ∧ (∃ s1, AL W w1 s1 ∧ SameD s s1) ∧
      Calls Tryz.prog 8 #[.pointer (some ⟨s.S.rs[k].p, 0, none⟩), .string n, .int .i64 p, .int .i64 m] w1 fun e w2 => ∃ ra RN rc, e = .returned (.tuple #[.slice ra RN rc, .int .i64 ec]) ∧
        Calls Tryz.prog 10 #[.slice va NV vc, .slice ra RN rc] w2 (fun e w3 => e = .returned (.bool true) ∧ w3 = w2) ∧
        Calls Tryz.prog 11 #[.pointer (some ⟨pb, 0, none⟩), .slice va NV vc] w2 fun e w3 => e = .returned (.tuple #[]) ∧ ∃ s', LI W w3 P pb pn pf (c + 1) nb s' ∧ SameD s s' := by
  obtain ⟨hal, hso⟩ := h.on.pair k hk hk'
  have hnd : NamesND s.S.ds[k].abs := names_nodup (h.al.mem.dsIn k hk)
  obtain ⟨ra1, ra2, ra3⟩ := readC_alike hal hnd n p m
  refine (read_c (h.al.mem.dsIn k hk) n p m).mono ?_
  rintro e w1 ⟨v1, s2, rfl, hd1, hf1, hst, habs, hsub, hlen⟩
  obtain ⟨va, vc, hvs, -, -, -, -⟩ := hd1.shape
  have m1 := h.al.mem.stepD h.al.upd.size hk hst
  have hA1 := h.al.turn (S' := { s.S with ds := s.S.ds.set k s2 }) m1 (Turn.stepD (Nat.le_refl _) hk hst)
  have hD1 : SameD s { s with S := { s.S with ds := s.S.ds.set k s2 } } := ⟨rfl, rfl, by show (s.S.ds.set k s2).length = _; simp, rfl, fun i hi hi' => by
    show ((s.S.ds.set k s2)[i]'hi').p = _
    by_cases e : k = i
    · subst e; rw [List.getElem_set_self]; exact hst.p
    · rw [List.getElem_set_ne e], fun i hi hi' => rfl, rfl⟩
  refine ⟨va, _, vc, _, by rw [hvs], hlen, ⟨_, hA1, hD1⟩, ?_⟩
  rw [ra1]
  refine (refRead_any (hA1.mem.rsIn k hk') n p m).mono ?_
  rintro e w2 ⟨v2, r2, rfl, hd2, hf2, hr2, hrabs, hrF⟩
  obtain ⟨ra, rc, hrs, -, -, -, -⟩ := hd2.shape
  have hs1 := hst.upd.size
  have hs2 := hr2.upd.size
  have hrlt : ∀ q, s.S.rs[k].own q → q < w.heap.size := fun q hq => (h.al.mem.rsIn k hk').lt hq
  have hV : ∀ q, v1.ownBlock = some q → w.heap.size ≤ q ∧ q < w1.heap.size := fun q e => ⟨hf1 q e, hd1.lt q e⟩
  have hd1' := hd1.upd hr2.upd (fun q e e2 => by have h1 := hrlt q e2; have := hV q e; omega)
  have m2 := hA1.mem.stepR hA1.upd.size (i := k) hk' hr2
  have hA2 := hA1.turn (S' := { s.S with ds := s.S.ds.set k s2, rs := s.S.rs.set k r2 }) m2 (Turn.stepR (S := { s.S with ds := s.S.ds.set k s2 }) (Nat.le_refl _) hk' hr2)
  have hD2 : SameD s { s with S := { s.S with ds := s.S.ds.set k s2, rs := s.S.rs.set k r2 } } := ⟨rfl, rfl, by show (s.S.ds.set k s2).length = _; simp, by show (s.S.rs.set k r2).length = _; simp, hD1.dp, fun i hi hi' => by
    show ((s.S.rs.set k r2)[i]'hi').p = _
    by_cases e : k = i
    · subst e; rw [List.getElem_set_self]; exact hr2.p
    · rw [List.getElem_set_ne e], rfl⟩
  have hal2 : Alike s2.abs r2.abs := by rw [habs, hrabs]; exact ra3
  have hso2 : Sorted r2.F := by rw [hrF]; exact hso
  have hon2 : WOn W w2 { s.S with ds := s.S.ds.set k s2, rs := s.S.rs.set k r2 } := h.on.mk2 hk hk' hA2.mem hA2.upd hal2 hso2
  refine ⟨ra, _, rc, by rw [hrs], ?_, ?_⟩
  · rw [← hvs, ← hrs]
    refine (same_any hd1'.bytes hd2.bytes).mono ?_
    rintro e w' ⟨rfl, rfl⟩
    exact ⟨by rw [ra2]; simp, rfl⟩
  · rw [← hvs]
    have hfree : ∀ q, v1.ownBlock = some q → W.heap.size ≤ q ∧ ∀ L, ¬ alOwn { s with S := { s.S with ds := s.S.ds.set k s2, rs := s.S.rs.set k r2 } } L q := fun q e => by
      obtain ⟨q1, q2⟩ := hV q e
      have hold : ∀ L, ¬ alOwn s L q := fun L hL => by have := (h.al.low hL).2; omega
      have hW := h.al.upd.size
      refine ⟨by omega, fun L hL => ?_⟩
      rcases hL with ⟨rfl, L', hL⟩ | hL | hL | hL | hL
      · rcases hL with ⟨rfl, hh⟩ | ⟨j, hj, e2, hh⟩ | ⟨j, hj, e2, hh⟩
        · exact hold 0 (AL.oS (L := 0) (.inl ⟨rfl, hh⟩))
        · have hj' : j < s.S.ds.length := by simpa using hj
          have hh' : q ∈ ((s.S.ds.set k s2)[j]'hj).blocks := hh
          by_cases e3 : k = j
          · subst e3
            rw [List.getElem_set_self] at hh'
            exact hold 0 (AL.oS (L := 2 * k + 1) (.inr (.inl ⟨k, hk, rfl, hsub q hh'⟩)))
          · rw [List.getElem_set_ne e3] at hh'
            exact hold 0 (AL.oS (L := 2 * j + 1) (.inr (.inl ⟨j, hj', rfl, hh'⟩)))
        · have hj' : j < s.S.rs.length := by simpa using hj
          have hh' : ((s.S.rs.set k r2)[j]'hj).own q := hh
          by_cases e3 : k = j
          · subst e3
            rw [List.getElem_set_self] at hh'
            rcases hr2.foot q hh' with h1 | h1
            · exact hold 0 (AL.oS (L := 2 * k + 2) (.inr (.inr ⟨k, hk', rfl, h1⟩)))
            · omega
          · rw [List.getElem_set_ne e3] at hh'
            exact hold 0 (AL.oS (L := 2 * j + 2) (.inr (.inr ⟨j, hj', rfl, hh'⟩)))
      · exact hold L (.inr (.inl hL))
      · exact hold L (.inr (.inr (.inl hL)))
      · exact hold L (.inr (.inr (.inr (.inl hL))))
      · exact hold L (.inr (.inr (.inr (.inr hL))))
    have hcb := h.cb
    rw [← h.bp]
    refine (keepB_any hA2.b hd1' (fun q e ho => (hfree q e).2 1 (AL.oB ho)) (by omega) (by show s.B.ls.length ≤ _; omega)).mono ?_
    rintro e w3 ⟨rfl, B', hkk⟩
    have hA3 := hA2.bkeep hkk hfree
    obtain ⟨u, hls⟩ := hkk.2
    refine ⟨rfl, _, ⟨hA3, ⟨hA3.mem, hA3.upd, hon2.pair, hon2.few⟩, h.p, hkk.1.p, h.np, h.fp, ?_, ?_, ?_, h.bn⟩, ⟨hD2.dv, hD2.rv, hD2.len, hD2.rlen, hD2.dp, hD2.rp, rfl⟩⟩
    · show B'.ls.length ≤ c + 1
      rw [hls]
      show (s.B.ls ++ _).length ≤ c + 1
      simp
      omega
    · exact Nat.le_succ_of_le h.cn
    · exact Nat.le_succ_of_le h.cf

/-- Both list; the answer is kept. -/
theorem LI.list (h : LI W w P pb pn pf c nb s) {k : Nat} (hk : k < s.S.ds.length) (hk' : k < s.S.rs.length) (n : ByteArray) (hc : c ≤ 1000000) :
    Calls Tryz.prog 12 #[.pointer (some ⟨s.S.ds[k].p, 0, none⟩), .string n] w fun e w1 => ∃ va m vc, e = .returned (.slice va m vc) ∧ AL W w1 s ∧
      Calls Tryz.prog 14 #[.pointer (some ⟨s.S.rs[k].p, 0, none⟩), .string n] w1 fun e w2 => ∃ v2, e = .returned v2 ∧
        Calls Tryz.prog 13 #[.slice va m vc, v2] w2 fun e w3 => e = .returned (.bool true) ∧ AL W w3 s ∧
        Calls Tryz.prog 15 #[.pointer (some ⟨pn, 0, none⟩), .slice va m vc] w3 fun e w4 => e = .returned (.tuple #[]) ∧ ∃ s', LI W w4 P pb pn pf (c + 1) nb s' ∧ SameD s s' := by
  obtain ⟨hal, hso⟩ := h.on.pair k hk hk'
  obtain ⟨l, hl⟩ : ∃ l, l = listNames s.S.ds[k] n := ⟨_, rfl⟩
  have hlr : listR s.S.rs[k].F n = l := by rw [hl]; exact listR_same (h.al.mem.dsIn k hk) hal hso n
  have hlen256 : l.length ≤ 256 := by
    rw [hl]
    have h1 := (h.al.mem.dsIn k hk).count
    have h2 : (listNames s.S.ds[k] n).length ≤ (sortNames s.S.ds[k].names).length := List.length_filter_le _ _
    have h3 := (sortNames_perm s.S.ds[k].names).length_eq
    have h4 : s.S.ds[k].names.length = s.S.ds[k].recs.length := by simp [DS.names]
    omega
  refine (list_any (h.al.mem.dsIn k hk) n).mono ?_
  rintro e w1 ⟨v1, n1, rfl, hr1, hu1⟩
  rw [← hl] at hr1
  have hn1 : n1 = l.length := by have := hr1.1; simpa using this.symm
  subst hn1
  obtain ⟨va, vc, hvs, -, -, -⟩ := (SRow.of_owns hr1).slice
  have hV : ∀ q, v1.ownBlock = some q → w.heap.size ≤ q := fun q e => (hr1.lt q e).1
  refine ⟨va, _, vc, by rw [hvs], h.al.keep hu1, ?_⟩
  refine (refList_any ((h.al.keep hu1).mem.rsIn k hk') n).mono ?_
  rintro e w2 ⟨v2, n2, rfl, hr2, hu2⟩
  rw [hlr] at hr2
  have hr1' := owns_upd hr1 hu2 (fun _ _ e => e)
  refine ⟨v2, rfl, ?_⟩
  rw [← hvs]
  refine (sameNames_any hr1' hr2).mono ?_
  rintro e w3 ⟨rfl, hu3⟩
  have hu13 : Upd (fun _ => False) w w3 := (hu1.trans hu2 (fun _ _ e => e)).trans hu3 (fun _ _ e => e)
  have hA3 := h.al.keep hu13
  refine ⟨rfl, hA3, ?_⟩
  have hrow := SRow.of_owns (owns_upd hr1' hu3 (fun _ _ e => e))
  have hfree : ∀ q, v1.ownBlock = some q → W.heap.size ≤ q ∧ ∀ L, ¬ alOwn s L q := fun q e => by
    have h1 := hV q e
    have hW := h.al.upd.size
    exact ⟨by omega, fun L hL => by have := (h.al.low hL).2; omega⟩
  have hcn := h.cn
  rw [← h.np]
  refine (keepN_any hA3.nm hrow (fun q e ho => (hfree q e).2 2 (AL.oN ho)) (by omega) (by omega)).mono ?_
  rintro e w4 ⟨rfl, N', hkk⟩
  have hA4 := hA3.nkeep hkk hfree
  obtain ⟨u, hls⟩ := hkk.2
  refine ⟨rfl, _, ⟨hA4, ⟨hA4.mem, hA4.upd, h.on.pair, h.on.few⟩, h.p, h.bp, hkk.1.p, h.fp, Nat.le_succ_of_le h.cb, ?_, Nat.le_succ_of_le h.cf, h.bn⟩, ⟨rfl, rfl, rfl, rfl, fun _ _ _ => rfl, fun _ _ _ => rfl, rfl⟩⟩
  show N'.ls.length ≤ c + 1
  rw [hls]
  simp
  omega

/-- Both tell the same files. -/
theorem files2L {S : WS} (hon : WOn W w S) {k : Nat} (hk : k < S.ds.length) (hk' : k < S.rs.length) :
    (∀ V', Upd (fun _ => False) w V' → Calls Tryz.prog 16 #[.pointer (some ⟨S.ds[k].p, 0, none⟩)] V' fun e V2 => ∃ v l, e = .returned v ∧ FilesAt V2 V'.heap.size v l ∧ l.map FV.abs = fileList S.ds[k] ∧ Upd (fun _ => False) V' V2) ∧
    ∀ V', Upd (fun _ => False) w V' → Calls Tryz.prog 18 #[.pointer (some ⟨S.rs[k].p, 0, none⟩)] V' fun e V2 => ∃ v l, e = .returned v ∧ FilesAt V2 V'.heap.size v l ∧ l.map FV.abs = fileList S.ds[k] ∧ Upd (fun _ => False) V' V2 := by
  obtain ⟨hal, hso⟩ := hon.pair k hk hk'
  have hsf : S.rs[k].F.map FV.abs = fileList S.ds[k] := sorted_fileList (hon.mem.dsIn k hk) hal hso
  exact ⟨fun V' hV => files_any ((hon.keep hV).mem.dsIn k hk), fun V' hV => by rw [← hsf]; exact refFiles_any ((hon.keep hV).mem.rsIn k hk')⟩

/-- Both tell their files; the answer is kept. -/
theorem LI.files (h : LI W w P pb pn pf c nb s) {k : Nat} (hk : k < s.S.ds.length) (hk' : k < s.S.rs.length) (hc : c ≤ 1000000) :
    Calls Tryz.prog 16 #[.pointer (some ⟨s.S.ds[k].p, 0, none⟩)] w fun e w1 => ∃ va m vc, e = .returned (.slice va m vc) ∧
      Calls Tryz.prog 18 #[.pointer (some ⟨s.S.rs[k].p, 0, none⟩)] w1 fun e w2 => ∃ v2, e = .returned v2 ∧
        Calls Tryz.prog 17 #[.slice va m vc, v2] w2 fun e w3 => e = .returned (.bool true) ∧
        Calls Tryz.prog 19 #[.pointer (some ⟨pf, 0, none⟩), .slice va m vc] w3 fun e w4 => e = .returned (.tuple #[]) ∧ ∃ s', LI W w4 P pb pn pf (c + 1) nb s' ∧ SameD s s' := by
  obtain ⟨f1, f2⟩ := files2L h.on hk hk'
  have hin := h.al.mem.dsIn k hk
  refine (f1 w (Upd.refl _ _)).mono ?_
  rintro e w1 ⟨v1, l1, rfl, hf1, ha1, hu1⟩
  obtain ⟨va, vc, hvs, -, -, -⟩ := (SRow.of_owns hf1.row).slice
  refine ⟨va, _, vc, by rw [hvs], ?_⟩
  refine (f2 w1 hu1).mono ?_
  rintro e w2 ⟨v2, l2, rfl, hf2, ha2, hu2⟩
  refine ⟨v2, rfl, ?_⟩
  have hf1' := hf1.keep hu2 (fun _ _ e => e)
  rw [← hvs]
  refine (sameFiles_any hf1' hf2).mono ?_
  rintro e w3 ⟨b, rfl, hb, hu3⟩
  refine ⟨by rw [hb.2 (ha1.trans ha2.symm)], ?_⟩
  have hu13 : Upd (fun _ => False) w w3 := (hu1.trans hu2 (fun _ _ e => e)).trans hu3 (fun _ _ e => e)
  have hA3 := h.al.keep hu13
  have hf3 := (hf1'.keep hu3 (fun _ _ e => e)).lower (Nat.zero_le _)
  obtain ⟨hsm, hln⟩ := files_small hin ha1
  have hfree : ∀ q, ownFiles v1 l1 q → W.heap.size ≤ q ∧ ∀ L, ¬ alOwn s L q := fun q e => by
    have h1 := hf1.own_low e
    have hW := h.al.upd.size
    exact ⟨by omega, fun L hL => by have := (h.al.low hL).2; omega⟩
  have hcf := h.cf
  rw [← h.fp]
  refine (keepF_any hA3.f hf3 (fun q e ho => (hfree q e).2 3 (AL.oF ho)) hln hsm (by omega)).mono ?_
  rintro e w4 ⟨rfl, F', hkk⟩
  have hA4 := hA3.fkeep hkk hfree
  refine ⟨rfl, _, ⟨hA4, ⟨hA4.mem, hA4.upd, h.on.pair, h.on.few⟩, h.p, h.bp, h.np, hkk.p, Nat.le_succ_of_le h.cb, Nat.le_succ_of_le h.cn, ?_, h.bn⟩, ⟨rfl, rfl, rfl, rfl, fun _ _ _ => rfl, fun _ _ _ => rfl, rfl⟩⟩
  show F'.ls.length ≤ c + 1
  rw [hkk.ls]
  omega

/-- Any call of the script. -/
theorem LI.plays (h : LI W w P pb pn pf c nb s) {o : OpI} (ho : o.Ok2 W) (hL : 0 < s.S.ds.length) (hn : nb + ((o.files.length : Int) + 256) * 268435456 ≤ 4611686018427387904) :
    Calls Tryz.prog 22 #[.pointer (some ⟨P, 0, none⟩), .agg o.cells] w fun e w' => e = .returned (.bool true) ∧ ∃ s', LI W w' P pb pn pf c (nb + ((o.files.length : Int) + 256) * 268435456) s' ∧ s.S.ds.length ≤ s'.S.ds.length := by
  have hbn := h.bn
  rw [← h.p]
  refine (plays_any h.on ho hL (by omega)).mono ?_
  rintro e V' ⟨rfl, S', h1, h2, h3, h4, h5⟩
  exact ⟨rfl, { s with S := S' }, ⟨h.al.turn h1.mem h5, h1, h2, h.bp, h.np, h.fp, h.cb, h.cn, h.cf, by show S'.b.n ≤ _; omega⟩, h3⟩

theorem LI.untouched (h : LI W w P pb pn pf c nb s) : Calls Tryz.prog 23 #[.pointer (some ⟨pb, 0, none⟩)] w fun e w' => e = .returned (.bool true) ∧ LI W w' P pb pn pf c nb s := by
  rw [← h.bp]
  refine (untouchedB_any h.al.b h.al.sb).mono ?_
  rintro e w' ⟨rfl, hd⟩
  have h2 := h.keep hd.1
  rw [h.bp]
  exact ⟨rfl, h2⟩

/-- All is settled; the disks hold what they held. -/
theorem LI.settle (h : LI W w P pb pn pf c nb s) (hc : c ≤ 300) :
    Calls Tryz.prog 24 #[.pointer (some ⟨pf, 0, none⟩), .pointer (some ⟨pb, 0, none⟩)] w fun e w1 => e = .returned (.bool true) ∧
      Calls Tryz.prog 25 #[.pointer (some ⟨pb, 0, none⟩)] w1 fun e w2 => e = .returned (.bool true) ∧
        Calls Tryz.prog 26 #[.pointer (some ⟨pn, 0, none⟩)] w2 fun e w3 => e = .returned (.bool true) ∧ WOn W w3 s.S := by
  have c1 := h.cb; have c2 := h.cn; have c3 := h.cf
  have hA := h.al
  have one : ∀ {L L' q}, alOwn s L q → alOwn s L' q → L = L' := fun h1 h2 => hA.own.one h1 h2
  rw [← h.fp, ← h.bp, ← h.np]
  refine (settleF_any hA.f hA.b hA.sb (fun q h1 h2 => by have := one (AL.oF h1) (AL.oB h2); omega) (by have : 256 * s.F.ls.length ≤ 256 * c := Nat.mul_le_mul_left _ c3; omega)).mono ?_
  rintro e w1 ⟨rfl, b', he⟩
  refine ⟨rfl, ?_⟩
  rw [← he.p]
  have hbl : b'.ls.length ≤ 1000000 := by have h1 := he.few; have : 256 * s.F.ls.length ≤ 256 * c := Nat.mul_le_mul_left _ c3; omega
  refine (settleB_any he.book he.same hbl).mono ?_
  rintro e w2 ⟨rfl, hu2⟩
  refine ⟨rfl, ?_⟩
  have hU2 : Upd (fun q => s.F.own q ∨ s.B.own q) w w2 := he.upd.trans hu2 (fun q hq e => by
    rcases he.foot q e with h1 | h1 | h1
    · exact .inr h1
    · exact .inl h1
    · omega)
  have hN2 : s.Nm.N w2 := hA.nm.upd hU2 (fun q hq e => by
    rcases e with e | e
    · have := one (AL.oN hq) (AL.oF e); omega
    · have := one (AL.oN hq) (AL.oB e); omega)
  refine (settleN_any hN2 hA.sn (by omega)).mono ?_
  rintro e w3 ⟨rfl, hu3⟩
  refine ⟨rfl, ?_⟩
  have hU3 : Upd (fun q => s.F.own q ∨ s.B.own q ∨ s.Nm.own q) w w3 := (hU2.mono (T := fun q => s.F.own q ∨ s.B.own q ∨ s.Nm.own q) (fun q _ e => e.elim .inl (fun e => .inr (.inl e)))).trans hu3 (fun q _ e => .inr (.inr e))
  refine ⟨hA.mem.keepT hU3 (fun L q hq e => ?_), hA.upd.trans hU3 (fun q hq e => ?_), h.on.pair, h.on.few⟩
  · rcases e with e | e | e
    · have := one (AL.oS hq) (AL.oF e); omega
    · have := one (AL.oS hq) (AL.oB e); omega
    · have := one (AL.oS hq) (AL.oN e); omega
  · rcases e with e | e | e
    · have := (hA.low (AL.oF e)).1; omega
    · have := (hA.low (AL.oB e)).1; omega
    · have := (hA.low (AL.oN e)).1; omega
end

end Go.Proofs.YtohpgmeflmppaaaGreat

namespace Go.Proofs.YtohpgmeflmppaaaGreat
set_option linter.unusedVariables false
set_option linter.unusedSimpArgs false
set_option linter.unnecessarySimpa false
set_option linter.unusedSectionVars false
open Go Go.RowKit

/-- v is a slice that reads as these calls. -/
structure OpsIn (w : World) (v : Value) (l : List OpI) : Prop where
  shape : ∃ ao cap, v = .slice ao l.length cap ∧ l.length ≤ cap ∧ cap ≤ 9223372036854775807 ∧ ∀ k (hk : k < l.length), ∃ b o, ao = some ⟨b, o, none⟩ ∧ b < w.heap.size ∧
    w.cell? ⟨b, o + k * 9, none⟩ = some (.int .i64 l[k].kind) ∧ w.cell? ⟨b, o + k * 9 + 1, none⟩ = some (.int .i64 l[k].obj) ∧ w.cell? ⟨b, o + k * 9 + 2, none⟩ = some (.string l[k].name) ∧ w.cell? ⟨b, o + k * 9 + 3, none⟩ = some (.string l[k].dest) ∧
    w.cell? ⟨b, o + k * 9 + 4, none⟩ = some l[k].bv ∧ w.cell? ⟨b, o + k * 9 + 5, none⟩ = some (.int .i64 l[k].pos) ∧ w.cell? ⟨b, o + k * 9 + 6, none⟩ = some (.int .i64 l[k].n) ∧ w.cell? ⟨b, o + k * 9 + 7, none⟩ = some l[k].cv ∧ w.cell? ⟨b, o + k * 9 + 8, none⟩ = some l[k].fv
  ok : ∀ o ∈ l, o.Ok2 w
  few : ∀ o ∈ l, o.files.length ≤ 1048576

/-- How much the book may grow. -/
def mostN (l : List OpI) : Nat := (l.map fun o => o.files.length + 256).sum

theorem mostN_succ {l : List OpI} {k : Nat} (hk : k < l.length) : mostN (l.take (k + 1)) = mostN (l.take k) + (l[k].files.length + 256) := by
  unfold mostN
  rw [List.take_succ_eq_append_getElem hk, List.map_append, List.sum_append]
  simp

theorem mostN_take (l : List OpI) (k : Nat) : mostN (l.take k) ≤ mostN l := by
  have h : mostN l = mostN (l.take k) + mostN (l.drop k) := by
    unfold mostN
    rw [← List.sum_append, ← List.map_append, List.take_append_drop]
  omega

end Go.Proofs.YtohpgmeflmppaaaGreat
