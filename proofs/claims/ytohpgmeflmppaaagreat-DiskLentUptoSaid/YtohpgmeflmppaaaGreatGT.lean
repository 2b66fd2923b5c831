/-
  laid: files whose bytes are cut out of longer arrays; walked.
  sameFiles of files that were handed in: the same files are the same; walked.
  Lists taken into the book one behind the other; what Load made of both sides: plain laws.
-/
import Derived.Test.YtohpgmeflmppaaaGreatGR
import Derived.Test.YtohpgmeflmppaaaGreatGO
namespace Go.Proofs.YtohpgmeflmppaaaGreat
set_option linter.unusedVariables false
set_option linter.unusedSimpArgs false
set_option linter.unnecessarySimpa false
set_option linter.unusedSectionVars false
open Go Go.RowKit

/-- One list joins the list of lists. -/
theorem run_append_list1 {w : World} {lv a : Value} {n : Nat} {xs : List Value} (h : w.ownsRow 0 38 1 lv n xs) (hn : n ≤ 100000000) (ha : a.oneCell' = true) (ty : TypeId) :
    ∃ v' w', (Builtin.append_ #[27, 27] ty #[lv, .slice (some ⟨w.heap.size, 0, none⟩) 1 1]).run Tryz.prog (w.alloc (.cells #[a] 38)) = .ok v' w' ∧ w'.ownsRow 0 38 1 v' (n + 1) (xs ++ [a]) ∧
      Upd (fun k => lv.ownBlock = some k) w w' ∧ (∀ k, v'.ownBlock = some k → lv.ownBlock = some k ∨ w.heap.size ≤ k) := by
  obtain ⟨i0, hi, hz0, hz1, hz2⟩ := info_parts Tryz.infoBytes
  obtain ⟨v', w', hr, hown, hgr, -, hat⟩ := run_append_own_at (P := Tryz.prog) (w.alloc (.cells #[a] 38)) 0 27 ty 38 i0 _ 1 24 Tryz.underlying27 hi hz0 hz1 hz2 rfl (by omega) lv n xs
    ((owns_upd (S := fun _ => False) h (Upd.refl _ _) (fun _ _ h => h)).alloc _) ⟨w.heap.size, 0, none⟩ 1 1 [a] rfl (by
      intro j u hu
      have hb0 := heap_alloc_new w (.cells #[a] 38)
      match j, hu with
      | 0, hu => simp at hu; subst hu; rw [show (Addr.add ⟨w.heap.size, 0, none⟩ 0 : Addr) = ⟨w.heap.size, 0, none⟩ from by simp [Addr.add], cell_of_row _ _ 0 _ _ _ hb0]; rfl
      | j + 1, hu => simp at hu) (by
      intro u hu
      simp only [List.mem_cons, List.not_mem_nil, or_false] at hu
      subst hu
      exact ha) (by unfold maxLen; omega) (by omega) (Nat.zero_le _)
  refine ⟨v', w', hr, hown, ((Upd.refl _ _).alloc _).grown hgr (fun k hk _ => hk), fun k hk => ?_⟩
  rcases hat with h1 | h1
  · exact .inl (h1 ▸ hk)
  · rw [h1] at hk
    right
    simp at hk
    omega

/-- One file joins a list of files. -/
theorem run_append_file1 {w : World} {lv dv : Value} {nm : ByteArray} {sy : Int} {n : Nat} {xs : List Value} (h : w.ownsRow 0 80 3 lv n xs) (hn : n ≤ 100000000) (ha : dv.oneCell' = true) (ty : TypeId) :
    ∃ v' w', (Builtin.append_ #[40, 40] ty #[lv, .slice (some ⟨w.heap.size, 0, none⟩) 1 1]).run Tryz.prog (w.alloc (.cells #[.string nm, dv, .int .i64 sy] 80)) = .ok v' w' ∧ w'.ownsRow 0 80 3 v' (n + 1) (xs ++ [.string nm, dv, .int .i64 sy]) ∧
      Upd (fun k => lv.ownBlock = some k) w w' ∧ (∀ k, v'.ownBlock = some k → lv.ownBlock = some k ∨ w.heap.size ≤ k) := by
  obtain ⟨i0, hi, hz0, hz1, hz2⟩ := info_parts Tryz.infoFile
  obtain ⟨v', w', hr, hown, hgr, -, hat⟩ := run_append_own_at (P := Tryz.prog) (w.alloc (.cells #[.string nm, dv, .int .i64 sy] 80)) 0 40 ty 80 i0 _ 3 48 Tryz.underlying40 hi hz0 hz1 hz2 rfl (by omega) lv n xs
    ((owns_upd (S := fun _ => False) h (Upd.refl _ _) (fun _ _ h => h)).alloc _) ⟨w.heap.size, 0, none⟩ 1 1 [.string nm, dv, .int .i64 sy] rfl
    (World.news_of_block (cs := #[.string nm, dv, .int .i64 sy]) (t := 80) (fr := (0, 0)) (heap_alloc_new w _)) (by
      intro u hu
      simp only [List.mem_cons, List.not_mem_nil, or_false] at hu
      rcases hu with rfl | rfl | rfl
      · rfl
      · exact ha
      · rfl) (by unfold maxLen; omega) (by omega) (Nat.zero_le _)
  refine ⟨v', w', hr, hown, ((Upd.refl _ _).alloc _).grown hgr (fun k hk _ => hk), fun k hk => ?_⟩
  rcases hat with h1 | h1
  · exact .inl (h1 ▸ hk)
  · rw [h1] at hk
    right
    simp at hk
    omega

theorem row_shape3 {w : World} {base : Nat} {e : TypeId} {n : Nat} {v : Value} {xs : List Value} (h : w.ownsRow base e 3 v n xs) : ∃ ao cap, v = .slice ao n cap ∧ n ≤ cap ∧ cap ≤ 9223372036854775807 ∧ xs.length = n * 3 ∧
    ∀ j (hj : j < xs.length), ∃ g, ao = some ⟨g, 0, none⟩ ∧ g < w.heap.size ∧ w.cell? ⟨g, j, none⟩ = some xs[j] := by
  obtain ⟨hl, h⟩ := h
  rcases h with ⟨rfl, rfl⟩ | ⟨g, cap, cur, rfl, hb, hg, h2, h3, h4, h5⟩
  · exact ⟨none, 0, rfl, Nat.le_refl _, by decide, hl, fun j hj => absurd hj (by omega)⟩
  · refine ⟨some ⟨g, 0, none⟩, cap, rfl, h2, by simpa [maxLen] using h3, hl, fun j hj => ⟨g, rfl, lt_of_heap hg, ?_⟩⟩
    rw [cell_of_row w g j cur _ _ hg, ← Array.getElem?_toList]
    have := congrArg (fun l => l[j]?) h5
    simp only [List.getElem?_take, List.getElem?_eq_getElem hj] at this
    rw [if_pos (by omega)] at this
    exact this

/-- A file that was laid: the block of its bytes, and its room. -/
structure LF where
  g : Nat
  cap : Nat
  f : FileI

def tail5 : List UInt8 := [201, 202, 203, 204, 205]
def LF.dv (x : LF) : Value := .slice (some ⟨x.g, 0, none⟩) x.f.data.length x.cap
def LF.wide (x : LF) : Value := .slice (some ⟨x.g, 0, none⟩) (x.f.data.length + 5) x.cap
def LF.toI (x : LF) : FileI := { x.f with dv := x.dv }
def LF.cells (x : LF) : List Value := [.string x.f.name, x.dv, .int .i64 x.f.synced]

/-- Files that were laid, and the arrays; all new since N. -/
structure Laid (w : World) (N : Nat) (lv wv : Value) (L : List LF) (n : Nat) (more : List Value) : Prop where
  rowL : w.ownsRow 0 80 3 lv n (L.flatMap LF.cells ++ more)
  rowW : w.ownsRow 0 38 1 wv L.length (L.map LF.wide)
  data : ∀ x ∈ L, DataIs w x.wide (x.f.data ++ tail5)
  low : (∀ k, lv.ownBlock = some k → N ≤ k) ∧ (∀ k, wv.ownBlock = some k → N ≤ k) ∧ ∀ x ∈ L, N ≤ x.g
  nodup : (L.map LF.g).Nodup
  apart : (∀ k, lv.ownBlock = some k → ¬ wv.ownBlock = some k ∧ ∀ x ∈ L, x.g ≠ k) ∧ ∀ k, wv.ownBlock = some k → ∀ x ∈ L, x.g ≠ k

theorem Laid.lt {w : World} {N : Nat} {lv wv : Value} {L : List LF} {n : Nat} {more : List Value} (h : Laid w N lv wv L n more) {x : LF} (hx : x ∈ L) : x.g < w.heap.size := (h.data x hx).lt x.g rfl

theorem Laid.keep {w w' : World} {N : Nat} {lv wv : Value} {L : List LF} {n : Nat} {more : List Value} (h : Laid w N lv wv L n more) (hu : Upd (fun _ => False) w w') : Laid w' N lv wv L n more :=
  ⟨owns_upd h.rowL hu (fun _ _ h => h), owns_upd h.rowW hu (fun _ _ h => h), fun x hx => (h.data x hx).upd hu (fun _ _ h => h), h.low, h.nodup, h.apart⟩

theorem Laid.wide {w w1 w2 : World} {N : Nat} {lv wv wv' : Value} {L : List LF} {n : Nat} {more : List Value} (h : Laid w N lv wv L n more) (hN : N ≤ w.heap.size) (hu1 : Upd (fun _ => False) w w1) {x : LF} (hx : DataIs w1 x.wide (x.f.data ++ tail5)) (hxg : w.heap.size ≤ x.g)
    (hrow : w2.ownsRow 0 38 1 wv' (L.length + 1) (L.map LF.wide ++ [x.wide])) (hu2 : Upd (fun k => wv.ownBlock = some k) w1 w2) (hat : ∀ k, wv'.ownBlock = some k → wv.ownBlock = some k ∨ w1.heap.size ≤ k) :
    w2.ownsRow 0 80 3 lv n (L.flatMap LF.cells ++ more) ∧ (∀ y ∈ L ++ [x], DataIs w2 y.wide (y.f.data ++ tail5)) ∧ (∀ k, wv'.ownBlock = some k → N ≤ k) ∧ ((L ++ [x]).map LF.g).Nodup ∧ (∀ k, lv.ownBlock = some k → ¬ wv'.ownBlock = some k ∧ ∀ y ∈ L ++ [x], y.g ≠ k) ∧ (∀ k, wv'.ownBlock = some k → ∀ y ∈ L ++ [x], y.g ≠ k) ∧ (∀ y ∈ L ++ [x], y.g < w1.heap.size) ∧ ∀ y ∈ L ++ [x], N ≤ y.g := by
  have hs1 := hu1.size
  have hx1 : x.g < w1.heap.size := hx.lt x.g rfl
  have hmem : ∀ y ∈ L ++ [x], y ∈ L ∨ y = x := fun y hy => by simpa using hy
  have hall : ∀ y ∈ L ++ [x], y.g < w1.heap.size := fun y hy => by
    rcases hmem y hy with hy | rfl
    · exact Nat.lt_of_lt_of_le (h.lt hy) hs1
    · exact hx1
  have hwlt : ∀ k, wv.ownBlock = some k → k < w.heap.size := fun k hk => (h.rowW.lt k hk).2
  have hllt : ∀ k, lv.ownBlock = some k → k < w.heap.size := fun k hk => (h.rowL.lt k hk).2
  have hnw : ∀ k, wv.ownBlock = some k → ∀ y ∈ L ++ [x], y.g ≠ k := fun k hk y hy => by
    rcases hmem y hy with hy | rfl
    · exact h.apart.2 k hk y hy
    · have := hwlt k hk; omega
  refine ⟨owns_upd (owns_upd h.rowL hu1 (fun _ _ h => h)) hu2 (fun k hk => (h.apart.1 k hk).1), fun y hy => ?_, fun k hk => ?_, ?_, fun k hk => ⟨fun e => ?_, fun y hy => ?_⟩, fun k hk y hy => ?_, hall, fun y hy => ?_⟩
  · have hd : DataIs w1 y.wide (y.f.data ++ tail5) := by
      rcases hmem y hy with hy | rfl
      · exact (h.data y hy).upd hu1 (fun _ _ h => h)
      · exact hx
    exact hd.upd hu2 (fun k hk e => by cases hk; exact hnw _ e y hy rfl)
  · rcases hat k hk with e | e
    · exact h.low.2.1 k e
    · omega
  · rw [List.map_append, List.nodup_append]
    refine ⟨h.nodup, by simp, fun a ha b hb e => ?_⟩
    obtain ⟨y, hy, rfl⟩ := List.mem_map.1 ha
    have : b = x.g := by simpa using hb
    have := h.lt hy
    omega
  · rcases hat k e with e | e
    · exact (h.apart.1 k hk).1 e
    · have := hllt k hk; omega
  · rcases hmem y hy with hy | rfl
    · exact (h.apart.1 k hk).2 y hy
    · have := hllt k hk; omega
  · rcases hat k hk with e | e
    · exact hnw k e y hy
    · have := hall y hy; omega
  · rcases hmem y hy with hy | rfl
    · exact h.low.2.2 y hy
    · omega

/-- The list of files has grown too. -/
theorem Laid.grown {w w1 w2 w3 : World} {N : Nat} {lv lv' wv wv' : Value} {L : List LF} (h : Laid w N lv wv L L.length []) (hN : N ≤ w.heap.size) (hu1 : Upd (fun _ => False) w w1) {x : LF} (hx : DataIs w1 x.wide (x.f.data ++ tail5)) (hxg : w.heap.size ≤ x.g)
    (hrow : w2.ownsRow 0 38 1 wv' (L.length + 1) (L.map LF.wide ++ [x.wide])) (hu2 : Upd (fun k => wv.ownBlock = some k) w1 w2) (hat : ∀ k, wv'.ownBlock = some k → wv.ownBlock = some k ∨ w1.heap.size ≤ k)
    (hrow3 : w3.ownsRow 0 80 3 lv' (L.length + 1) (L.flatMap LF.cells ++ x.cells)) (hu3 : Upd (fun k => lv.ownBlock = some k) w2 w3) (hat3 : ∀ k, lv'.ownBlock = some k → lv.ownBlock = some k ∨ w2.heap.size ≤ k) :
    Laid w3 N lv' wv' (L ++ [x]) (L ++ [x]).length [] := by
  obtain ⟨a1, a2, a3, a4, a5, a6, a7, a8⟩ := h.wide hN hu1 hx hxg hrow hu2 hat
  have s1 := hu1.size; have s2 := hu2.size
  refine ⟨by simpa using hrow3, ?_, fun y hy => (a2 y hy).upd hu3 (fun k hk e => by cases hk; exact (a5 _ e).2 y hy rfl), ⟨fun k hk => ?_, a3, a8⟩, a4, ⟨fun k hk => ?_, a6⟩⟩
  · have := owns_upd hrow hu3 (fun k hk e => (a5 k e).1 hk)
    simpa using this
  · rcases hat3 k hk with e | e
    · exact h.low.1 k e
    · omega
  · rcases hat3 k hk with e | e
    · exact a5 k e
    · exact ⟨fun e2 => by have := (hrow.lt k e2).2; omega, fun y hy e2 => by have := a7 y hy; omega⟩

/-- The mark behind the files. -/
theorem Laid.marked {w w3 : World} {N : Nat} {lv lv' wv : Value} {L : List LF} {more : List Value} (h : Laid w N lv wv L L.length []) (hN : N ≤ w.heap.size)
    (hrow3 : w3.ownsRow 0 80 3 lv' (L.length + 1) (L.flatMap LF.cells ++ more)) (hu3 : Upd (fun k => lv.ownBlock = some k) w w3) (hat3 : ∀ k, lv'.ownBlock = some k → lv.ownBlock = some k ∨ w.heap.size ≤ k) :
    Laid w3 N lv' wv L (L.length + 1) more := by
  refine ⟨hrow3, owns_upd h.rowW hu3 (fun k hk e => (h.apart.1 k e).1 hk), fun y hy => (h.data y hy).upd hu3 (fun k hk e => by cases hk; exact (h.apart.1 _ e).2 y hy rfl), ⟨fun k hk => ?_, h.low.2⟩, h.nodup, ⟨fun k hk => ?_, h.apart.2⟩⟩
  · rcases hat3 k hk with e | e
    · exact h.low.1 k e
    · omega
  · rcases hat3 k hk with e | e
    · exact h.apart.1 k e
    · exact ⟨fun e2 => by have := (h.rowW.lt k e2).2; omega, fun y hy e2 => by have := h.lt hy; omega⟩

theorem map_take_snoc {L : List LF} {l : List FileI} {k : Nat} (h : L.map LF.f = l.take k) (hk : k < l.length) (g cap : Nat) : (L ++ [LF.mk g cap l[k]]).map LF.f = l.take (k + 1) := by
  rw [List.map_append, h, List.take_succ_eq_append_getElem hk]
  rfl

set_option maxRecDepth 100000 in
set_option maxHeartbeats 3200000 in
theorem laid_any {w : World} {v : Value} {l : List FileI} (hl : FilesIn w v l) (hsm : ∀ f ∈ l, f.data.length ≤ 67108864) (hlen : l.length ≤ 10000000) :
    Calls Tryz.prog 64 #[v] w fun e w' => ∃ (L : List LF) (la : Option Addr) (lc : Nat) (wv : Value), e = .returned (.tuple #[.slice la l.length lc, wv]) ∧ l.length + 1 ≤ lc ∧ lc ≤ 9223372036854775807 ∧ L.map LF.f = l ∧
      Laid w' w.heap.size (.slice la (l.length + 1) lc) wv L (L.length + 1) [.string ⟨#[109, 97, 114, 107]⟩, .slice none 0 0, .int .i64 0] ∧ Upd (fun _ => False) w w' := by
  obtain ⟨ao, lcap, rfl, hl1, hl2, hcells⟩ := hl.shape
  have HL := hid hl; have HCE := hid hcells; have HSM := hid hsm
  clear hl hcells hsm
  go_enter Tryz.func64, Tryz.ntmps64
  go_wp2
  go_loopw [4, 5, 6] (fun lv wv i wr => ∃ k : Nat, k ≤ l.length ∧ i = .int .i64 k ∧ ∃ L : List LF, L.map LF.f = l.take k ∧ Laid wr w.heap.size lv wv L L.length [] ∧ Upd (fun _ => False) w wr) (fun _ _ i _ => l.length - (intOf i).toNat)
  case atStart => exact ⟨0, Nat.zero_le _, rfl, [], by simp, ⟨World.ownsRow_nil _ _ _ _, World.ownsRow_nil _ _ _ _, by simp, ⟨(fun k h => by cases h), (fun k h => by cases h), by simp⟩, by simp, ⟨(fun k h => by cases h), (fun k h => by cases h)⟩⟩, Upd.refl _ _⟩
  case round =>
    obtain ⟨k, hk, rfl, L, hL, hla, hup⟩ := hrel
    have hLl : L.length = k := by have := congrArg List.length hL; simp at this; omega
    obtain ⟨la, lc, hlv, hlc1, hlc2, -, -⟩ := row_shape3 hla.rowL
    obtain ⟨wa, wc, hwv, -, -⟩ := owns_shape hla.rowW
    have HLM := hid hL; have HLA := hid hla; have HUP := hid hup; have HLL := hid hLl
    by_cases hlt : k < l.length
    · obtain ⟨b, o, rfl, hb, c0, c1, c2⟩ := HCE.out k hlt
      have hm : l[k] ∈ l := List.getElem_mem hlt
      have hbl := HSM.out _ hm
      have hby := (HL.out.bytes l[k] hm).upd hup (fun a m c e h0 => ⟨fun h => h, HL.out.low l[k] hm a m c e h0⟩)
      obtain ⟨f, hf⟩ : ∃ f, f = l[k] := ⟨_, rfl⟩
      rw [← hf] at c0 c1 c2 hby hbl
      obtain ⟨po, pc, hdv, -, -⟩ := id hby
      rw [hdv] at c1 hby
      have d0 := (World.cell?_of_block (a := ⟨b, o + k * 3, none⟩) (hup.block b hb (fun h => h))).trans c0
      have d1 := (World.cell?_of_block (a := ⟨b, o + k * 3 + 1, none⟩) (hup.block b hb (fun h => h))).trans c1
      have d2 := (World.cell?_of_block (a := ⟨b, o + k * 3 + 2, none⟩) (hup.block b hb (fun h => h))).trans c2
      have hbr : b < wr.heap.size := Nat.lt_of_lt_of_le hb hup.size
      have HBY := hid hby; have HF := hid hf
      rw [hlv, hwv]
      have HLV := hid hlv; have HWV := hid hwv
      clear hL hla hup hLl c0 c1 c2 hm hf hby hdv hlv hwv
      go_wp2_with fail
      refine (roomy_any HBY.out hbl).mono ?_
      rintro e w1 ⟨v1, rfl, hd1, hn1, hu1⟩
      obtain ⟨ga, gc, hgs, hgl, hgm, hgn, hgz⟩ := hd1.shape
      obtain ⟨g, rfl⟩ : ∃ g, ga = some ⟨g, 0, none⟩ := by
        cases ga with
        | none => have := congrArg List.length (hgn rfl).1; simp at this
        | some a =>
          obtain ⟨z1, z2, -, -⟩ := hgz a rfl
          obtain ⟨g, q, s⟩ := a
          simp only at z1 z2
          subst z1 z2
          exact ⟨g, rfl⟩
      have hl5 : (f.data ++ [201, 202, 203, 204, 205]).length = f.data.length + 5 := by simp
      rw [hl5] at hgs hgl
      have hgc2 : f.data.length ≤ gc := by omega
      have hgc3 : (f.data.length : Int) ≤ (gc : Int) := by omega
      have hgm' : gc ≤ 9223372036854775807 := by simpa [maxLen] using hgm
      subst hgs
      have hgw := hn1 g rfl
      have d0' := (World.cell?_of_block (a := ⟨b, o + k * 3, none⟩) (hu1.block b hbr (fun h => h))).trans d0
      have d1' := (World.cell?_of_block (a := ⟨b, o + k * 3 + 1, none⟩) (hu1.block b hbr (fun h => h))).trans d1
      have d2' := (World.cell?_of_block (a := ⟨b, o + k * 3 + 2, none⟩) (hu1.block b hbr (fun h => h))).trans d2
      obtain ⟨wv2, w2, hrun2, hrow2, hu2, hat2⟩ := run_append_list1 (w := w1) (a := .slice (some ⟨g, 0, none⟩) (f.data.length + 5) gc) (owns_upd HLA.out.rowW hu1 (fun _ _ h => h)) (by have := HLL.out; omega) rfl 27
      obtain ⟨wa2, wc2, hws2, -, -⟩ := owns_shape hrow2
      have hxd : DataIs w1 (LF.wide ⟨g, gc, f⟩) ((LF.mk g gc f).f.data ++ tail5) := hd1
      obtain ⟨a1, a2, a3, a4, a5, a6, a7, a8⟩ := HLA.out.wide HUP.out.size hu1 hxd hgw hrow2 hu2 hat2
      have hbw : b < w2.heap.size := by have := hu1.size; have := hu2.size; omega
      have hnb : ¬ (Value.slice wa L.length wc).ownBlock = some b := fun e => by have := HLA.out.low.2.1 b (by rw [HWV.out]; exact e); omega
      rw [HWV.out] at hrun2 hu2
      have e0 := (World.cell?_of_block (a := ⟨b, o + k * 3, none⟩) (hu2.block b (by have := hu1.size; omega) hnb)).trans d0'
      have e1 := (World.cell?_of_block (a := ⟨b, o + k * 3 + 1, none⟩) (hu2.block b (by have := hu1.size; omega) hnb)).trans d1'
      have e2 := (World.cell?_of_block (a := ⟨b, o + k * 3 + 2, none⟩) (hu2.block b (by have := hu1.size; omega) hnb)).trans d2'
      obtain ⟨lv3, w3, hrun3, hrow3, hu3, hat3⟩ := run_append_file1 (w := w2.drew) (nm := f.name) (dv := .slice (some ⟨g, 0, none⟩) f.data.length gc) (sy := f.synced) (owns_upd a1 ((Upd.refl (fun _ => False) w2).drew) (fun _ _ h => h)) (by have := HLL.out; omega) rfl 40
      obtain ⟨la3, lc3, hls3, -, -, -, -⟩ := row_shape3 hrow3
      have hu2o : Upd (fun k => u5.ownBlock = some k) w1 w2 := by rw [HWV.out]; exact hu2
      have hu3o : Upd (fun k => u4.ownBlock = some k) w2 w3 := ((Upd.refl (fun k => u4.ownBlock = some k) w2).drew).trans hu3 (fun _ _ h => h)
      have hfin := HLA.out.grown HUP.out.size hu1 hxd hgw hrow2 hu2o hat2 (x := ⟨g, gc, f⟩) (w3 := w3) (lv' := lv3) (by simpa [LF.cells, LF.dv] using hrow3) hu3o hat3
      have hupf : Upd (fun _ => False) w w3 := ((HUP.out.trans hu1 (fun _ _ h => h)).trans hu2o (fun q hq e => by have := HLA.out.low.2.1 q e; omega)).trans hu3o (fun q hq e => by have := HLA.out.low.1 q e; omega)
      rw [HLV.out] at hrun3
      rw [hws2] at hrun2 hfin
      rw [hls3] at hrun3 hfin
      obtain ⟨N2, hN2⟩ : ∃ N2, N2 = L.length + 1 := ⟨_, rfl⟩
      rw [← hN2] at hrun2 hrun3 hfin
      have HR2 := hid hrun2; have HR3 := hid hrun3; have HFIN := hid hfin; have HUPF := hid hupf
      clear hd1 hn1 hgl hgm hgn hgz hl5 hrun2 hrow2 hu2 hat2 hws2 hxd a1 a2 a3 a4 a5 a6 a7 a8 hrun3 hrow3 hu3 hat3 hls3 hu2o hu3o hfin hupf hnb hN2 d0 d1 d2 hgw hu1
      go_upto_region 8 with (at_builtin; refine wpList_append_run rfl _ _ _ rfl rfl rfl HR2.out ?_)
      go_region_law (refine step_append_eq rfl (.tmp 24) (.tmp 44) 40 rfl rfl rfl HR3.out ?_)
      all_goals
        go_wp2
        go_roundw
        case rel => exact ⟨k + 1, by omega, by go_num, L ++ [⟨g, gc, f⟩], by rw [HF.out]; exact map_take_snoc HLM.out hlt g gc, HFIN.out, HUPF.out⟩
        case measure => simp [intOf]; omega
    · obtain rfl : k = l.length := by omega
      obtain ⟨lv3, w3, hrun3, hrow3, hu3, hat3⟩ := run_append_file1 (w := wr) (nm := ⟨#[109, 97, 114, 107]⟩) (dv := .slice none 0 0) (sy := 0) (by simpa using hla.rowL) (by omega) rfl 40
      obtain ⟨la3, lc3, hls3, hcap3, hmx3, -, -⟩ := row_shape3 hrow3
      have hfin := hla.marked hup.size hrow3 hu3 hat3
      have hupf : Upd (fun _ => False) w w3 := hup.trans hu3 (fun q hq e => by have := hla.low.1 q e; omega)
      rw [hLl] at hls3 hfin
      rw [hls3] at hrun3 hfin
      rw [hlv, hLl] at hrun3
      rw [hlv, hwv, hLl]
      rw [hwv, hLl] at hfin
      rw [hLl] at hcap3
      have HR3 := hid hrun3; have HFIN := hid hfin; have HUPF := hid hupf
      have hc3 : (l.length : Int) ≤ (lc3 : Int) := by omega
      have hc4 : l.length ≤ lc3 := by omega
      obtain ⟨N2, hN2⟩ : ∃ N2, N2 = l.length + 1 := ⟨_, rfl⟩
      rw [← hN2] at HR3
      have HN2 := hid hN2
      clear hrun3 hrow3 hu3 hat3 hls3 hfin hupf hL hla hup hLl hlv hwv hN2
      go_wp2_with (at_builtin; refine wpList_append_run rfl _ _ _ rfl rfl rfl HR3.out ?_)
      go_ret2
      refine ⟨L, la3, lc3, _, rfl, hcap3, hmx3, by have h := HLM.out; rwa [List.take_length] at h, ?_, HUPF.out⟩
      rw [HLL.out]
      exact HFIN.out

end Go.Proofs.YtohpgmeflmppaaaGreat

namespace Go.Proofs.YtohpgmeflmppaaaGreat
set_option linter.unusedVariables false
set_option linter.unusedSimpArgs false
set_option linter.unnecessarySimpa false
set_option linter.unusedSectionVars false
open Go Go.RowKit

/-- A file but for where its bytes lie. -/
def FileI.core (f : FileI) : ByteArray × List UInt8 × Int := (f.name, f.data, f.synced)

theorem core_at {l1 l2 : List FileI} (h : l1.map FileI.core = l2.map FileI.core) {k : Nat} (h1 : k < l1.length) (h2 : k < l2.length) : l1[k].name = l2[k].name ∧ l1[k].data = l2[k].data ∧ l1[k].synced = l2[k].synced := by
  have h3 := congrArg (fun l => l[k]?) h
  simp only [List.getElem?_map, List.getElem?_eq_getElem h1, List.getElem?_eq_getElem h2, Option.map_some, Option.some.injEq, FileI.core, Prod.mk.injEq] at h3
  exact h3

theorem loadL_core (cap : Nat) : ∀ (l1 l2 : List FileI) (acc : List FileA), l1.map FileI.core = l2.map FileI.core → loadL cap l1 acc = loadL cap l2 acc
  | [], [], _, _ => rfl
  | [], _ :: _, _, h => by simp at h
  | _ :: _, [], _, h => by simp at h
  | f :: t, g :: u, acc, h => by
    simp only [List.map_cons, List.cons.injEq, FileI.core, Prod.mk.injEq] at h
    obtain ⟨⟨h1, h2, h3⟩, h4⟩ := h
    have hab : f.abs = g.abs := by unfold FileI.abs; rw [h1, h2, h3]
    simp only [loadL, h1, h2, h3, hab]
    rw [loadL_core cap t u _ h4]

theorem loadA_core {cap : Int} {l1 l2 : List FileI} (h : l1.map FileI.core = l2.map FileI.core) : loadA cap l1 = loadA cap l2 := by
  have hl : l1.length = l2.length := by simpa using congrArg List.length h
  unfold loadA
  rw [hl, loadL_core _ _ _ _ h]

theorem FilesIn.keep {w w' : World} {v : Value} {l : List FileI} (h : FilesIn w v l) (hu : Upd (fun _ => False) w w') : FilesIn w' v l := by
  obtain ⟨ao, cap, hv, h1, h2, h3⟩ := h.shape
  refine ⟨⟨ao, cap, hv, h1, h2, fun k hk => ?_⟩, fun f hf => (h.bytes f hf).upd hu (fun a m c e h0 => ⟨fun h => h, h.low f hf a m c e h0⟩), fun f hf a m c e h0 => Nat.lt_of_lt_of_le (h.low f hf a m c e h0) hu.size⟩
  obtain ⟨b, o, e, hb, c0, c1, c2⟩ := h3 k hk
  exact ⟨b, o, e, Nat.lt_of_lt_of_le hb hu.size, (World.cell?_of_block (a := ⟨b, o + k * 3, none⟩) (hu.block b hb (fun h => h))).trans c0, (World.cell?_of_block (a := ⟨b, o + k * 3 + 1, none⟩) (hu.block b hb (fun h => h))).trans c1, (World.cell?_of_block (a := ⟨b, o + k * 3 + 2, none⟩) (hu.block b hb (fun h => h))).trans c2⟩

set_option maxRecDepth 100000 in
set_option maxHeartbeats 3200000 in
theorem sameFilesIn_any {w : World} {v1 v2 : Value} {l1 l2 : List FileI} (h1 : FilesIn w v1 l1) (h2 : FilesIn w v2 l2) (hcore : l1.map FileI.core = l2.map FileI.core) :
    Calls Tryz.prog 17 #[v1, v2] w fun e w' => e = .returned (.bool true) ∧ Drawn w w' := by
  obtain ⟨a1, c1, rfl, hc1, hm1, hs1⟩ := h1.shape
  obtain ⟨a2, c2, rfl, hc2, hm2, hs2⟩ := h2.shape
  have hl : l1.length = l2.length := by simpa using congrArg List.length hcore
  have hm1' : l1.length ≤ 9223372036854775807 := Nat.le_trans hc1 hm1
  have hb : ((l1.length : Int) != (l2.length : Int)) = false := by simp [hl]
  have H1 := hid h1; have H2 := hid h2; have S1 := hid hs1; have S2 := hid hs2; have HC := hid hcore; have HL := hid hl
  clear h1 h2 hs1 hs2 hcore hl hm1 hm2 hc1 hc2
  go_enter Tryz.func17, Tryz.ntmps17
  go_wp2
  go_loopw [5] (fun i wr => ∃ k : Nat, k ≤ l1.length ∧ i = .int .i64 k ∧ Drawn w wr) (fun i _ => l1.length - (intOf i).toNat)
  case atStart => exact ⟨0, Nat.zero_le _, rfl, ⟨Upd.refl _ _, rfl⟩⟩
  case round =>
    obtain ⟨k, hk, rfl, hup⟩ := hrel
    have HUP := hid hup
    clear hup
    by_cases hlt : k < l1.length
    · have hlt2 : k < l2.length := by have := HL.out; omega
      obtain ⟨g1, o1, rfl, hg1', d0, d1, d2⟩ := S1.out k hlt
      obtain ⟨g2, o2, rfl, hg2', e0, e1, e2⟩ := S2.out k hlt2
      obtain ⟨q1, q2, q3⟩ := core_at HC.out hlt hlt2
      have hby1 := H1.out.bytes l1[k] (List.getElem_mem hlt)
      have hby2 := H2.out.bytes l2[k] (List.getElem_mem hlt2)
      have lt1 := H1.out.low l1[k] (List.getElem_mem hlt)
      have lt2 := H2.out.low l2[k] (List.getElem_mem hlt2)
      obtain ⟨f1, hf1⟩ : ∃ f, f = l1[k] := ⟨_, rfl⟩
      obtain ⟨f2, hf2⟩ : ∃ f, f = l2[k] := ⟨_, rfl⟩
      rw [← hf1] at d0 d1 d2 hby1 lt1 q1 q2 q3
      rw [← hf2] at e0 e1 e2 hby2 lt2 q1 q2 q3
      have hB1 := hid hby1; have hB2 := hid hby2
      obtain ⟨p1, r1, hv1, -, -⟩ := hby1
      obtain ⟨p2, r2, hv2, -, -⟩ := hby2
      have d0' : wr.cell? ⟨g1, o1 + k * 3, none⟩ = some (.string f1.name) := by rw [HUP.out.cell]; exact d0
      have d1' : wr.cell? ⟨g1, o1 + k * 3 + 1, none⟩ = some (.slice p1 f1.data.length r1) := by rw [HUP.out.cell]; exact d1.trans (by rw [hv1])
      have d2' : wr.cell? ⟨g1, o1 + k * 3 + 2, none⟩ = some (.int .i64 f1.synced) := by rw [HUP.out.cell]; exact d2
      have e0' : wr.cell? ⟨g2, o2 + k * 3, none⟩ = some (.string f2.name) := by rw [HUP.out.cell]; exact e0
      have e1' : wr.cell? ⟨g2, o2 + k * 3 + 1, none⟩ = some (.slice p2 f2.data.length r2) := by rw [HUP.out.cell]; exact e1.trans (by rw [hv2])
      have e2' : wr.cell? ⟨g2, o2 + k * 3 + 2, none⟩ = some (.int .i64 f2.synced) := by rw [HUP.out.cell]; exact e2
      have hsame : ∀ n, Calls Tryz.prog 10 #[.slice p1 f1.data.length r1, .slice p2 f2.data.length r2] (wr.drewN n) fun e w' => e = .returned (.bool true) ∧ w' = wr.drewN n := by
        intro n
        have b1 := hB1.out.upd (HUP.out.drewN n).1 (fun a l c he h0 => ⟨fun h => h, lt1 a l c he h0⟩)
        have b2 := hB2.out.upd (HUP.out.drewN n).1 (fun a l c he h0 => ⟨fun h => h, lt2 a l c he h0⟩)
        rw [hv1] at b1
        rw [hv2] at b2
        exact (same_any b1 b2).mono (fun e w' h => ⟨h.1.trans (by simp [q2]), h.2⟩)
      have HSM1 := hid hsame
      have hq' : (f1.name.toList == f2.name.toList) = true := by rw [beq_toList f1.name f2.name]; simpa using q1
      have hs' : ((f1.synced : Int) != (f2.synced : Int)) = false := by simp [q3]
      have hg1r : g1 < wr.heap.size := Nat.lt_of_lt_of_le hg1' HUP.out.1.size
      have hg2r : g2 < wr.heap.size := Nat.lt_of_lt_of_le hg2' HUP.out.1.size
      clear d0 d1 d2 e0 e1 e2 lt1 lt2 hv1 hv2 hsame hf1 hf2 q1 q2 q3
      go_wp2_with fail
      go_quiet ((go_at_call 10; exact Calls.quiet_of_same (HSM1.out _)))
      go_wp2
      go_roundw
      case rel => exact ⟨k + 1, by omega, by go_num, HUP.out.drewN _⟩
      case measure => simp [intOf]; omega
    · obtain rfl : k = l1.length := by omega
      go_wp2
      go_ret
      exact ⟨rfl, HUP.out⟩

end Go.Proofs.YtohpgmeflmppaaaGreat

namespace Go.Proofs.YtohpgmeflmppaaaGreat
set_option linter.unusedVariables false
set_option linter.unusedSimpArgs false
set_option linter.unnecessarySimpa false
set_option linter.unusedSectionVars false
open Go Go.RowKit

theorem WS.Mem.keepT {B : Nat} {w w' : World} {S : WS} {T : Nat → Prop} (h : S.Mem B w) (hu : Upd T w w') (hT : ∀ L k, S.ownAt L k → ¬ T k) : S.Mem B w' := by
  obtain ⟨h1, h2, h3, h4⟩ := h.own0_keep hu (fun k hk => hT 0 k (.inl ⟨rfl, hk⟩))
  exact ⟨h1, h2, h3, h4, h.len, fun i hi => (h.dsIn i hi).upd hu (fun k hk => hT (2 * i + 1) k (.inr (.inl ⟨i, hi, rfl, hk⟩))), fun i hi => (h.rsIn i hi).upd hu (fun k hk => hT (2 * i + 2) k (.inr (.inr ⟨i, hi, rfl, hk⟩))), h.lab, h.low, h.dp, h.rp, h.bp, h.dr, h.rb⟩

theorem WOn.keepT {w0 w w' : World} {S : WS} {T : Nat → Prop} (h : WOn w0 w S) (hu : Upd T w w') (hT : ∀ L k, S.ownAt L k → ¬ T k) (hT0 : ∀ k, T k → w0.heap.size ≤ k) : WOn w0 w' S :=
  ⟨h.mem.keepT hu hT, h.upd.trans hu (fun k hk ht => by have := hT0 k ht; omega), h.pair, h.few⟩

/-- Of the lists vs the first k were taken since w3; beside them the blocks of X may have turned. -/
structure Strip (w0 w3 wr : World) (N : Nat) (S : WS) (X : Nat → Prop) (vs : List Value) (k : Nat) (b : BK) : Prop where
  on : WOn w0 wr { S with b := b }
  upd : Upd (fun q => q = S.p ∨ S.b.blk q ∨ (∃ v ∈ vs.take k, v.ownBlock = some q) ∨ X q) w3 wr
  foot : ∀ q, b.blk q → S.b.blk q ∨ (∃ v ∈ vs.take k, v.ownBlock = some q) ∨ w3.heap.size ≤ q
  most : b.n ≤ S.b.n + k * 268435456
  turn : Turn N w3 wr S { S with b := b }

/-- New lists that nobody owns, each in a place of its own. -/
structure Loose (w0 w3 : World) (N : Nat) (S : WS) (X : Nat → Prop) (vs : List Value) : Prop where
  own : ∀ L q, S.ownAt L q → q < N
  old : w0.heap.size ≤ N
  size : N ≤ w3.heap.size
  new : ∀ v ∈ vs, ∀ q, v.ownBlock = some q → N ≤ q ∧ q < w3.heap.size
  apart : ∀ i j (hi : i < vs.length) (hj : j < vs.length), i < j → ∀ q, vs[i].ownBlock = some q → ¬ vs[j].ownBlock = some q
  out : ∀ q, X q → N ≤ q ∧ q < w3.heap.size ∧ ∀ v ∈ vs, ¬ v.ownBlock = some q

theorem Strip.start {w0 w3 : World} {N : Nat} {S : WS} (X : Nat → Prop) (vs : List Value) (hw : WOn w0 w3 S) : Strip w0 w3 w3 N S X vs 0 S.b :=
  ⟨hw, Upd.refl _ _, fun q h => .inl h, by omega, Turn.keep _ _ (Upd.refl _ _)⟩

section
variable {w0 w3 wr : World} {N : Nat} {S : WS} {X : Nat → Prop} {vs : List Value} {k : Nat} {b b' : BK}

theorem Loose.take_out (h : Loose w0 w3 N S X vs) (hk : k < vs.length) {q : Nat} (hq : vs[k].ownBlock = some q) : ¬ (q = S.p ∨ S.b.blk q ∨ (∃ v ∈ vs.take k, v.ownBlock = some q) ∨ X q) := by
  have h1 := (h.new _ (List.getElem_mem hk) q hq).1
  rintro (e | e | ⟨v, hv, e⟩ | e)
  · have := h.own 0 q (.inl ⟨rfl, .inl e⟩); omega
  · have := h.own 0 q (.inl ⟨rfl, .inr (.inr (.inr e))⟩); omega
  · obtain ⟨i, hi, rfl⟩ := List.getElem_of_mem hv
    rw [List.getElem_take] at e
    have hi2 : i < k := by simp at hi; omega
    exact h.apart i k (by omega) hk hi2 q e hq
  · exact (h.out q e).2.2 _ (List.getElem_mem hk) hq

/-- Nobody owns what is new and not taken. -/
theorem Strip.noOwner (h : Strip w0 w3 wr N S X vs k b) (hl : Loose w0 w3 N S X vs) {q : Nat} (hN : N ≤ q) (hq : q < w3.heap.size) (hv : ∀ v ∈ vs.take k, ¬ v.ownBlock = some q) : ∀ L, ¬ ({ S with b := b } : WS).ownAt L q := by
  intro L ho
  have hS : ∀ L, ¬ S.ownAt L q := fun L hL => by have := hl.own L q hL; omega
  rcases ho with ⟨rfl, ho⟩ | ⟨i, hi, e, ho⟩ | ⟨i, hi, e, ho⟩
  · rcases ho with ho | ho | ho | ho
    · exact hS 0 (.inl ⟨rfl, .inl ho⟩)
    · exact hS 0 (.inl ⟨rfl, .inr (.inl ho)⟩)
    · exact hS 0 (.inl ⟨rfl, .inr (.inr (.inl ho))⟩)
    · rcases h.foot q ho with e | ⟨v, hv', e⟩ | e
      · exact hS 0 (.inl ⟨rfl, .inr (.inr (.inr e))⟩)
      · exact hv v hv' e
      · omega
  · exact hS L (.inr (.inl ⟨i, hi, e, ho⟩))
  · exact hS L (.inr (.inr ⟨i, hi, e, ho⟩))

/-- What the next list reads as. -/
theorem Strip.next (h : Strip w0 w3 wr N S X vs k b) (hl : Loose w0 w3 N S X vs) (hk : k < vs.length) {bs : List UInt8} (hd : DataIs w3 vs[k] bs) :
    DataIs wr vs[k] bs ∧ (∀ L q, vs[k].ownBlock = some q → ¬ ({ S with b := b } : WS).ownAt L q) ∧ ¬ vs[k].ownBlock = some S.p ∧ (∀ q, vs[k].ownBlock = some q → ¬ b.blk q) := by
  have hno : ∀ L q, vs[k].ownBlock = some q → ¬ ({ S with b := b } : WS).ownAt L q := fun L q hq => by
    have h1 := hl.new _ (List.getElem_mem hk) q hq
    exact h.noOwner hl h1.1 h1.2 (fun v hv e => hl.take_out hk hq (.inr (.inr (.inl ⟨v, hv, e⟩)))) L
  exact ⟨hd.upd h.upd (fun q hq => hl.take_out hk hq), hno, fun hq => hno 0 _ hq (.inl ⟨rfl, .inl rfl⟩), fun q hq hb => hno 0 q hq (.inl ⟨rfl, .inr (.inr (.inr hb))⟩)⟩

theorem Strip.more {wr' : World} (h : Strip w0 w3 wr N S X vs k b) (hu : Upd (fun _ => False) wr wr') : Strip w0 w3 wr' N S X vs k b :=
  ⟨h.on.keep hu, h.upd.trans hu (fun _ _ h => h.elim), h.foot, h.most, h.turn.trans (Turn.keep _ _ hu)⟩

/-- A store into what lies beside the lists. -/
theorem Strip.beside {wr' : World} (h : Strip w0 w3 wr N S X vs k b) (hl : Loose w0 w3 N S X vs) (hu : Upd X wr wr') : Strip w0 w3 wr' N S X vs k b := by
  refine ⟨h.on.keepT hu (fun L q ho hx => ?_) (fun q hx => Nat.le_trans hl.old (hl.out q hx).1), h.upd.trans hu (fun q _ hx => .inr (.inr (.inr hx))), h.foot, h.most, h.turn.trans ⟨hu.mono (fun q _ hx => .inr (hl.out q hx).1), fun L q hq => .inl ⟨L, hq⟩⟩⟩
  obtain ⟨h1, h2, h3⟩ := hl.out q hx
  exact h.noOwner hl h1 h2 (fun v hv => h3 v (List.mem_of_mem_take hv)) L ho

theorem take_succ_mem (hk : k < vs.length) {v : Value} : v ∈ vs.take (k + 1) ↔ v ∈ vs.take k ∨ v = vs[k] := by
  rw [List.take_succ_eq_append_getElem hk, List.mem_append, List.mem_singleton]

theorem Strip.step {w' : World} (h : Strip w0 w3 wr N S X vs k b) (hl : Loose w0 w3 N S X vs) (hk : k < vs.length) {bs : List UInt8} (hd : DataIs w3 vs[k] bs) (ht : Took wr w' S.p S.dv S.rv b b' vs[k]) :
    Strip w0 w3 w' N S X vs (k + 1) b' := by
  obtain ⟨hd', hno, -, -⟩ := h.next hl hk hd
  have hnew := hl.new _ (List.getElem_mem hk)
  have hm := ht.most
  have hsz := h.upd.size
  refine ⟨h.on.took (S := { S with b := b }) ht hno (fun q hq => ⟨Nat.le_trans hl.old (hnew q hq).1, Nat.lt_of_lt_of_le (hnew q hq).2 hsz⟩), ?_, fun q hq => ?_, ?_, h.turn.trans (Turn.took (S := { S with b := b }) ht (Nat.le_trans hl.size hsz) (fun q hq => (hnew q hq).1))⟩
  · refine (h.upd.mono (fun q _ hq => ?_)).trans ht.upd (fun q hq3 hq => ?_)
    · rcases hq with e | e | ⟨v, hv, e⟩ | e
      · exact .inl e
      · exact .inr (.inl e)
      · exact .inr (.inr (.inl ⟨v, (take_succ_mem hk).2 (.inl hv), e⟩))
      · exact .inr (.inr (.inr e))
    · rcases hq with e | e | e
      · exact .inl e
      · rcases h.foot q e with e | ⟨v, hv, e⟩ | e
        · exact .inr (.inl e)
        · exact .inr (.inr (.inl ⟨v, (take_succ_mem hk).2 (.inl hv), e⟩))
        · omega
      · exact .inr (.inr (.inl ⟨_, (take_succ_mem hk).2 (.inr rfl), e⟩))
  · rcases ht.foot q hq with e | e | e
    · rcases h.foot q e with e | ⟨v, hv, e⟩ | e
      · exact .inl e
      · exact .inr (.inl ⟨v, (take_succ_mem hk).2 (.inl hv), e⟩)
      · exact .inr (.inr e)
    · exact .inr (.inl ⟨_, (take_succ_mem hk).2 (.inr rfl), e⟩)
    · exact .inr (.inr (Nat.le_trans hsz e))
  · have h1 := h.most
    push_cast
    omega
end

/-- Made by both, or by neither; from block M on, and nobody owns it. -/
def Made (M : Nat) (w : World) (S : WS) (x y : Value) (c : Int) : Prop :=
  (x = .pointer none ∧ y = .pointer none ∧ c ≠ 0) ∨
  ∃ (s : DS) (r : RS), x = ptrD s ∧ y = ptrR r ∧ c = 0 ∧ s.In w ∧ r.In w ∧ (∀ k ∈ s.blocks, (∀ L, ¬ S.ownAt L k) ∧ M ≤ k) ∧ (∀ k, r.own k → (∀ L, ¬ S.ownAt L k) ∧ M ≤ k) ∧ (∀ k ∈ s.blocks, ¬ r.own k) ∧ Alike s.abs r.abs ∧ Sorted r.F ∧ (s.abs.down = false ∧ s.abs.armed = 0)

theorem loadL_ne (cap : Nat) : ∀ (l : List FileI) (acc : List FileA) (e : Int), loadL cap l acc = .inl e → e ≠ 0
  | [], acc, e, h => by simp [loadL] at h
  | f :: t, acc, e, h => by
    simp only [loadL] at h
    split at h
    · cases h; decide
    · split at h
      · cases h; decide
      · split at h
        · cases h; decide
        · split at h
          · cases h; decide
          · exact loadL_ne cap t _ e h

theorem loadA_ne {cap : Int} {l : List FileI} {e : Int} (h : loadA cap l = .inl e) : e ≠ 0 := by
  unfold loadA at h
  split at h
  · cases h; decide
  · split at h
    · cases h; decide
    · exact loadL_ne _ _ _ _ h

theorem LoadRes.split {w w' : World} {cap : Int} {R : Int ⊕ List FileA} {e : Ending} (h : LoadRes w cap R e w') : ∃ x c, e = .returned (.tuple #[x, .int .i64 c]) := by
  obtain ⟨-, h⟩ := h
  cases R with
  | inl err => exact ⟨_, _, h⟩
  | inr F => obtain ⟨s, h, -⟩ := h; exact ⟨_, _, h⟩

theorem RefLoadRes.split {w w' : World} {cap : Int} {R : Int ⊕ List FileA} {e : Ending} (h : RefLoadRes w cap R e w') : ∃ x c, e = .returned (.tuple #[x, .int .i64 c]) := by
  obtain ⟨-, h⟩ := h
  cases R with
  | inl err => exact ⟨_, _, h⟩
  | inr F => obtain ⟨s, h, -⟩ := h; exact ⟨_, _, h⟩

theorem made_loads {w1 w2 w3 : World} {S : WS} {cap : Int} {l : List FileI} {x y : Value} {c c' : Int} (hS : ∀ L q, S.ownAt L q → q < w1.heap.size) (h : LoadRes w1 cap (loadA cap l) (.returned (.tuple #[x, .int .i64 c])) w2) (h' : RefLoadRes w2 cap (loadA cap l) (.returned (.tuple #[y, .int .i64 c'])) w3) :
    c' = c ∧ Made w1.heap.size w3 S x y c := by
  obtain ⟨u1, h⟩ := h
  obtain ⟨u2, h'⟩ := h'
  cases hR : loadA cap l with
  | inl err =>
    rw [hR] at h h'
    simp only [Ending.returned.injEq, Value.tuple.injEq, Array.mk.injEq, List.cons.injEq, Value.int.injEq, and_true, true_and] at h h'
    obtain ⟨rfl, rfl⟩ := h
    obtain ⟨rfl, rfl⟩ := h'
    exact ⟨rfl, .inl ⟨rfl, rfl, loadA_ne hR⟩⟩
  | inr F =>
    rw [hR] at h h'
    obtain ⟨s, h, hs1, hs2, hs3⟩ := h
    obtain ⟨r, h', hr1, hr2, hr3, hr4⟩ := h'
    simp only [Ending.returned.injEq, Value.tuple.injEq, Array.mk.injEq, List.cons.injEq, Value.int.injEq, and_true, true_and] at h h'
    obtain ⟨rfl, rfl⟩ := h
    obtain ⟨rfl, rfl⟩ := h'
    have hsz := u1.size
    refine ⟨rfl, .inr ⟨s, r, rfl, rfl, rfl, hs1.upd u2 (fun _ _ h => h), hr1, fun k hk => ⟨fun L hL => ?_, hs3 k hk⟩, fun k hk => ⟨fun L hL => ?_, Nat.le_trans hsz (hr4 k hk)⟩, fun k hk hr => ?_, hs2 ▸ hr2, hr3, by rw [hs2]; exact ⟨rfl, rfl⟩⟩⟩
    · have := hS L k hL; have := hs3 k hk; omega
    · have := hS L k hL; have := hr4 k hk; omega
    · have := hs1.lt k hk; have := hr4 k hr; omega

/-- The lists that were taken were made ahead of it. -/
theorem Made.later {M N : Nat} {w0 w3 wr : World} {S : WS} {X : Nat → Prop} {vs : List Value} {k : Nat} {b : BK} {x y : Value} {c : Int} (h : Made M w3 S x y c) (hs : Strip w0 w3 wr N S X vs k b) (hl : Loose w0 w3 N S X vs) (hNM : N ≤ M) (hv : ∀ v ∈ vs, ∀ q, v.ownBlock = some q → q < M) (hX : ∀ q, X q → q < M) : Made M wr { S with b := b } x y c := by
  rcases h with h | ⟨s, r, h1, h2, h3, h4, h5, h6, h7, h8⟩
  · exact .inl h
  · have hout : ∀ q, (∀ L, ¬ S.ownAt L q) → M ≤ q → ¬ (q = S.p ∨ S.b.blk q ∨ (∃ v ∈ vs.take k, v.ownBlock = some q) ∨ X q) := by
      rintro q ho hM (e | e | ⟨v, hvm, e⟩ | e)
      · exact ho 0 (.inl ⟨rfl, .inl e⟩)
      · exact ho 0 (.inl ⟨rfl, .inr (.inr (.inr e))⟩)
      · have := hv v (List.mem_of_mem_take hvm) q e; omega
      · have := hX q e; omega
    have hown : ∀ q, M ≤ q → q < w3.heap.size → ∀ L, ¬ ({ S with b := b } : WS).ownAt L q := fun q hM hlt => hs.noOwner hl (by omega) hlt (fun v hvm e => by have := hv v (List.mem_of_mem_take hvm) q e; omega)
    exact .inr ⟨s, r, h1, h2, h3, h4.upd hs.upd (fun q hq => hout q (h6 q hq).1 (h6 q hq).2), h5.upd hs.upd (fun q hq => hout q (h7 q hq).1 (h7 q hq).2),
      fun q hq => ⟨hown q (h6 q hq).2 (h4.lt q hq), (h6 q hq).2⟩, fun q hq => ⟨hown q (h7 q hq).2 (h5.lt hq), (h7 q hq).2⟩, h8⟩

/-- It is joined. -/
theorem Made.joins {M N : Nat} {w0 w : World} {S : WS} {x y : Value} {c : Int} (h : Made M w S x y c) (hw : WOn w0 w S) (hlen : S.ds.length < 5) (hM : w0.heap.size ≤ M) (hN : N ≤ M) (hNw : N ≤ w.heap.size) :
    Calls Tryz.prog 60 #[.pointer (some ⟨S.p, 0, none⟩), x, .int .i64 c, y, .int .i64 c] w fun e w' => e = .returned (.bool true) ∧ ∃ S', WOn w0 w' S' ∧ S'.p = S.p ∧ S.ds.length ≤ S'.ds.length ∧ S'.b = S.b ∧ (Calm S → Calm S') ∧ Turn N w w' S S' := by
  rcases h with ⟨rfl, rfl, hc⟩ | ⟨s, r, rfl, rfl, rfl, h4, h5, h6, h7, h8, h9, h10, h11⟩
  · refine (joins_no w S.p c hc).mono ?_
    rintro e w' ⟨rfl, rfl⟩
    exact ⟨rfl, S, hw, rfl, Nat.le_refl _, rfl, id, Turn.keep _ _ (Upd.refl _ _)⟩
  · refine (joins_yes hw hlen h4 h5 (fun k hk => ⟨(h6 k hk).1, Nat.le_trans hM (h6 k hk).2⟩) (fun k hk => ⟨(h7 k hk).1, Nat.le_trans hM (h7 k hk).2⟩) h8 h9 h10).mono ?_
    rintro e w' ⟨rfl, dv', rv', h12, h13⟩
    exact ⟨rfl, _, h12, rfl, by simp, rfl, fun hc => hc.snoc h11 _ _ _, h13 N hNw (fun k hk => Nat.le_trans hN (h6 k hk).2) (fun k hk => Nat.le_trans hN (h7 k hk).2)⟩

end Go.Proofs.YtohpgmeflmppaaaGreat
