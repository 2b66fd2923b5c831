/-
  Plain law: what a Swap makes of a disk that is up: the stroke's acts one behind the other, with power that fails at any of them.
  Plain law: a disk on which versions are swapped in under one prefix, with power that fails.
-/
import Derived.Test.YtgaidmohdhaonaaGreatDoorYJ
import Derived.Test.YtgaidmohdhaonaaGreatDoorZA
import Derived.Test.YtgaidmohdhaonaaGreatDoorGF
namespace Go.Proofs.YtgaidmohdhaonaaGreatDoor
set_option linter.unusedVariables false
set_option linter.unusedSimpArgs false
set_option linter.unnecessarySimpa false
set_option linter.unusedSectionVars false
open Go Go.RowKit

theorem encA_len {x : VerA} (h : okA x = true) : (encodeB x).length ≤ 400000 ∧ 20 ≤ (encodeB x).length := by
  have hb := (body_len h).1
  have h2 := frameB_length (bodyB x)
  simp [encodeB, magicB]
  omega

theorem lookP_up {a : DiskA} {n : ByteArray} {t : Bool} (hd : a.down = false) (ho : nameOk n.data.toList = true) : lookP a n t = if t = true ∧ findP a.files n = none then 42 else 0 := by
  unfold lookP lookRes
  rw [hd, ho]
  cases t <;> cases findP a.files n <;> simp

theorem findP_none {l : List FileA} {n : ByteArray} (h : ∀ f ∈ l, f.name ≠ n) : findP l n = none := by
  unfold findP
  rw [List.find?_eq_none]
  intro f hf
  rw [beq_bytes]
  simpa using h f hf
theorem findP_last {l : List FileA} {n : ByteArray} (h : ∀ f ∈ l, f.name ≠ n) (d : List UInt8) (k : Nat) : findP (l ++ [⟨n, d, k⟩]) n = some ⟨n, d, k⟩ := by
  have h1 := findP_none h
  unfold findP at h1 ⊢
  rw [List.find?_append, h1]
  simp [beq_bytes]
theorem updA_last {l : List FileA} {n : ByteArray} (h : ∀ f ∈ l, f.name ≠ n) (d : List UInt8) (k : Nat) (g : FileA → FileA) : updA (l ++ [⟨n, d, k⟩]) n g = l ++ [g ⟨n, d, k⟩] := by
  unfold updA
  rw [List.map_append]
  congr 1
  · rw [List.map_congr_left (g := id) (fun f hf => by simp [h f hf]), List.map_id]
  · simp
theorem dropA_append (l m : List FileA) (n : ByteArray) : dropA (l ++ m) n = dropA l n ++ dropA m n := by unfold dropA; rw [List.filter_append]
theorem dropA_same {l : List FileA} {n : ByteArray} (h : ∀ f ∈ l, f.name ≠ n) : dropA l n = l := by
  unfold dropA
  rw [List.filter_eq_self]
  intro f hf
  simpa using h f hf
theorem dropA_last {l : List FileA} {n : ByteArray} (h : ∀ f ∈ l, f.name ≠ n) (d : List UInt8) (k : Nat) : dropA (l ++ [⟨n, d, k⟩]) n = l := by
  rw [dropA_append, dropA_same h]
  simp [dropA]
theorem mem_dropA {l : List FileA} {n : ByteArray} {f : FileA} : f ∈ dropA l n ↔ f ∈ l ∧ f.name ≠ n := by simp [dropA]
theorem usedP_last (l : List FileA) (f : FileA) (a b : DiskA) (ha : a.files = l ++ [f]) (hb : b.files = l) : usedP a = usedP b + f.data.length := by
  unfold usedP
  rw [ha, hb]
  simp

/-- What an act leaves. -/
theorem actA_cases (a : DiskA) (co : Option Nat) (F : List FileA) (h : 0 ≤ a.armed) :
    (a.armed = 1 ∧ ∃ a', actA a co F = (3, a') ∧ a'.files = (if co = some 6 then F else a.files) ∧ a'.down = true ∧ a'.cap = a.cap ∧ a'.armed = 0) ∨
    (a.armed ≠ 1 ∧ ∃ a', actA a co F = (0, a') ∧ a'.files = F ∧ a'.down = a.down ∧ a'.cap = a.cap ∧ 0 ≤ a'.armed ∧ (a.armed = 0 → a'.armed = 0)) := by
  unfold actA
  by_cases h0 : a.armed = 0
  · rw [if_pos h0]
    exact .inr ⟨by omega, _, rfl, rfl, rfl, rfl, h, fun _ => h0⟩
  · rw [if_neg h0]
    by_cases h1 : a.armed = 1
    · rw [if_pos h1]
      refine .inl ⟨h1, ?_⟩
      split
      · exact ⟨_, rfl, rfl, rfl, rfl, rfl⟩
      · exact ⟨_, rfl, rfl, rfl, rfl, rfl⟩
    · rw [if_neg h1]
      exact .inr ⟨h1, _, rfl, rfl, rfl, rfl, by show 0 ≤ a.armed - 1; omega, fun e => absurd e h0⟩

theorem runP_bad {f : DiskA → Int × DiskA} {fs : List (DiskA → Int × DiskA)} {a a' : DiskA} {e : Int} (h : f a = (e, a')) (he : e ≠ 0) : runP (f :: fs) a = (e, a') := by
  unfold runP
  rw [h]
  exact if_pos he
theorem runP_ok {f : DiskA → Int × DiskA} {fs : List (DiskA → Int × DiskA)} {a a' : DiskA} (h : f a = (0, a')) : runP (f :: fs) a = runP fs a' := by
  rw [runP, h]
  simp

section
variable {pre : ByteArray} {b : List UInt8}

/-- What a stroke may leave: all done; or the power failed: a part of the new file beside. -/
def Struck (a : DiskA) (T N : ByteArray) (b : List UInt8) (r : Int × DiskA) : Prop :=
  (r.1 = 0 ∧ r.2.files = dropA (dropA a.files T) N ++ [⟨N, b, b.length⟩] ∧ r.2.down = false ∧ r.2.cap = a.cap ∧ 0 ≤ r.2.armed ∧ (a.armed = 0 → r.2.armed = 0)) ∨
  (a.armed ≠ 0 ∧ r.1 = 3 ∧ r.2.down = true ∧ r.2.cap = a.cap ∧ r.2.armed = 0 ∧ (r.2.files = a.files ∨ r.2.files = dropA a.files T ∨ ∃ k, k ≤ b.length ∧ r.2.files = dropA a.files T ++ [⟨T, b, k⟩]))

theorem run4_of {a : DiskA} {T N : ByteArray} (hd : a.down = false) (ha : 0 ≤ a.armed) (hT : nameOk T.data.toList = true) (hN : nameOk N.data.toList = true) (hne : T ≠ N) (hno : ∀ f ∈ a.files, f.name ≠ T) (hc : a.files.length < 256) (hb : b.length ≤ 67108864) (hr : b.length ≤ a.cap - usedP a) :
    Struck a T N b (runP [fun a => createP a T, fun a => appendP a T b, fun a => syncP a T, fun a => renameP a T N] a) := by
  have hF : dropA a.files T = a.files := dropA_same hno
  -- Create
  have h1 : createP a T = actA a none (a.files ++ [⟨T, [], 0⟩]) := by
    unfold createP
    rw [lookP_up hd hT, findP_none hno]
    simp
    omega
  rcases actA_cases a none (a.files ++ [⟨T, [], 0⟩]) ha with ⟨e1, a1, q1, f1, d1, c1, m1⟩ | ⟨e1, a1, q1, f1, d1, c1, m1, z1⟩
  · have h2 : runP [fun a => createP a T, fun a => appendP a T b, fun a => syncP a T, fun a => renameP a T N] a = (3, a1) := runP_bad (h1.trans q1) (by decide)
    rw [h2]
    exact .inr ⟨by omega, rfl, d1, c1, m1, .inl (by rw [f1]; simp)⟩
  have r1 : runP [fun a => createP a T, fun a => appendP a T b, fun a => syncP a T, fun a => renameP a T N] a = runP [fun a => appendP a T b, fun a => syncP a T, fun a => renameP a T N] a1 := runP_ok (h1.trans q1)
  rw [r1]
  rw [hd] at d1
  -- Append
  have u1 : usedP a1 = usedP a := by
    rw [usedP_last _ _ a1 a f1 rfl]
    simp
  have p1 : findP a1.files T = some ⟨T, [], 0⟩ := by rw [f1]; exact findP_last hno _ _
  have h2 : appendP a1 T b = actA a1 (some 6) (a.files ++ [⟨T, b, 0⟩]) := by
    unfold appendP
    rw [lookP_up d1 hT, if_neg (by simp), if_neg (by omega), p1, if_neg (by simp), u1, c1, if_neg (by omega), f1, updA_last hno]
    rfl
  rcases actA_cases a1 (some 6) (a.files ++ [⟨T, b, 0⟩]) m1 with ⟨e2, a2, q2, f2, d2, c2, m2⟩ | ⟨e2, a2, q2, f2, d2, c2, m2, z2⟩
  · have h3 : runP [fun a => appendP a T b, fun a => syncP a T, fun a => renameP a T N] a1 = (3, a2) := runP_bad (h2.trans q2) (by decide)
    rw [h3]
    exact .inr ⟨fun e => by have := z1 e; omega, rfl, d2, c2.trans c1, m2, .inr (.inr ⟨0, by omega, by rw [f2, hF]; simp⟩)⟩
  have r2 : runP [fun a => appendP a T b, fun a => syncP a T, fun a => renameP a T N] a1 = runP [fun a => syncP a T, fun a => renameP a T N] a2 := runP_ok (h2.trans q2)
  rw [r2]
  rw [d1] at d2
  -- Sync
  have p2 : findP a2.files T = some ⟨T, b, 0⟩ := by rw [f2]; exact findP_last hno _ _
  have h3 : syncP a2 T = actA a2 (some 7) (a.files ++ [⟨T, b, b.length⟩]) := by
    unfold syncP
    rw [lookP_up d2 hT, p2, f2, updA_last hno]
    simp
  rcases actA_cases a2 (some 7) (a.files ++ [⟨T, b, b.length⟩]) m2 with ⟨e3, a3, q3, f3, d3, c3, m3⟩ | ⟨e3, a3, q3, f3, d3, c3, m3, z3⟩
  · have h4 : runP [fun a => syncP a T, fun a => renameP a T N] a2 = (3, a3) := runP_bad (h3.trans q3) (by decide)
    rw [h4]
    exact .inr ⟨fun e => by have := z2 (z1 e); omega, rfl, d3, (c3.trans c2).trans c1, m3, .inr (.inr ⟨0, by omega, by rw [f3, if_neg (by decide), f2, hF]⟩)⟩
  have r3 : runP [fun a => syncP a T, fun a => renameP a T N] a2 = runP [fun a => renameP a T N] a3 := runP_ok (h3.trans q3)
  rw [r3]
  rw [d2] at d3
  -- Rename
  have p3 : findP a3.files T = some ⟨T, b, b.length⟩ := by rw [f3]; exact findP_last hno _ _
  have h4 : renameP a3 T N = actA a3 (some 8) (dropA a.files N ++ [⟨N, b, b.length⟩]) := by
    unfold renameP
    rw [lookP_up d3 hT, p3, f3, hN]
    simp only [renameF, if_neg hne]
    rw [dropA_append, dropA_append, dropA_same (l := dropA a.files N) (fun f hf => hno f (mem_dropA.1 hf).1), show dropA [(⟨T, b, b.length⟩ : FileA)] N = [⟨T, b, b.length⟩] from dropA_same (by simpa using hne), show dropA [(⟨T, b, b.length⟩ : FileA)] T = [] from by simp [dropA]]
    simp
  have r4 : runP [fun a => renameP a T N] a3 = actA a3 (some 8) (dropA a.files N ++ [⟨N, b, b.length⟩]) := by
    rcases actA_cases a3 (some 8) (dropA a.files N ++ [⟨N, b, b.length⟩]) m3 with ⟨e4, a4, q4, -⟩ | ⟨e4, a4, q4, -⟩
    · rw [q4]; exact runP_bad (h4.trans q4) (by decide)
    · rw [q4]; exact runP_ok (h4.trans q4)
  rw [r4]
  rcases actA_cases a3 (some 8) (dropA a.files N ++ [⟨N, b, b.length⟩]) m3 with ⟨e4, a4, q4, f4, d4, c4, m4⟩ | ⟨e4, a4, q4, f4, d4, c4, m4, z4⟩
  · rw [q4]
    exact .inr ⟨fun e => by have := z3 (z2 (z1 e)); omega, rfl, d4, ((c4.trans c3).trans c2).trans c1, m4, .inr (.inr ⟨b.length, by omega, by rw [f4, if_neg (by decide), f3, hF]⟩)⟩
  · rw [q4]
    refine .inl ⟨rfl, ?_, d4.trans d3, ((c4.trans c3).trans c2).trans c1, m4, fun e => z4 (z3 (z2 (z1 e)))⟩
    rw [f4, hF]

theorem dropA_isNone {l : List FileA} {n : ByteArray} (h : findP l n = none) : ∀ f ∈ l, f.name ≠ n := by
  unfold findP at h
  rw [List.find?_eq_none] at h
  intro f hf
  have := h f hf
  rw [beq_bytes] at this
  simpa using this

theorem usedP_drop (a a' : DiskA) (T : ByteArray) (h : a'.files = dropA a.files T) : usedP a' ≤ usedP a := by
  unfold usedP
  rw [h]
  unfold dropA
  induction a.files with
  | nil => simp
  | cons f l ih =>
    rw [List.filter_cons]
    split
    · simp only [List.map_cons, List.sum_cons]; omega
    · simp only [List.map_cons, List.sum_cons]; omega

/-- The stroke where there is room. -/
theorem stroke_of {a : DiskA} (hd : a.down = false) (ha : 0 ≤ a.armed) (hT : nameOk (pre ++ tempB).data.toList = true) (hN : nameOk (pre ++ nameB).data.toList = true) (hne : pre ++ tempB ≠ pre ++ nameB) (hc : (dropA a.files (pre ++ tempB)).length < 256) (hb : b.length ≤ 67108864)
    (hr : b.length ≤ a.cap - usedP { a with files := dropA a.files (pre ++ tempB) }) :
    Struck a (pre ++ tempB) (pre ++ nameB) b (strokeP a pre b) := by
  suffices h : Struck a (pre ++ tempB) (pre ++ nameB) b (runP (stepsP a pre b) a) by
    unfold strokeP
    rw [if_neg (by rcases h with ⟨h, -⟩ | ⟨-, h, -⟩ <;> rw [h] <;> decide)]
    exact h
  unfold stepsP
  generalize pre ++ tempB = T at *
  generalize pre ++ nameB = N at *
  rw [lookP_up hd hT]
  cases hf : findP a.files T with
  | none =>
    have hno := dropA_isNone hf
    rw [dropA_same hno] at hc hr
    simp only [and_self, if_true, show ¬ ((42 : Int) = 0) from by decide, if_false, List.nil_append]
    exact run4_of hd ha hT hN hne hno hc hb hr
  | some f0 =>
    simp only [reduceCtorEq, and_false, if_false, if_true, List.cons_append, List.nil_append]
    have h1 : deleteP a T = actA a (some 9) (dropA a.files T) := by
      unfold deleteP
      rw [lookP_up hd hT, hf]
      simp
    rcases actA_cases a (some 9) (dropA a.files T) ha with ⟨e1, a1, q1, f1, d1, c1, m1⟩ | ⟨e1, a1, q1, f1, d1, c1, m1, z1⟩
    · have h2 : runP [fun a => deleteP a T, fun a => createP a T, fun a => appendP a T b, fun a => syncP a T, fun a => renameP a T N] a = (3, a1) := runP_bad (h1.trans q1) (by decide)
      rw [h2]
      exact .inr ⟨by omega, rfl, d1, c1, m1, .inl (by rw [f1]; simp)⟩
    · have h2 : runP [fun a => deleteP a T, fun a => createP a T, fun a => appendP a T b, fun a => syncP a T, fun a => renameP a T N] a = runP [fun a => createP a T, fun a => appendP a T b, fun a => syncP a T, fun a => renameP a T N] a1 := runP_ok (h1.trans q1)
      rw [h2]
      have hno : ∀ f ∈ a1.files, f.name ≠ T := by rw [f1]; exact fun f hf => (mem_dropA.1 hf).2
      have h3 := run4_of (b := b) (a := a1) (d1.trans hd) m1 hT hN hne hno (by rw [f1]; exact hc) hb (by rw [c1, show usedP a1 = usedP { a with files := dropA a.files T } from by unfold usedP; rw [f1]]; exact hr)
      rcases h3 with ⟨g1, g2, g3, g4, g5, g6⟩ | ⟨g0, g1, g2, g3, g4, g5⟩
      · exact .inl ⟨g1, by rw [g2, dropA_same hno, f1], g3, g4.trans c1, g5, fun e => g6 (z1 e)⟩
      · refine .inr ⟨fun e => g0 (z1 e), g1, g2, g3.trans c1, g4, .inr ?_⟩
        rw [dropA_same hno, f1] at g5
        rcases g5 with g5 | g5
        · exact .inl g5
        · exact g5

/-- The stroke where there is no room, on a disk that is not armed. -/
theorem stroke_full {a : DiskA} (hd : a.down = false) (ha : a.armed = 0) (hT : nameOk (pre ++ tempB).data.toList = true) (hc : (dropA a.files (pre ++ tempB)).length < 256) (hb : b.length ≤ 67108864)
    (hr : a.cap - usedP { a with files := dropA a.files (pre ++ tempB) } < b.length) :
    (strokeP a pre b).1 = 4 ∧ (strokeP a pre b).2.files = dropA a.files (pre ++ tempB) ∧ (strokeP a pre b).2.down = false ∧ (strokeP a pre b).2.cap = a.cap ∧ (strokeP a pre b).2.armed = 0 := by
  have act0 : ∀ (a : DiskA) (co : Option Nat) (F : List FileA), a.armed = 0 → ∃ a', actA a co F = (0, a') ∧ a'.files = F ∧ a'.down = a.down ∧ a'.cap = a.cap ∧ a'.armed = 0 := by
    intro a co F h
    unfold actA
    rw [if_pos h]
    exact ⟨_, rfl, rfl, rfl, rfl, h⟩
  have main : ∀ a1 : DiskA, a1.down = false → a1.armed = 0 → a1.cap = a.cap → a1.files = dropA a.files (pre ++ tempB) →
      ∃ a2, runP [fun a => createP a (pre ++ tempB), fun a => appendP a (pre ++ tempB) b, fun a => syncP a (pre ++ tempB), fun a => renameP a (pre ++ tempB) (pre ++ nameB)] a1 = (4, a2) ∧ a2.files = dropA a.files (pre ++ tempB) ++ [⟨pre ++ tempB, [], 0⟩] ∧ a2.down = false ∧ a2.cap = a.cap ∧ a2.armed = 0 := by
    intro a1 d1 m1 c1 f1
    generalize pre ++ tempB = T at *
    generalize pre ++ nameB = N at *
    have hno : ∀ f ∈ a1.files, f.name ≠ T := by rw [f1]; exact fun f hf => (mem_dropA.1 hf).2
    have h1 : createP a1 T = actA a1 none (a1.files ++ [⟨T, [], 0⟩]) := by
      unfold createP
      rw [lookP_up d1 hT, findP_none hno, f1]
      simp
      omega
    obtain ⟨a2, q2, f2, d2, c2, m2⟩ := act0 a1 none (a1.files ++ [⟨T, [], 0⟩]) m1
    rw [d1] at d2
    have p2 : findP a2.files T = some ⟨T, [], 0⟩ := by rw [f2]; exact findP_last hno _ _
    have u2 : usedP a2 = usedP { a with files := dropA a.files T } := by
      rw [usedP_last _ _ a2 a1 f2 rfl]
      unfold usedP
      rw [f1]
      simp
    have h2 : appendP a2 T b = (4, a2) := by
      unfold appendP
      rw [lookP_up d2 hT, if_neg (by simp), if_neg (by omega), p2, if_neg (by simp), u2, c2, c1, if_pos (by omega)]
    refine ⟨a2, ?_, by rw [f2, f1], d2, c2.trans c1, m2⟩
    rw [runP_ok (h1.trans q2)]
    exact runP_bad h2 (by decide)
  have fin : ∀ a2 : DiskA, a2.files = dropA a.files (pre ++ tempB) ++ [⟨pre ++ tempB, [], 0⟩] → a2.down = false → a2.cap = a.cap → a2.armed = 0 →
      (deleteP a2 (pre ++ tempB)).2.files = dropA a.files (pre ++ tempB) ∧ (deleteP a2 (pre ++ tempB)).2.down = false ∧ (deleteP a2 (pre ++ tempB)).2.cap = a.cap ∧ (deleteP a2 (pre ++ tempB)).2.armed = 0 := by
    intro a2 f2 d2 c2 m2
    generalize pre ++ tempB = T at *
    have hno : ∀ f ∈ dropA a.files T, f.name ≠ T := fun f hf => (mem_dropA.1 hf).2
    have p2 : findP a2.files T = some ⟨T, [], 0⟩ := by rw [f2]; exact findP_last hno _ _
    have h1 : deleteP a2 T = actA a2 (some 9) (dropA a.files T) := by
      unfold deleteP
      rw [lookP_up d2 hT, p2, f2, dropA_last hno]
      simp
    obtain ⟨a3, q3, f3, d3, c3, m3⟩ := act0 a2 (some 9) (dropA a.files T) m2
    rw [h1, q3]
    exact ⟨f3, d3.trans d2, c3.trans c2, m3⟩
  have all : ∃ a2, runP (stepsP a pre b) a = (4, a2) ∧ a2.files = dropA a.files (pre ++ tempB) ++ [⟨pre ++ tempB, [], 0⟩] ∧ a2.down = false ∧ a2.cap = a.cap ∧ a2.armed = 0 := by
    unfold stepsP
    rw [lookP_up hd hT]
    cases hf : findP a.files (pre ++ tempB) with
    | none =>
      simp only [and_self, if_true, show ¬ ((42 : Int) = 0) from by decide, if_false, List.nil_append]
      exact main a hd ha rfl (dropA_same (dropA_isNone hf)).symm
    | some f0 =>
      simp only [reduceCtorEq, and_false, if_false, if_true, List.cons_append, List.nil_append]
      have h1 : deleteP a (pre ++ tempB) = actA a (some 9) (dropA a.files (pre ++ tempB)) := by
        unfold deleteP
        rw [lookP_up hd hT, hf]
        simp
      obtain ⟨a1, q1, f1, d1, c1, m1⟩ := act0 a (some 9) (dropA a.files (pre ++ tempB)) ha
      rw [runP_ok (h1.trans q1)]
      exact main a1 (d1.trans hd) m1 c1 f1
  obtain ⟨a2, q, f2, d2, c2, m2⟩ := all
  obtain ⟨g1, g2, g3, g4⟩ := fin a2 f2 d2 c2 m2
  unfold strokeP
  rw [q]
  simp only [if_true]
  exact ⟨trivial, g1, g2, g3, g4⟩

/-- What Load makes of a disk that is up. -/
theorem loadP_of {a : DiskA} (hd : a.down = false) (hT : nameOk (pre ++ tempB).data.toList = true) (hN : nameOk (pre ++ nameB).data.toList = true) (hp : pre.size ≤ 32) {m : Option VerA}
    (hm : (findP a.files (pre ++ nameB)).map (·.data) = m.map encodeB) (ho : ∀ x ∈ m, okA x = true ∧ ∀ r ∈ x.runs, r.count ≤ 9223372036854775807) :
    (loadP a pre).1 = (m, 0) ∧ (loadP a pre).2.files = a.files ∧ (loadP a pre).2.down = false ∧ (loadP a pre).2.cap = a.cap ∧ (loadP a pre).2.armed = a.armed := by
  have h1 : askedP a pre = 0 := by
    unfold askedP
    rw [lookP_up hd hT]
    cases findP a.files (pre ++ tempB) <;> simp <;> omega
  unfold loadP
  rw [h1, lookP_up hd hN]
  cases m with
  | none =>
    have hf : findP a.files (pre ++ nameB) = none := by simpa using hm
    rw [hf]
    simp [hd]
  | some x =>
    obtain ⟨f, hf, hfd⟩ : ∃ f, findP a.files (pre ++ nameB) = some f ∧ f.data = encodeB x := by
      cases h : findP a.files (pre ++ nameB) with
      | none => rw [h] at hm; simp at hm
      | some f => rw [h] at hm; exact ⟨f, rfl, by simpa using hm⟩
    rw [hf]
    simp only [reduceCtorEq, and_false, if_false, ne_eq, not_true_eq_false, Option.map_some, Option.getD_some, hfd, decode_encode (ho x rfl).1 (ho x rfl).2]
    exact ⟨by simp, rfl, hd, rfl, rfl⟩

theorem askedP_up {a : DiskA} (hd : a.down = false) (hT : nameOk (pre ++ tempB).data.toList = true) (hp : pre.size ≤ 32) : askedP a pre = 0 := by
  unfold askedP
  rw [lookP_up hd hT]
  cases findP a.files (pre ++ tempB) <;> simp <;> omega

/-- A Swap of a version that follows is a stroke. -/
theorem swapP_of {a : DiskA} (hd : a.down = false) (hT : nameOk (pre ++ tempB).data.toList = true) (hN : nameOk (pre ++ nameB).data.toList = true) (hp : pre.size ≤ 32) {m : Option VerA} {x : VerA}
    (hm : (findP a.files (pre ++ nameB)).map (·.data) = m.map encodeB) (ho : ∀ x ∈ m, okA x = true ∧ ∀ r ∈ x.runs, r.count ≤ 9223372036854775807) (hx : okA x = true) (hg : x.gen = (m.map (·.gen)).getD 0 + 1) :
    swapP a pre x = strokeP (loadP a pre).2 pre (encodeB x) := by
  obtain ⟨h1, -⟩ := loadP_of hd hT hN hp hm ho
  unfold swapP
  rw [askedP_up hd hT hp, hx, h1]
  simp [hg]

end

end Go.Proofs.YtgaidmohdhaonaaGreatDoor

namespace Go.Proofs.YtgaidmohdhaonaaGreatDoor
set_option linter.unusedVariables false
set_option linter.unusedSimpArgs false
set_option linter.unnecessarySimpa false
set_option linter.unusedSectionVars false
open Go Go.RowKit

abbrev xB : ByteArray := { data := #[120] }
abbrev xT : ByteArray := xB ++ tempB
abbrev xN : ByteArray := xB ++ nameB

theorem xT_ok : nameOk xT.data.toList = true := by kernel_rfl
theorem xN_ok : nameOk xN.data.toList = true := by kernel_rfl
theorem xT_ne : xT ≠ xN := by
  intro h
  have := congrArg ByteArray.size h
  exact absurd this (by decide +kernel)

/-- The manifest's file, and the one beside it. -/
def mL : Option VerA → List FileA
  | none => []
  | some x => [⟨xN, encodeB x, (encodeB x).length⟩]
def tL : Option (List UInt8) → List FileA
  | none => []
  | some d => [⟨xT, d, d.length⟩]
def GoodM (m : Option VerA) : Prop := ∀ x ∈ m, okA x = true ∧ ∀ r ∈ x.runs, r.count ≤ 9223372036854775807

theorem mL_name {m : Option VerA} : ∀ f ∈ mL m, f.name = xN ∧ f.data.length ≤ f.synced := by
  cases m with
  | none => intro f hf; cases hf
  | some x =>
    intro f hf
    obtain rfl : f = _ := List.mem_singleton.1 hf
    exact ⟨rfl, Nat.le_refl _⟩
theorem mL_noT {m : Option VerA} : ∀ f ∈ mL m, f.name ≠ xT := fun f hf e => xT_ne (e.symm.trans (mL_name f hf).1)

/-- A disk behind a Crash. -/
structure Stood (a : DiskA) (m : Option VerA) : Prop where
  down : a.down = false
  cap : a.cap = 1048576
  good : GoodM m
  files : ∃ t : Option (List UInt8), a.files = mL m ++ tL t ∧ ∀ d ∈ t, d.length ≤ 400000

theorem tL_T {t : Option (List UInt8)} : ∀ f ∈ tL t, f.name = xT := by
  cases t with
  | none => intro f hf; cases hf
  | some d => intro f hf; obtain rfl : f = _ := List.mem_singleton.1 hf; rfl
theorem drop_form (m : Option VerA) (t : Option (List UInt8)) : dropA (mL m ++ tL t) xT = mL m := by
  rw [dropA_append, dropA_same mL_noT]
  cases t with
  | none => simp [tL, dropA]
  | some d => simp [tL, dropA]
theorem find_form (m : Option VerA) {l : List FileA} (h : ∀ f ∈ l, f.name = xT) : (findP (mL m ++ l) xN).map (·.data) = m.map encodeB := by
  have h1 : findP l xN = none := findP_none (fun f hf e => xT_ne ((h f hf).symm.trans e))
  cases m with
  | none => rw [show mL none ++ l = l from rfl, h1]; rfl
  | some x =>
    unfold findP
    simp [mL, beq_bytes]

theorem Stood.start : Stood (newA 1048576) none := ⟨rfl, rfl, (fun x h => by cases h), none, rfl, (fun d h => by cases h)⟩

theorem Stood.load {a : DiskA} {m : Option VerA} (h : Stood a m) : (loadP a xB).1 = (m, 0) ∧ (loadP a xB).2.files = a.files ∧ (loadP a xB).2.down = false ∧ (loadP a xB).2.cap = a.cap ∧ (loadP a xB).2.armed = a.armed := by
  obtain ⟨t, ht, -⟩ := h.files
  exact loadP_of h.down xT_ok xN_ok (by decide +kernel) (by rw [ht]; exact find_form m tL_T) h.good

/-- One Swap of the version that follows, the disk armed or not. -/
theorem Stood.swap {a : DiskA} {m : Option VerA} (h : Stood a m) {x : VerA} (hx : okA x = true) (hc : ∀ r ∈ x.runs, r.count ≤ 9223372036854775807) (hg : x.gen = (m.map (·.gen)).getD 0 + 1) (n : Int) (hn : 0 ≤ n) :
    ((swapP { a with armed := n } xB x).1 = 0 ∧ (swapP { a with armed := n } xB x).2.down = false ∧ (swapP { a with armed := n } xB x).2.cap = 1048576 ∧ (swapP { a with armed := n } xB x).2.files = mL (some x)) ∨
    (n ≠ 0 ∧ (swapP { a with armed := n } xB x).1 = 3 ∧ (swapP { a with armed := n } xB x).2.down = true ∧ (swapP { a with armed := n } xB x).2.cap = 1048576 ∧
      ∃ l, (swapP { a with armed := n } xB x).2.files = mL m ++ l ∧ (l = [] ∨ ∃ d k, l = [⟨xT, d, k⟩] ∧ k ≤ d.length ∧ d.length ≤ 400000)) := by
  obtain ⟨t, ht, htl⟩ := h.files
  have hfm : (findP ({ a with armed := n } : DiskA).files xN).map (·.data) = m.map encodeB := by
    show (findP a.files xN).map (·.data) = m.map encodeB
    rw [ht]; exact find_form m tL_T
  rw [swapP_of (a := { a with armed := n }) h.down xT_ok xN_ok (by decide +kernel) hfm h.good hx hg]
  obtain ⟨-, l1, l2, l3, l4⟩ := loadP_of (a := { a with armed := n }) h.down xT_ok xN_ok (by decide +kernel) hfm h.good
  have hlen := encA_len hx
  have hF : dropA (loadP { a with armed := n } xB).2.files xT = mL m := by
    rw [l1]
    show dropA a.files xT = mL m
    rw [ht, drop_form]
  have hu : usedP { (loadP { a with armed := n } xB).2 with files := mL m } ≤ 400000 := by
    cases m with
    | none => simp [usedP, mL]
    | some y =>
      have := (encA_len (h.good y rfl).1).1
      simpa [usedP, mL] using this
  have hst := stroke_of (pre := xB) (b := encodeB x) (a := (loadP { a with armed := n } xB).2) l2 (by rw [l4]; exact hn) xT_ok xN_ok xT_ne (by rw [hF]; cases m <;> simp [mL]) (by omega)
    (by rw [hF, l3]; have hc : ({ a with armed := n } : DiskA).cap = 1048576 := h.cap; exact Nat.le_trans hlen.1 (Nat.le_trans (by decide : 400000 ≤ 1048576 - 400000) (Nat.le_trans (Nat.sub_le_sub_right (Nat.le_of_eq hc.symm) _) (Nat.sub_le_sub_left hu _))))
  rcases hst with ⟨g1, g2, g3, g4, g5, g6⟩ | ⟨g0, g1, g2, g3, g4, g5⟩
  · refine .inl ⟨g1, g3, by rw [g4, l3]; exact h.cap, ?_⟩
    rw [g2, hF]
    cases m with
    | none => simp [mL, dropA]
    | some y => simp [mL, dropA]
  · refine .inr ⟨by rw [l4] at g0; exact g0, g1, g2, by rw [g3, l3]; exact h.cap, ?_⟩
    rcases g5 with g5 | g5 | ⟨k, hk, g5⟩
    · refine ⟨tL t, by rw [g5, l1]; exact ht, ?_⟩
      cases t with
      | none => exact .inl rfl
      | some d => exact .inr ⟨d, d.length, rfl, Nat.le_refl _, htl d rfl⟩
    · exact ⟨[], by rw [g5, hF, List.append_nil], .inl rfl⟩
    · exact ⟨[⟨xT, encodeB x, k⟩], by rw [g5, hF], .inr ⟨_, k, rfl, hk, hlen.1⟩⟩

theorem crashStep_same {cuts : List Int} {l : List FileA} {k : Nat} {n : ByteArray} (h : ∀ f ∈ l, f.name = n → f.data.length ≤ f.synced) : crashStep cuts (l, k) n = (l, k) := by
  unfold crashStep
  cases hf : l.find? (fun f => f.name == n) with
  | none => rfl
  | some f =>
    simp only []
    rw [if_pos]
    have h1 := List.find?_some hf
    rw [beq_bytes] at h1
    exact h f (List.mem_of_find?_eq_some hf) (by simpa using h1)
theorem crashStep_tail {cuts : List Int} {m : Option VerA} {d : List UInt8} {s k : Nat} (hs : s ≤ d.length) :
    ∃ d' s' k', crashStep cuts (mL m ++ [⟨xT, d, s⟩], k) xT = (mL m ++ [⟨xT, d', s'⟩], k') ∧ d'.length = s' ∧ d'.length ≤ d.length := by
  by_cases h : d.length ≤ s
  · refine ⟨d, s, k, crashStep_same ?_, by omega, Nat.le_refl _⟩
    intro f hf e
    rcases List.mem_append.1 hf with hf | hf
    · exact (mL_name f hf).2
    · obtain rfl : f = _ := List.mem_singleton.1 hf
      exact h
  · have hf : (mL m ++ [(⟨xT, d, s⟩ : FileA)]).find? (fun f => f.name == xT) = some ⟨xT, d, s⟩ := findP_last mL_noT d s
    refine ⟨d.take (s + keepOf cuts k (d.length - s)), s + keepOf cuts k (d.length - s), k + 1, ?_, ?_, ?_⟩
    · unfold crashStep
      simp only [hf]
      rw [if_neg h, updA_last mL_noT]
    · rw [List.length_take]
      have := keepOf_le cuts k (d.length - s)
      omega
    · rw [List.length_take]; omega
theorem crashFold_form {cuts : List Int} {m : Option VerA} : ∀ (ns : List ByteArray) {d : List UInt8} {s k : Nat}, s ≤ d.length →
    ∃ d' s' k', ns.foldl (crashStep cuts) (mL m ++ [⟨xT, d, s⟩], k) = (mL m ++ [⟨xT, d', s'⟩], k') ∧ s' ≤ d'.length ∧ d'.length ≤ d.length ∧ (xT ∈ ns ∨ d.length = s → d'.length = s')
  | [], d, s, k, h => ⟨d, s, k, rfl, h, Nat.le_refl _, fun e => e.elim (fun e => by cases e) id⟩
  | n :: ns, d, s, k, h => by
    by_cases hn : n = xT
    · subst hn
      obtain ⟨d1, s1, k1, q1, e1, e2⟩ := crashStep_tail (cuts := cuts) (m := m) (k := k) h
      obtain ⟨d2, s2, k2, q2, e3, e4, e5⟩ := crashFold_form (cuts := cuts) (m := m) ns (d := d1) (s := s1) (k := k1) (by omega)
      exact ⟨d2, s2, k2, by rw [List.foldl_cons, q1, q2], e3, by omega, fun _ => e5 (.inr e1)⟩
    · have hsame : crashStep cuts (mL m ++ [⟨xT, d, s⟩], k) n = (mL m ++ [⟨xT, d, s⟩], k) := by
        refine crashStep_same ?_
        intro f hf e
        rcases List.mem_append.1 hf with hf | hf
        · exact (mL_name f hf).2
        · obtain rfl : f = _ := List.mem_singleton.1 hf
          exact absurd e.symm hn
      obtain ⟨d2, s2, k2, q2, e3, e4, e5⟩ := crashFold_form (cuts := cuts) (m := m) ns (d := d) (s := s) (k := k) h
      refine ⟨d2, s2, k2, by rw [List.foldl_cons, hsame, q2], e3, e4, fun e => e5 ?_⟩
      rcases e with e | e
      · rcases List.mem_cons.1 e with e | e
        · exact absurd e.symm hn
        · exact .inl e
      · exact .inr e
theorem crashFold_none {cuts : List Int} {m : Option VerA} : ∀ (ns : List ByteArray) (k : Nat), ns.foldl (crashStep cuts) (mL m, k) = (mL m, k)
  | [], k => rfl
  | n :: ns, k => by rw [List.foldl_cons, crashStep_same (fun f hf _ => (mL_name f hf).2), crashFold_none ns k]

/-- Behind the Crash. -/
theorem crash_form {a : DiskA} {cuts : List Int} {m : Option VerA} {l : List FileA} (hcap : a.cap = 1048576) (hg : GoodM m) (hf : a.files = mL m ++ l) (hl : l = [] ∨ ∃ d k, l = [⟨xT, d, k⟩] ∧ k ≤ d.length ∧ d.length ≤ 400000) :
    Stood { a with files := (crashF cuts a.files).1, down := false, armed := 0 } m := by
  refine ⟨rfl, hcap, hg, ?_⟩
  show ∃ t, (crashF cuts a.files).1 = mL m ++ tL t ∧ _
  rw [hf]
  unfold crashF
  rcases hl with rfl | ⟨d, k, rfl, hk, hd⟩
  · rw [List.append_nil, crashFold_none]
    exact ⟨none, by simp [tL], (fun d h => by cases h)⟩
  · obtain ⟨d', s', k', q, -, e2, e3⟩ := crashFold_form (cuts := cuts) (m := m) (sortNames ((mL m ++ [(⟨xT, d, k⟩ : FileA)]).map (·.name))) (d := d) (s := k) (k := 0) hk
    rw [q]
    have hmem : xT ∈ sortNames ((mL m ++ [(⟨xT, d, k⟩ : FileA)]).map (·.name)) := (sortNames_perm _).symm.subset (by simp)
    refine ⟨some d', ?_, fun y hy => by cases hy; omega⟩
    have := e3 (.inl hmem)
    simp [tL, this]

end Go.Proofs.YtgaidmohdhaonaaGreatDoor
