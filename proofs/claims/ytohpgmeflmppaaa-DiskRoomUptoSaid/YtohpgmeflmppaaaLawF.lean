/-
  What an act makes of a disk hangs on its files, its room and whether it is down alone: plain.
-/
import Derived.Test.YtohpgmeflmppaaaLawC
namespace Go.Proofs.Ytohpgmeflmppaaa
set_option linter.unusedVariables false
set_option linter.unusedSimpArgs false
set_option linter.unnecessarySimpa false
set_option linter.unusedSectionVars false
open Go Go.RowKit

abbrev Plan := Int ⊕ (Option Nat × List FileA)

/-- What is to be done, or the error. -/
def planA (cap : Nat) (files : List FileA) (x : DidA) : Plan :=
  if x.kind = 1 then
    if (findA files (fileName x.file)).isSome then .inl 41 else if 256 ≤ files.length then .inl 44 else .inr (none, files ++ [⟨fileName x.file, [], 0⟩])
  else if x.kind = 2 then
    if 67108864 < x.b.length then .inl 2
    else match findA files (fileName x.file) with
      | none => .inl 42
      | some _ => if cap - (files.map (·.data.length)).sum < x.b.length then .inl 4 else .inr (some 6, updA files (fileName x.file) (fun f => { f with data := f.data ++ x.b }))
  else if x.kind = 3 then
    if (findA files (fileName x.file)).isSome then .inr (some 7, updA files (fileName x.file) (fun f => { f with synced := f.data.length })) else .inl 42
  else if x.kind = 4 then
    match findA files (fileName x.file) with
      | none => .inl 42
      | some f => .inr (some 8, renameF files (fileName x.file) (fileName x.to) f)
  else
    if (findA files (fileName x.file)).isSome then .inr (some 9, dropA files (fileName x.file)) else .inl 42

def planRes (a : DiskA) : Plan → Int × DiskA
  | .inl e => (e, a)
  | .inr (co, F) => actA a co F

theorem fileName_ok (n : Int) : nameOk (fileName n).data.toList = true := by
  unfold fileName
  have h : (n % 8).toNat < 8 := by omega
  obtain ⟨k, hk⟩ : ∃ k, k = (n % 8).toNat := ⟨_, rfl⟩
  rw [← hk] at h ⊢
  match k, h with
  | 0, _ => decide
  | 1, _ => decide
  | 2, _ => decide
  | 3, _ => decide
  | 4, _ => decide
  | 5, _ => decide
  | 6, _ => decide
  | 7, _ => decide
  | k + 8, h => omega

theorem isSome_findA (s : DS) (n : ByteArray) : (s.fileAt n).isSome = (findA s.abs.files n).isSome := by rw [← fileAt_findA]; simp
theorem used_abs (s : DS) : s.used = (s.abs.files.map (·.data.length)).sum := by simp [DS.used, usedOf, DS.abs, List.map_map, Function.comp_def, FRec.abs]
theorem len_abs (s : DS) : s.recs.length = s.abs.files.length := by simp [DS.abs]
theorem cap_abs (s : DS) : s.cap = s.abs.cap := rfl

theorem didA_plan {s : DS} {x : DidA} (hd : s.down = false) (h1 : 1 ≤ x.kind) (h5 : x.kind ≤ 5) : didA s x = planRes s.abs (planA s.abs.cap s.abs.files x) := by
  obtain ⟨kind, file, to, b, bv⟩ := x
  simp only at h1 h5
  have e1 := fileName_ok file
  have e2 := fileName_ok to
  have hfa := fileAt_findA s (fileName file)
  have hk : kind = 1 ∨ kind = 2 ∨ kind = 3 ∨ kind = 4 ∨ kind = 5 := by omega
  have z2 : ¬ (2 : Int) = 1 := by decide
  have z3 : ¬ (3 : Int) = 1 ∧ ¬ (3 : Int) = 2 := by decide
  have z4 : ¬ (4 : Int) = 1 ∧ ¬ (4 : Int) = 2 ∧ ¬ (4 : Int) = 3 := by decide
  have z5 : ¬ (5 : Int) = 1 ∧ ¬ (5 : Int) = 2 ∧ ¬ (5 : Int) = 3 ∧ ¬ (5 : Int) = 4 := by decide
  rcases hk with rfl | rfl | rfl | rfl | rfl
  · unfold didA planA createA
    simp only [if_true]
    rw [isSome_findA, len_abs]
    simp only [hd, e1, lookRes]
    by_cases hs : (findA s.abs.files (fileName file)).isSome = true
    · simp [hs, planRes]
    · simp only [hs]
      by_cases hl : 256 ≤ s.abs.files.length
      · simp [hl, planRes]
      · simp [hl, planRes]
  · unfold didA planA appendA
    simp only [if_neg z2, if_true]
    simp only [hd, e1, lookRes, ← used_abs, ← cap_abs]
    cases hf : s.fileAt (fileName file) with
    | none =>
      rw [hf] at hfa
      rw [← hfa]
      by_cases hl : 67108864 < b.length <;> simp [hl, planRes]
    | some r =>
      rw [hf] at hfa
      rw [← hfa]
      by_cases hl : 67108864 < b.length
      · simp [hl, planRes]
      · by_cases hr : s.cap - s.used < b.length <;> simp [hl, hr, planRes]
  · unfold didA planA syncA
    simp only [if_neg z3.1, if_neg z3.2, if_true]
    rw [isSome_findA]
    simp only [hd, e1, lookRes]
    by_cases hs : (findA s.abs.files (fileName file)).isSome = true <;> simp [hs, planRes]
  · unfold didA planA renameA
    simp only [if_neg z4.1, if_neg z4.2.1, if_neg z4.2.2, if_true]
    simp only [hd, e1, e2, lookRes]
    cases hf : s.fileAt (fileName file) with
    | none =>
      rw [hf] at hfa
      rw [← hfa]
      simp [planRes]
    | some r =>
      rw [hf] at hfa
      rw [← hfa]
      simp [planRes]
  · unfold didA planA deleteA
    simp only [if_neg z5.1, if_neg z5.2.1, if_neg z5.2.2.1, if_neg z5.2.2.2, if_true]
    rw [isSome_findA]
    simp only [hd, e1, lookRes]
    by_cases hs : (findA s.abs.files (fileName file)).isSome = true <;> simp [hs, planRes]

theorem didA_other {s : DS} {x : DidA} (h : x.kind < 1 ∨ 5 < x.kind) : didA s x = (0, s.abs) := by
  unfold didA
  rw [if_neg (by omega), if_neg (by omega), if_neg (by omega), if_neg (by omega), if_neg (by omega)]

theorem didA_down {s : DS} {x : DidA} (hd : s.down = true) (h1 : 1 ≤ x.kind) (h5 : x.kind ≤ 5) : didA s x = (3, s.abs) := by
  have hk : x.kind = 1 ∨ x.kind = 2 ∨ x.kind = 3 ∨ x.kind = 4 ∨ x.kind = 5 := by omega
  rcases hk with k | k | k | k | k <;> simp [didA, k, createA, appendA, syncA, renameA, deleteA, hd, lookRes]

/-- Whether it is down or not: down, an act changes nothing. -/
theorem didA_down_abs {s : DS} {x : DidA} (hd : s.down = true) : (didA s x).2 = s.abs := by
  by_cases h : 1 ≤ x.kind ∧ x.kind ≤ 5
  · rw [didA_down hd h.1 h.2]
  · rw [didA_other (by omega)]

theorem plan_err {cap : Nat} {files : List FileA} {x : DidA} {e : Int} (h : planA cap files x = .inl e) : e ≠ 0 := by
  unfold planA at h
  repeat' split at h
  all_goals first
    | (cases h; decide)
    | cases h

theorem plan_co {cap : Nat} {files : List FileA} {x : DidA} {co : Option Nat} {F : List FileA} (h : planA cap files x = .inr (co, F)) : co = some 6 ↔ x.kind = 2 := by
  unfold planA at h
  repeat' split at h
  all_goals first
    | (cases h; done)
    | (simp only [Sum.inr.injEq, Prod.mk.injEq] at h; obtain ⟨rfl, rfl⟩ := h; constructor <;> (intro h'; first | omega | cases h' | rfl | assumption))

/-- Two disks of the same files, one not armed. -/
structure Pair (sd sc : DS) : Prop where
  files : sd.abs.files = sc.abs.files
  cap : sd.abs.cap = sc.abs.cap
  dd : sd.down = false
  dc : sc.down = false
  ac : sc.armed = 0

theorem Pair.step {sd sc sd2 sc2 : DS} {x : DidA} (h : Pair sd sc) (h1 : 1 ≤ x.kind) (h5 : x.kind ≤ 5) (ha : 1 ≤ sd.armed)
    (hd : sd2.abs = (didA sd x).2) (hc : sc2.abs = (didA sc x).2) :
    ((didA sc x).1 ≠ 0 ∧ (didA sd x).1 = (didA sc x).1 ∧ Pair sd2 sc2 ∧ sd2.armed = sd.armed) ∨
    ((didA sc x).1 = 0 ∧ 1 < sd.armed ∧ (didA sd x).1 = 0 ∧ Pair sd2 sc2 ∧ sd2.armed = sd.armed - 1) ∨
    ((didA sc x).1 = 0 ∧ sd.armed = 1 ∧ (didA sd x).1 = 3 ∧ sd2.down = true ∧ sd2.abs.files = if x.kind = 2 then sc2.abs.files else sd.abs.files) := by
  obtain ⟨hf, hcap, hdd, hdc, hac⟩ := h
  have pd := didA_plan (x := x) hdd h1 h5
  have pc := didA_plan (x := x) hdc h1 h5
  rw [hf, hcap] at pd
  cases hp : planA sc.abs.cap sc.abs.files x with
  | inl e =>
    rw [hp] at pd pc
    rw [pd] at hd
    rw [pc] at hc
    simp only [planRes] at hd hc pd pc
    have hdn := congrArg DiskA.down hd
    have hcn := congrArg DiskA.down hc
    have har := congrArg DiskA.armed hd
    have hcr := congrArg DiskA.armed hc
    refine .inl ⟨by rw [pc]; exact plan_err hp, by rw [pc, pd], ⟨by rw [hd, hc, hf], by rw [hd, hc, hcap], ?_, ?_, ?_⟩, har⟩
    · exact hdn.trans hdd
    · exact hcn.trans hdc
    · exact hcr.trans hac
  | inr p =>
    obtain ⟨co, F⟩ := p
    have hco := plan_co hp
    rw [hp] at pd pc
    simp only [planRes] at pd pc
    have hac' : sc.abs.armed = 0 := hac
    unfold actA at pc
    rw [if_pos hac'] at pc
    rw [pc] at hc
    have hcf := congrArg DiskA.files hc
    by_cases h1' : sd.armed = 1
    · have hsd : sd.abs.armed = 1 := h1'
      unfold actA at pd
      rw [if_neg (by omega), if_pos hsd] at pd
      right; right
      refine ⟨by rw [pc], h1', ?_⟩
      by_cases h6 : co = some 6
      · rw [if_pos h6] at pd
        rw [pd] at hd
        have hdf := congrArg DiskA.files hd
        have hdn := congrArg DiskA.down hd
        refine ⟨by rw [pd], hdn, ?_⟩
        rw [if_pos (hco.1 h6), hdf, hcf]
      · rw [if_neg h6] at pd
        rw [pd] at hd
        have hdf := congrArg DiskA.files hd
        have hdn := congrArg DiskA.down hd
        refine ⟨by rw [pd], hdn, ?_⟩
        rw [if_neg (fun h => h6 (hco.2 h)), hdf]
    · have hsd : ¬ sd.abs.armed = 1 := h1'
      have hsd0 : ¬ sd.abs.armed = 0 := by show ¬ sd.armed = 0; omega
      unfold actA at pd
      rw [if_neg hsd0, if_neg hsd] at pd
      rw [pd] at hd
      have hdf := congrArg DiskA.files hd
      have hdn := congrArg DiskA.down hd
      have hda := congrArg DiskA.armed hd
      have hdc2 := congrArg DiskA.cap hd
      have hcn := congrArg DiskA.down hc
      have hca := congrArg DiskA.armed hc
      have hcc := congrArg DiskA.cap hc
      right; left
      refine ⟨by rw [pc], by omega, by rw [pd], ⟨by rw [hdf, hcf], by rw [hdc2, hcc]; exact hcap, hdn.trans hdd, hcn.trans hdc, hca.trans hac⟩, hda⟩

theorem fileList_files {s s2 : DS} (h : s.abs.files = s2.abs.files) : fileList s = fileList s2 := by rw [fileList_findA, fileList_findA, h]

end Go.Proofs.Ytohpgmeflmppaaa
