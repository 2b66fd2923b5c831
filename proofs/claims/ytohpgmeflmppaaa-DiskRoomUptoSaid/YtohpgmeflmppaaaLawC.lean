/-
  What a Crash leaves, file by file (plain lists; no program in sight); a disk of the law's own; a list of acts that came in.
-/
import Derived.Test.YtohpgmeflmppaaaLawB
namespace Go.Proofs.Ytohpgmeflmppaaa
set_option linter.unusedVariables false
set_option linter.unusedSimpArgs false
set_option linter.unnecessarySimpa false
set_option linter.unusedSectionVars false
open Go Go.RowKit

theorem filterMap_cong {α β : Type} {f g : α → Option β} : ∀ {l : List α}, (∀ a ∈ l, f a = g a) → l.filterMap f = l.filterMap g
  | [], _ => rfl
  | a :: l, h => by rw [List.filterMap_cons, List.filterMap_cons, h a (by simp), filterMap_cong (l := l) (fun b hb => h b (by simp [hb]))]

def findA (l : List FileA) (n : ByteArray) : Option FileA := l.find? (fun f => f.name == n)

theorem fileAt_findA (s : DS) (n : ByteArray) : (s.fileAt n).map FRec.abs = findA s.abs.files n := by
  unfold findA DS.fileAt
  show _ = (s.recs.map FRec.abs).find? _
  rw [List.find?_map]
  rfl

/-- What one Crash makes of one file, of which k files with a tail have come before. -/
def crashOne (cuts : List Int) (f : FileA) (k : Nat) : FileA × Nat :=
  if f.data.length ≤ f.synced then (f, k)
  else ({ f with synced := f.synced + keepOf cuts k (f.data.length - f.synced), data := f.data.take (f.synced + keepOf cuts k (f.data.length - f.synced)) }, k + 1)

def crashL (cuts : List Int) : List FileA → Nat → List FileA × Nat
  | [], k => ([], k)
  | f :: t, k => ((crashOne cuts f k).1 :: (crashL cuts t (crashOne cuts f k).2).1, (crashL cuts t (crashOne cuts f k).2).2)

theorem findA_updA (l : List FileA) (n m : ByteArray) (g : FileA → FileA) (hg : ∀ f, (g f).name = f.name) : findA (updA l n g) m = (findA l m).map (fun f => if f.name = n then g f else f) := by
  unfold findA updA
  rw [List.find?_map]
  have e : ((fun f : FileA => f.name == m) ∘ fun f => if f.name = n then g f else f) = fun f : FileA => f.name == m := by
    funext f
    simp only [Function.comp]
    split <;> simp [hg]
  rw [e]

theorem findA_name {l : List FileA} {n : ByteArray} {f : FileA} (h : findA l n = some f) : f.name = n := by
  have := List.find?_some h
  simpa [beq_bytes] using this

theorem crashStep_other (cuts : List Int) (F : List FileA) (k : Nat) (n m : ByteArray) (h : m ≠ n) : findA (crashStep cuts (F, k) n).1 m = findA F m := by
  unfold crashStep
  cases hf : F.find? (fun f => f.name == n) with
  | none => rfl
  | some f =>
    simp only []
    split
    · rfl
    · simp only []
      refine (findA_updA F n m _ (by intro _; rfl)).trans ?_
      cases hm : findA F m with
      | none => rfl
      | some x =>
        simp only [Option.map_some]
        rw [if_neg (by rw [findA_name hm]; exact h)]

theorem crashStep_self (cuts : List Int) (F : List FileA) (k : Nat) (n : ByteArray) {f : FileA} (h : findA F n = some f) : findA (crashStep cuts (F, k) n).1 n = some (crashOne cuts f k).1 ∧ (crashStep cuts (F, k) n).2 = (crashOne cuts f k).2 := by
  unfold crashStep crashOne
  have h' : F.find? (fun f => f.name == n) = some f := h
  simp only [h']
  split
  · exact ⟨h, rfl⟩
  · refine ⟨?_, rfl⟩
    simp only []
    refine (findA_updA F n n _ (by intro _; rfl)).trans ?_
    rw [h]
    simp only [Option.map_some]
    rw [if_pos (findA_name h)]

theorem crashFold_other (cuts : List Int) : ∀ (N : List ByteArray) (st : List FileA × Nat) (m : ByteArray), m ∉ N → findA (N.foldl (crashStep cuts) st).1 m = findA st.1 m
  | [], _, _, _ => rfl
  | n :: N, (F, k), m, h => by
    simp only [List.mem_cons, not_or] at h
    rw [List.foldl_cons, crashFold_other cuts N _ m h.2, crashStep_other cuts F k n m h.1]

theorem crashFold (cuts : List Int) : ∀ (N : List ByteArray) (F : List FileA) (k : Nat), N.Nodup → (∀ n ∈ N, ∃ f, findA F n = some f) →
    N.filterMap (findA (N.foldl (crashStep cuts) (F, k)).1) = (crashL cuts (N.filterMap (findA F)) k).1 ∧ (N.foldl (crashStep cuts) (F, k)).2 = (crashL cuts (N.filterMap (findA F)) k).2
  | [], F, k, _, _ => ⟨rfl, rfl⟩
  | n :: N, F, k, hnd, hall => by
    obtain ⟨hn, hnd'⟩ := List.nodup_cons.1 hnd
    obtain ⟨f, hf⟩ := hall n (by simp)
    obtain ⟨c1, c2⟩ := crashStep_self cuts F k n hf
    have hoth : ∀ m ∈ N, findA (crashStep cuts (F, k) n).1 m = findA F m := fun m hm => crashStep_other cuts F k n m (fun e => hn (e ▸ hm))
    have hrest : N.filterMap (findA (crashStep cuts (F, k) n).1) = N.filterMap (findA F) := filterMap_cong hoth
    obtain ⟨i1, i2⟩ := crashFold cuts N (crashStep cuts (F, k) n).1 (crashStep cuts (F, k) n).2 hnd' (fun m hm => by
      obtain ⟨f', hf'⟩ := hall m (by simp [hm])
      exact ⟨f', by rw [hoth m hm, hf']⟩)
    rw [hrest, c2] at i1 i2
    rw [show ((crashStep cuts (F, k) n).1, (crashOne cuts f k).2) = crashStep cuts (F, k) n from by rw [← c2]] at i1 i2
    rw [List.foldl_cons]
    refine ⟨?_, ?_⟩
    · rw [List.filterMap_cons, crashFold_other cuts N _ n hn, c1, List.filterMap_cons, hf, i1]
      rfl
    · rw [i2, List.filterMap_cons, hf]
      rfl

theorem crashStep_names (cuts : List Int) (st : List FileA × Nat) (n : ByteArray) : (crashStep cuts st n).1.map (·.name) = st.1.map (·.name) := by
  unfold crashStep
  cases st.1.find? (fun f => f.name == n) with
  | none => rfl
  | some f =>
    simp only []
    split
    · rfl
    · simp only [updA, List.map_map]
      refine List.map_congr_left fun g _ => ?_
      simp only [Function.comp]
      split <;> rfl

theorem crashFold_names (cuts : List Int) : ∀ (N : List ByteArray) (st : List FileA × Nat), (N.foldl (crashStep cuts) st).1.map (·.name) = st.1.map (·.name)
  | [], _ => rfl
  | n :: N, st => by rw [List.foldl_cons, crashFold_names cuts N, crashStep_names]

theorem fileList_findA (s : DS) : fileList s = (sortNames (s.abs.files.map (·.name))).filterMap (findA s.abs.files) := by
  unfold fileList
  rw [show s.abs.files.map (·.name) = s.names from by simp [DS.abs, DS.names, FRec.abs]]
  exact filterMap_cong (fun n _ => fileAt_findA s n)

theorem abs_names (s : DS) : s.abs.files.map (·.name) = s.names := by simp [DS.abs, DS.names, FRec.abs]

theorem sort_nodup {l : List ByteArray} (h : l.Nodup) : (sortNames l).Nodup := (sortNames_perm l).nodup_iff.2 h

/-- A crashed disk's files are the old ones, each cut. -/
theorem crash_files {w : World} {s s2 : DS} (hs : s.In w) {cuts : List Int} (h : s2.abs.files = (crashF cuts s.abs.files).1) :
    fileList s2 = (crashL cuts (fileList s) 0).1 ∧ (crashF cuts s.abs.files).2 = (crashL cuts (fileList s) 0).2 := by
  rw [fileList_findA s2, h, fileList_findA s]
  unfold crashF
  rw [crashFold_names]
  refine crashFold cuts _ s.abs.files 0 (sort_nodup (by rw [abs_names]; exact hs.names)) (fun n hn => ?_)
  have hm : n ∈ s.names := by rw [← abs_names]; exact (sortNames_perm _).subset hn
  obtain ⟨r, hr⟩ := fileAt_of_name hm
  exact ⟨r.abs, by rw [← fileAt_findA, hr]; rfl⟩

theorem fileList_names {w : World} {s : DS} (hs : s.In w) : (fileList s).map (·.name) = sortNames s.names := by
  rw [fileList_findA, abs_names]
  have hall : ∀ n ∈ sortNames s.names, ∃ f, findA s.abs.files n = some f ∧ f.name = n := fun n hn => by
    obtain ⟨r, hr⟩ := fileAt_of_name ((sortNames_perm _).subset hn)
    have : findA s.abs.files n = some r.abs := by rw [← fileAt_findA, hr]; rfl
    exact ⟨r.abs, this, findA_name this⟩
  generalize sortNames s.names = N at hall
  induction N with
  | nil => rfl
  | cons n N ih =>
    obtain ⟨f, hf, hn⟩ := hall n (by simp)
    rw [List.filterMap_cons, hf]
    simp only [List.map_cons, hn]
    rw [ih (fun m hm => hall m (by simp [hm]))]

theorem fileList_nodup {w : World} {s : DS} (hs : s.In w) : ((fileList s).map (·.name)).Nodup := by
  rw [fileList_names hs]; exact sort_nodup hs.names

theorem crashL_length (cuts : List Int) : ∀ (l : List FileA) (k : Nat), (crashL cuts l k).1.length = l.length
  | [], _ => rfl
  | f :: t, k => by simp [crashL, crashL_length cuts t]

/-- How many files with a tail lie ahead of the i-th. -/
def tailsBefore (cuts : List Int) (l : List FileA) (i : Nat) : Nat := (crashL cuts (l.take i) 0).2

theorem crashL_at (cuts : List Int) : ∀ (l : List FileA) (k i : Nat) (hi : i < l.length), (crashL cuts l k).1[i]? = some (crashOne cuts l[i] (crashL cuts (l.take i) k).2).1 ∧ (crashL cuts (l.take (i + 1)) k).2 = (crashOne cuts l[i] (crashL cuts (l.take i) k).2).2
  | f :: t, k, 0, _ => by simp [crashL]
  | f :: t, k, i + 1, hi => by
    have := crashL_at cuts t (crashOne cuts f k).2 i (by simpa using hi)
    simpa [crashL] using this

theorem fileList_small {w : World} {s : DS} (hs : s.In w) : ∀ f ∈ fileList s, f.synced ≤ f.data.length ∧ f.data.length ≤ 67108864 := by
  intro f hf
  obtain ⟨n, -, hn⟩ := List.mem_filterMap.1 hf
  cases hr : s.fileAt n with
  | none => rw [hr] at hn; cases hn
  | some r =>
    rw [hr] at hn
    cases hn
    obtain ⟨hm, -⟩ := fileAt_mem hr
    exact ⟨(hs.files r hm).synced, hs.data_le hm⟩

theorem crashOne_whole (cuts : List Int) (f : FileA) (k : Nat) (h : f.synced ≤ f.data.length) (ht : ¬ f.synced < f.data.length) : crashOne cuts f k = (f, k) := by
  unfold crashOne; rw [if_pos (by omega)]

theorem crashOne_tail (cuts : List Int) (f : FileA) (k : Nat) (ht : f.synced < f.data.length) {kp : Nat} (hk : keepOf cuts k (f.data.length - f.synced) = kp) :
    crashOne cuts f k = (⟨f.name, f.data.take (f.synced + kp), f.synced + kp⟩, k + 1) ∧ f.synced + kp ≤ f.data.length := by
  have := keepOf_le cuts k (f.data.length - f.synced)
  unfold crashOne; rw [if_neg (by omega), hk]
  exact ⟨rfl, by omega⟩

theorem FV_ext {f : FV} {a : FileA} (h : f.abs = a) : f.name = a.name ∧ f.data = a.data ∧ f.synced = a.synced := by subst h; exact ⟨rfl, rfl, rfl⟩

/-- The i-th of a list is what find tells by its name. -/
theorem findRes_at {l : List FV} (hnd : (l.map (·.name)).Nodup) {i : Nat} (hi : i < l.length) : findRes l l[i].name = (.agg #[.string l[i].name, l[i].dv, .int .i64 l[i].synced], true) := by
  unfold findRes
  rw [find_take_none hi (fun j hj hlt he => ?_) rfl]
  have := List.pairwise_iff_getElem.1 hnd j i (by simpa using hj) (by simpa using hi) hlt
  simp only [List.getElem_map] at this
  exact this he

end Go.Proofs.Ytohpgmeflmppaaa
