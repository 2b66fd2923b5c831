/-
  Two disks of the same files in whatever order answer alike: plain. What Load makes of the files that Files told.
-/
import Derived.Test.YtohpgmeflmppaaaLawF
import Derived.Test.YtohpgmeflmppaaaLoad
namespace Go.Proofs.Ytohpgmeflmppaaa
set_option linter.unusedVariables false
set_option linter.unusedSimpArgs false
set_option linter.unnecessarySimpa false
set_option linter.unusedSectionVars false
open Go Go.RowKit

theorem nameA_inj : ∀ {l : List FileA}, (l.map (·.name)).Nodup → ∀ {x y : FileA}, x ∈ l → y ∈ l → x.name = y.name → x = y
  | [], _, _, _, hx, _, _ => by cases hx
  | a :: t, hnd, x, y, hx, hy, h => by
    simp only [List.map_cons, List.nodup_cons, List.mem_map, not_exists, not_and] at hnd
    rcases List.mem_cons.1 hx with hx | hx
    · rcases List.mem_cons.1 hy with hy | hy
      · rw [hx, hy]
      · exact absurd (by rw [← h, hx]) (hnd.1 y hy)
    · rcases List.mem_cons.1 hy with hy | hy
      · exact absurd (by rw [h, hy]) (hnd.1 x hx)
      · exact nameA_inj hnd.2 hx hy h

theorem findA_mem {l : List FileA} {n : ByteArray} {f : FileA} (h : findA l n = some f) : f ∈ l ∧ f.name = n := ⟨List.mem_of_find?_eq_some h, findA_name h⟩

theorem findA_of_mem {l : List FileA} (hnd : (l.map (·.name)).Nodup) {f : FileA} (h : f ∈ l) : findA l f.name = some f := by
  cases hc : findA l f.name with
  | none =>
    unfold findA at hc
    rw [List.find?_eq_none] at hc
    exact absurd (by simp [beq_bytes]) (hc f h)
  | some g =>
    obtain ⟨hg, hn⟩ := findA_mem hc
    rw [nameA_inj hnd hg h hn]

theorem findA_perm {a b : List FileA} (hp : a.Perm b) (hnd : (a.map (·.name)).Nodup) (n : ByteArray) : findA a n = findA b n := by
  have hnb : (b.map (·.name)).Nodup := (hp.map _).nodup_iff.1 hnd
  cases hc : findA a n with
  | some f =>
    obtain ⟨hm, rfl⟩ := findA_mem hc
    rw [findA_of_mem hnb (hp.mem_iff.1 hm)]
  | none =>
    cases hd : findA b n with
    | none => rfl
    | some g =>
      obtain ⟨hm, rfl⟩ := findA_mem hd
      rw [findA_of_mem hnd (hp.mem_iff.2 hm)] at hc
      cases hc

/-- Plans alike but for the files' order. -/
def PlanLike : Plan → Plan → Prop
  | .inl e, .inl e' => e = e'
  | .inr (co, F), .inr (co', F') => co = co' ∧ F.Perm F'
  | _, _ => False

theorem sum_perm {a b : List FileA} (hp : a.Perm b) : (a.map (·.data.length)).sum = (b.map (·.data.length)).sum := by
  induction hp with
  | nil => rfl
  | cons x h ih => simp [ih]
  | swap x y l => simp; omega
  | trans h1 h2 i1 i2 => exact i1.trans i2

theorem planA_perm {cap : Nat} {a b : List FileA} (hp : a.Perm b) (hnd : (a.map (·.name)).Nodup) (x : DidA) : PlanLike (planA cap a x) (planA cap b x) := by
  unfold planA
  rw [findA_perm hp hnd, hp.length_eq, sum_perm hp]
  by_cases k1 : x.kind = 1
  · rw [if_pos k1, if_pos k1]
    split
    · rfl
    · split
      · rfl
      · exact ⟨rfl, hp.append_right _⟩
  rw [if_neg k1, if_neg k1]
  by_cases k2 : x.kind = 2
  · rw [if_pos k2, if_pos k2]
    split
    · rfl
    · split
      · rfl
      · split
        · rfl
        · exact ⟨rfl, hp.map _⟩
  rw [if_neg k2, if_neg k2]
  by_cases k3 : x.kind = 3
  · rw [if_pos k3, if_pos k3]
    split
    · exact ⟨rfl, hp.map _⟩
    · rfl
  rw [if_neg k3, if_neg k3]
  by_cases k4 : x.kind = 4
  · rw [if_pos k4, if_pos k4]
    split
    · rfl
    · refine ⟨rfl, ?_⟩
      unfold renameF
      split
      · exact hp
      · exact ((hp.filter _).filter _).append_right _
  rw [if_neg k4, if_neg k4]
  split
  · exact ⟨rfl, hp.filter _⟩
  · rfl

/-- Two disks of the same files, in whatever order, neither armed nor down. -/
structure Like (sd st : DS) : Prop where
  files : sd.abs.files.Perm st.abs.files
  cap : sd.abs.cap = st.abs.cap
  dd : sd.down = false
  dt : st.down = false
  ad : sd.armed = 0
  at' : st.armed = 0

theorem didA_calm {s s2 : DS} {x : DidA} (hd : s.down = false) (ha : s.armed = 0) (h : s2.abs = (didA s x).2) : s2.down = false ∧ s2.armed = 0 ∧ s2.cap = s.cap := by
  have ha' : s.abs.armed = 0 := ha
  by_cases hk : x.kind < 1 ∨ 5 < x.kind
  · rw [didA_other hk] at h
    exact ⟨(congrArg DiskA.down h).trans hd, (congrArg DiskA.armed h).trans ha, congrArg DiskA.cap h⟩
  · rw [didA_plan hd (by omega) (by omega)] at h
    cases hp : planA s.abs.cap s.abs.files x with
    | inl e =>
      rw [hp] at h
      exact ⟨(congrArg DiskA.down h).trans hd, (congrArg DiskA.armed h).trans ha, congrArg DiskA.cap h⟩
    | inr p =>
      rw [hp] at h
      simp only [planRes, actA] at h
      rw [if_pos ha'] at h
      exact ⟨(congrArg DiskA.down h).trans hd, (congrArg DiskA.armed h).trans ha, congrArg DiskA.cap h⟩

theorem Like.step {sd st sd2 st2 : DS} {x : DidA} (h : Like sd st) (hnd : (sd.abs.files.map (·.name)).Nodup) (hd : sd2.abs = (didA sd x).2) (ht : st2.abs = (didA st x).2) :
    (didA sd x).1 = (didA st x).1 ∧ Like sd2 st2 := by
  obtain ⟨d1, d2, d3⟩ := didA_calm h.dd h.ad hd
  obtain ⟨t1, t2, t3⟩ := didA_calm h.dt h.at' ht
  have hcap : sd2.abs.cap = st2.abs.cap := by
    have e1 : sd2.abs.cap = sd.abs.cap := d3
    have e2 : st2.abs.cap = st.abs.cap := t3
    rw [e1, e2]; exact h.cap
  by_cases hk : x.kind < 1 ∨ 5 < x.kind
  · rw [didA_other hk] at hd ht
    rw [didA_other hk, didA_other hk]
    refine ⟨rfl, ?_, hcap, d1, t1, d2, t2⟩
    rw [hd, ht]; exact h.files
  · have pd := didA_plan (x := x) h.dd (by omega) (by omega)
    have pt := didA_plan (x := x) h.dt (by omega) (by omega)
    have hpl := planA_perm (cap := st.abs.cap) h.files hnd x
    have ha : sd.abs.armed = 0 := h.ad
    have hb : st.abs.armed = 0 := h.at'
    rw [h.cap] at pd
    rw [pd] at hd ⊢
    rw [pt] at ht ⊢
    cases p1 : planA st.abs.cap sd.abs.files x with
    | inl e =>
      cases p2 : planA st.abs.cap st.abs.files x with
      | inl e' =>
        rw [p1, p2] at hpl
        rw [p1] at hd
        rw [p2] at ht
        simp only [planRes] at hd ht ⊢
        refine ⟨hpl, ?_, hcap, d1, t1, d2, t2⟩
        rw [hd, ht]; exact h.files
      | inr q => rw [p1, p2] at hpl; exact hpl.elim
    | inr q =>
      obtain ⟨co, F⟩ := q
      cases p2 : planA st.abs.cap st.abs.files x with
      | inl e' => rw [p1, p2] at hpl; exact hpl.elim
      | inr q2 =>
        obtain ⟨co2, F2⟩ := q2
        rw [p1, p2] at hpl
        rw [p1] at hd
        rw [p2] at ht
        simp only [planRes, actA] at hd ht ⊢
        rw [if_pos ha] at hd ⊢
        rw [if_pos hb] at ht ⊢
        refine ⟨rfl, ?_, hcap, d1, t1, d2, t2⟩
        rw [hd, ht]; exact hpl.2

theorem names_nodup {w : World} {s : DS} (hs : s.In w) : (s.abs.files.map (·.name)).Nodup := by rw [abs_names]; exact hs.names

theorem fileList_perm {w : World} {sd st : DS} (hs : sd.In w) (h : sd.abs.files.Perm st.abs.files) : fileList sd = fileList st := by
  rw [fileList_findA, fileList_findA, sortNames_congr (h.map _)]
  exact filterMap_cong (fun n _ => findA_perm h (names_nodup hs) n)

theorem filterMap_findA {l : List FileA} (hnd : (l.map (·.name)).Nodup) : ∀ (t : List FileA), (∀ f ∈ t, f ∈ l) → (t.map (·.name)).filterMap (findA l) = t
  | [], _ => rfl
  | a :: t, h => by
    rw [List.map_cons, List.filterMap_cons, findA_of_mem hnd (h a (by simp))]
    simp only
    rw [filterMap_findA hnd t (fun f hf => h f (by simp [hf]))]

/-- What Files tells is the files, in another order. -/
theorem fileList_files_perm {w : World} {s : DS} (hs : s.In w) : (fileList s).Perm s.abs.files := by
  rw [fileList_findA]
  have h := (sortNames_perm (s.abs.files.map (·.name))).filterMap (findA s.abs.files)
  rw [filterMap_findA (names_nodup hs) s.abs.files (fun f hf => hf)] at h
  exact h

theorem loadL_ok {cap : Nat} : ∀ (l : List FileI) (acc : List FileA), (∀ f ∈ l, nameOk f.name.data.toList = true ∧ 0 ≤ f.synced ∧ f.synced ≤ (f.data.length : Int)) → ((acc ++ l.map FileI.abs).map (·.name)).Nodup →
    usedA acc + usedA (l.map FileI.abs) ≤ cap → loadL cap l acc = .inr (acc ++ l.map FileI.abs)
  | [], acc, _, _, _ => by simp [loadL]
  | f :: t, acc, h1, h2, h3 => by
    obtain ⟨g1, g2, g3⟩ := h1 f (by simp)
    have hu : usedA ((f :: t).map FileI.abs) = f.data.length + usedA (t.map FileI.abs) := by simp [usedA, FileI.abs]
    have hua : usedA (acc ++ [f.abs]) = usedA acc + f.data.length := by simp [usedA, FileI.abs]
    have hno : (findA acc f.name).isSome = false := by
      cases hc : findA acc f.name with
      | none => rfl
      | some g =>
        obtain ⟨hm, hn⟩ := findA_mem hc
        rw [List.map_append, List.nodup_append] at h2
        exact absurd hn (h2.2.2 g.name (List.mem_map_of_mem hm) f.name (by simp [FileI.abs]))
    unfold loadL
    rw [if_neg (by rw [g1]; decide), if_neg (by rw [hno]; decide), if_neg (by omega), if_neg (by omega)]
    rw [loadL_ok t (acc ++ [f.abs]) (fun x hx => h1 x (by simp [hx])) (by simpa using h2) (by omega)]
    simp

def FV.toI (f : FV) : FileI := ⟨f.name, f.dv, f.data, f.synced⟩
theorem toI_abs (f : FV) : f.toI.abs = f.abs := by simp [FV.toI, FileI.abs, FV.abs]

theorem FilesAt.toIn {w : World} {base : Nat} {v : Value} {l : List FV} (h : FilesAt w base v l) : FilesIn w v (l.map FV.toI) := by
  obtain ⟨ao, cap, hv, h1, h2, h3⟩ := h.shape
  refine ⟨⟨ao, cap, by simpa using hv, by simpa using h1, by simpa [maxLen] using Nat.le_trans h2 (by decide : maxLen ≤ 9223372036854775807), fun k hk => ?_⟩, fun f hf => ?_, fun f hf a m c e _ => ?_⟩
  · have hk' : k < l.length := by simpa using hk
    obtain ⟨g, h4, -, h5, h6, h7, h8⟩ := h3 k hk'
    refine ⟨g, 0, h4, h5, ?_, ?_, ?_⟩
    · simpa [FV.toI] using h6
    · simpa [FV.toI] using h7
    · simpa [FV.toI] using h8
  · obtain ⟨x, hx, rfl⟩ := List.mem_map.1 hf
    exact (h.data x hx).bytes
  · obtain ⟨x, hx, rfl⟩ := List.mem_map.1 hf
    have e' : x.dv = .slice (some a) m c := e
    exact (h.data x hx).lt a.block (by rw [e']; rfl)

/-- Load of what Files told. -/
theorem load_told {w : World} {s : DS} (hs : s.In w) {l : List FV} (h : l.map FV.abs = fileList s) : loadA s.cap (l.map FV.toI) = .inr (fileList s) := by
  have habs : (l.map FV.toI).map FileI.abs = fileList s := by
    rw [← h, List.map_map]
    exact List.map_congr_left (fun f _ => toI_abs f)
  have hlen := fileList_le hs
  have hl : l.length = (fileList s).length := by rw [← h]; simp
  have hcap := hs.cap
  have hroom := hs.room
  have hmem : ∀ f ∈ l, f.abs ∈ s.abs.files := fun f hf => (fileList_files_perm hs).mem_iff.1 (by rw [← h]; exact List.mem_map_of_mem hf)
  unfold loadA
  rw [if_neg (by omega), if_neg (by simp; omega)]
  have hnat : ((s.cap : Int)).toNat = s.cap := by simp
  have hok : ∀ f ∈ l.map FV.toI, nameOk f.name.data.toList = true ∧ 0 ≤ f.synced ∧ f.synced ≤ (f.data.length : Int) := by
    intro f hf
    obtain ⟨x, hx, rfl⟩ := List.mem_map.1 hf
    have hm := hmem x hx
    obtain ⟨r, hr, hra⟩ := List.mem_map.1 hm
    have hin := hs.files r hr
    have e1 : x.name = r.name := (congrArg FileA.name hra).symm
    have e2 : x.data = r.data := (congrArg FileA.data hra).symm
    have e3 : x.synced = r.synced := (congrArg FileA.synced hra).symm
    simp only [FV.toI]
    rw [e1, e2, e3]
    have := hin.synced
    exact ⟨hin.name, by omega, by omega⟩
  have hus : usedA [] + usedA ((l.map FV.toI).map FileI.abs) ≤ s.cap := by
    rw [habs]
    have e1 : usedA (fileList s) = s.used := by rw [used_abs]; exact sum_perm (fileList_files_perm hs)
    have e2 : usedA [] = 0 := rfl
    omega
  rw [hnat, loadL_ok _ [] hok (by rw [List.nil_append, habs]; exact fileList_nodup hs) hus, List.nil_append, habs]

end Go.Proofs.Ytohpgmeflmppaaa
