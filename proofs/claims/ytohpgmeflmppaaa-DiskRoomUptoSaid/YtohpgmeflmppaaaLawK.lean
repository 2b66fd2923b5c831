/-
  What each act does to the book; the room of DiskRoom's disk.
-/
import Derived.Test.YtohpgmeflmppaaaLawJ
namespace Go.Proofs.Ytohpgmeflmppaaa
set_option linter.unusedVariables false
set_option linter.unusedSimpArgs false
set_option linter.unnecessarySimpa false
set_option linter.unusedSectionVars false
open Go Go.RowKit

theorem dropA_none {l : List FileA} {n : ByteArray} (h : findA l n = none) : dropA l n = l := by
  unfold dropA
  rw [List.filter_eq_self]
  intro f hf
  unfold findA at h
  rw [List.find?_eq_none] at h
  have := h f hf
  simpa [beq_bytes] using this

theorem dropA_length : ∀ {l : List FileA}, (l.map (·.name)).Nodup → ∀ {n : ByteArray}, (findA l n).isSome = true → (dropA l n).length + 1 = l.length
  | [], _, n, h => by simp [findA] at h
  | f :: t, hnd, n, h => by
    simp only [List.map_cons, List.nodup_cons] at hnd
    by_cases hf : f.name = n
    · have ht : findA t n = none := by
        unfold findA
        rw [List.find?_eq_none]
        intro g hg e
        simp only [beq_bytes, decide_eq_true_eq] at e
        exact hnd.1 (by rw [hf, ← e]; exact List.mem_map_of_mem hg)
      have := dropA_none ht
      unfold dropA at this ⊢
      rw [List.filter_cons, if_neg (by simp [hf]), this]
      simp
    · have ht : (findA t n).isSome = true := by
        unfold findA at h ⊢
        rw [List.find?_cons] at h
        simpa [beq_bytes, hf] using h
      have ih := dropA_length hnd.2 ht
      unfold dropA at ih ⊢
      rw [List.filter_cons, if_pos (by simp [hf])]
      simp only [List.length_cons]
      omega

theorem dropA_nodup {l : List FileA} (h : (l.map (·.name)).Nodup) (n : ByteArray) : ((dropA l n).map (·.name)).Nodup := h.sublist ((List.filter_sublist).map _)

theorem Book.created {w w' : World} {m : Nat} {E : Ents} {D : List FileA} (h : Book w m E D) {n : ByteArray} (hn : findA D n = none) (hu : Upd (fun k => k = m) w w') (hm : MapIs w' m (Proofs.Ytohpgmeflmppaaa.put E n (.slice none 0 0))) :
    Book w' m (Proofs.Ytohpgmeflmppaaa.put E n (.slice none 0 0)) (D ++ [⟨n, [], 0⟩]) := by
  refine h.put hu hm (bs := []) (.inl ⟨rfl, rfl⟩) (fun k hk => by cases hk) (by rw [hn]; simp) (fun k => ?_)
  rw [findA_snoc]
  by_cases e : k = n
  · subst e; rw [if_pos rfl, hn]; simp
  · rw [if_neg e, if_neg (fun e' => e e'.symm)]; simp

theorem Book.appended {w w' : World} {m : Nat} {E : Ents} {D : List FileA} (h : Book w m E D) {n : ByteArray} {f : FileA} {bs : List UInt8} {v : Value} (hn : findA D n = some f) (hu : Upd (fun k => k = m) w w')
    (hm : MapIs w' m (Proofs.Ytohpgmeflmppaaa.put E n v)) (hv : DataIs w' v (f.data ++ bs)) (hvm : ∀ k, v.ownBlock = some k → k ≠ m) : Book w' m (Proofs.Ytohpgmeflmppaaa.put E n v) (updA D n (fun f => { f with data := f.data ++ bs })) := by
  refine h.put hu hm hv hvm (by rw [hn]; simp [updA]) (fun k => ?_)
  rw [findA_updA D n k (fun f => { f with data := f.data ++ bs }) (fun _ => rfl)]
  by_cases e : k = n
  · subst e
    rw [if_pos rfl, hn]
    simp [findA_name hn]
  · rw [if_neg e]
    cases hc : findA D k with
    | none => rfl
    | some g =>
      have := findA_name hc
      simp [this, e]

theorem Book.synced {w : World} {m : Nat} {E : Ents} {D : List FileA} (h : Book w m E D) (n : ByteArray) : Book w m E (updA D n (fun f => { f with synced := f.data.length })) := by
  refine h.same (by simp [updA]) (fun k => ?_)
  rw [findA_updA D n k (fun f => { f with synced := f.data.length }) (fun _ => rfl)]
  cases hc : findA D k with
  | none => rfl
  | some g =>
    simp only [Option.map_some, Option.some.injEq]
    split <;> rfl

theorem Book.deleted {w w' : World} {m : Nat} {E : Ents} {D : List FileA} (h : Book w m E D) (hnd : (D.map (·.name)).Nodup) {n : ByteArray} {f : FileA} (hn : findA D n = some f) (hu : Upd (fun k => k = m) w w')
    (hm : MapIs w' m (Proofs.Ytohpgmeflmppaaa.del E n)) : Book w' m (Proofs.Ytohpgmeflmppaaa.del E n) (dropA D n) := by
  refine h.del hu hm (by rw [hn]; rfl) (dropA_length hnd (by rw [hn]; rfl)) (fun k => ?_)
  rw [findA_dropA]
  split <;> rfl

theorem Book.renamed {w w' : World} {m : Nat} {E : Ents} {D : List FileA} {n t : ByteArray} {f : FileA} {v : Value} (hnd : (D.map (·.name)).Nodup) (hn : findA D n = some f) (h : Book w m E (dropA D n)) (hu : Upd (fun k => k = m) w w')
    (hm : MapIs w' m (Proofs.Ytohpgmeflmppaaa.put E t v)) (hv : DataIs w' v f.data) (hvm : ∀ k, v.ownBlock = some k → k ≠ m) : Book w' m (Proofs.Ytohpgmeflmppaaa.put E t v) (renameF D n t f) := by
  have hfn := findA_name hn
  have hl := dropA_length hnd (show (findA D n).isSome = true by rw [hn]; rfl)
  by_cases e : n = t
  · subst e
    have hr : renameF D n n f = D := by unfold renameF; rw [if_pos rfl]
    rw [hr]
    refine h.put hu hm hv hvm (by rw [findA_dropA, if_pos rfl]; simp; omega) (fun k => ?_)
    rw [findA_dropA]
    by_cases ek : k = n
    · subst ek; rw [if_pos rfl, hn]; rfl
    · rw [if_neg ek, if_neg ek]
  · have hr : renameF D n t f = dropA (dropA D t) n ++ [{ f with name := t }] := by unfold renameF; rw [if_neg e]
    rw [hr]
    have htn : ¬ t = n := fun e' => e e'.symm
    refine h.put hu hm hv hvm ?_ (fun k => ?_)
    · rw [findA_dropA, if_neg htn, List.length_append, List.length_singleton]
      have h2 : (findA (dropA D t) n).isSome = true := by rw [findA_dropA, if_neg e, hn]; rfl
      have hl2 := dropA_length (dropA_nodup hnd t) h2
      by_cases hs : (findA D t).isSome = true
      · have hl3 := dropA_length hnd hs
        rw [if_pos hs]; omega
      · have := dropA_none (l := D) (n := t) (by simpa using hs)
        rw [if_neg hs]
        rw [this] at hl2 ⊢
    · rw [findA_snoc, findA_dropA, findA_dropA, findA_dropA]
      by_cases ek : k = t
      · subst ek
        simp [htn]
      · have etk : ¬ t = k := fun e' => ek e'.symm
        by_cases en : k = n
        · subst en
          simp [ek, etk]
        · simp [ek, en, etk]

/-- One act upon a disk that is neither armed nor down. -/
theorem room_step {s s2 : DS} {x : DidA} (hd : s.down = false) (ha : s.armed = 0) (h : s2.abs = (didA s x).2) :
    ((didA s x).1 ≠ 0 ∧ s2.abs.files = s.abs.files) ∨
    ((didA s x).1 = 0 ∧ (x.kind < 1 ∨ 5 < x.kind) ∧ s2.abs.files = s.abs.files) ∨
    ((didA s x).1 = 0 ∧ x.kind = 1 ∧ findA s.abs.files (fileName x.file) = none ∧ s2.abs.files = s.abs.files ++ [⟨fileName x.file, [], 0⟩]) ∨
    ((didA s x).1 = 0 ∧ x.kind = 2 ∧ ∃ f, findA s.abs.files (fileName x.file) = some f ∧ x.b.length ≤ 67108864 ∧ s2.abs.files = updA s.abs.files (fileName x.file) (fun f => { f with data := f.data ++ x.b })) ∨
    ((didA s x).1 = 0 ∧ x.kind = 3 ∧ s2.abs.files = updA s.abs.files (fileName x.file) (fun f => { f with synced := f.data.length })) ∨
    ((didA s x).1 = 0 ∧ x.kind = 4 ∧ ∃ f, findA s.abs.files (fileName x.file) = some f ∧ s2.abs.files = renameF s.abs.files (fileName x.file) (fileName x.to) f) ∨
    ((didA s x).1 = 0 ∧ x.kind = 5 ∧ ∃ f, findA s.abs.files (fileName x.file) = some f ∧ s2.abs.files = dropA s.abs.files (fileName x.file)) := by
  by_cases hk : x.kind < 1 ∨ 5 < x.kind
  · rw [didA_other hk] at h ⊢
    exact .inr (.inl ⟨rfl, hk, by rw [h]⟩)
  have hp := didA_plan (x := x) hd (by omega) (by omega)
  have ha' : s.abs.armed = 0 := ha
  cases hpl : planA s.abs.cap s.abs.files x with
  | inl e =>
    rw [hpl] at hp
    simp only [planRes] at hp
    rw [hp] at h ⊢
    exact .inl ⟨plan_err hpl, by rw [h]⟩
  | inr q =>
    obtain ⟨co, F⟩ := q
    rw [hpl] at hp
    simp only [planRes, actA] at hp
    rw [if_pos ha'] at hp
    rw [hp] at h ⊢
    have hF : s2.abs.files = F := by rw [h]
    rw [hF]
    right; right
    unfold planA at hpl
    have hk' : x.kind = 1 ∨ x.kind = 2 ∨ x.kind = 3 ∨ x.kind = 4 ∨ x.kind = 5 := by omega
    rcases hk' with k | k | k | k | k
    · rw [if_pos k] at hpl
      split at hpl
      · cases hpl
      · rename_i hno
        split at hpl
        · cases hpl
        · simp only [Sum.inr.injEq, Prod.mk.injEq] at hpl
          exact .inl ⟨rfl, k, by simpa using hno, hpl.2.symm⟩
    · rw [if_neg (by omega), if_pos k] at hpl
      split at hpl
      · cases hpl
      · rename_i hb
        split at hpl
        · cases hpl
        · rename_i f hf
          split at hpl
          · cases hpl
          · simp only [Sum.inr.injEq, Prod.mk.injEq] at hpl
            exact .inr (.inl ⟨rfl, k, f, hf, by omega, hpl.2.symm⟩)
    · rw [if_neg (by omega), if_neg (by omega), if_pos k] at hpl
      split at hpl
      · simp only [Sum.inr.injEq, Prod.mk.injEq] at hpl
        exact .inr (.inr (.inl ⟨rfl, k, hpl.2.symm⟩))
      · cases hpl
    · rw [if_neg (by omega), if_neg (by omega), if_neg (by omega), if_pos k] at hpl
      split at hpl
      · cases hpl
      · rename_i f hf
        simp only [Sum.inr.injEq, Prod.mk.injEq] at hpl
        exact .inr (.inr (.inr (.inl ⟨rfl, k, f, hf, hpl.2.symm⟩)))
    · rw [if_neg (by omega), if_neg (by omega), if_neg (by omega), if_neg (by omega)] at hpl
      split at hpl
      · rename_i hs
        simp only [Sum.inr.injEq, Prod.mk.injEq] at hpl
        obtain ⟨f, hf⟩ := Option.isSome_iff_exists.1 hs
        exact .inr (.inr (.inr (.inr ⟨rfl, k, f, hf, hpl.2.symm⟩)))
      · cases hpl

theorem room_any (n : Int) (w : World) : ∃ c : Nat, 1 ≤ c ∧ c ≤ 4096 ∧ Calls Try.prog 26 #[.int .i64 n] w fun e w' => e = .returned (.int .i64 c) ∧ w' = w := by
  have hq := Int.mul_tdiv_add_tmod n 4096
  have hb1 : -4096 < n.tmod 4096 := by have := Int.lt_tmod_of_pos n (show (0 : Int) < 4096 by decide); omega
  have hb2 : n.tmod 4096 < 4096 := Int.tmod_lt_of_pos n (by decide)
  obtain ⟨r, hr⟩ : ∃ r, r = n.tmod 4096 := ⟨_, rfl⟩
  rw [← hr] at hb1 hb2
  have hr' := hr.symm
  clear hr hq
  by_cases hneg : r < 0
  · obtain ⟨c, hc⟩ : ∃ c : Nat, (c : Int) = r + 4096 + 1 := ⟨(r + 4096 + 1).toNat, by omega⟩
    refine ⟨c, by omega, by omega, ?_⟩
    rw [hc]
    clear hc
    go_enter Try.func26, Try.ntmps26
    go_wp2
    go_ret
    exact ⟨rfl, rfl⟩
  · obtain ⟨c, hc⟩ : ∃ c : Nat, (c : Int) = r + 1 := ⟨(r + 1).toNat, by omega⟩
    refine ⟨c, by omega, by omega, ?_⟩
    rw [hc]
    clear hc
    go_enter Try.func26, Try.ntmps26
    go_wp2
    go_ret
    exact ⟨rfl, rfl⟩

theorem On.other {S : Nat → Prop} {w0 w w' : World} {p : Nat} {s : DS} (h : On w0 w p s) (hu : Upd S w w') (hS : ∀ k, S k → k ∉ s.blocks ∧ w0.heap.size ≤ k) : On w0 w' p s :=
  ⟨h.ins.upd hu (fun k hk hs => (hS k hs).1 hk), h.p, h.low, h.upd.trans hu (fun k hk hs => by have := (hS k hs).2; omega)⟩

end Go.Proofs.Ytohpgmeflmppaaa
