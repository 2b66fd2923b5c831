/-
  The book that DiskRoom keeps beside a disk: plain.
  What each act does to the book; the room of DiskRoom's disk.
-/
import Derived.Test.YtohpgmeflmppaaaGreatGH
namespace Go.Proofs.YtohpgmeflmppaaaGreat
set_option linter.unusedVariables false
set_option linter.unusedSimpArgs false
set_option linter.unnecessarySimpa false
set_option linter.unusedSectionVars false
open Go Go.RowKit

abbrev Ents := List (ByteArray × Value)

theorem look_put : ∀ (E : Ents) (k n : ByteArray) (v : Value), look (put E k v) n = if n = k then some v else look E n
  | [], k, n, v => by
    unfold put
    rw [look_cons]
    by_cases h : k = n
    · rw [if_pos h, if_pos h.symm]
    · rw [if_neg h, if_neg (fun e => h e.symm)]
  | p :: E, k, n, v => by
    unfold put
    by_cases hp : p.1 = k
    · rw [if_pos hp, look_cons, look_cons]
      by_cases hn : n = k
      · rw [if_pos (hp.trans hn.symm), if_pos hn]
      · have hpn : ¬ p.1 = n := fun e => hn (e.symm.trans hp)
        rw [if_neg hn, if_neg hpn]
        exact (if_neg hpn).symm
    · rw [if_neg hp, look_cons, look_cons, look_put E k n v]
      by_cases hn : p.1 = n
      · rw [if_pos hn, if_pos hn, if_neg (fun e => hp (hn.trans e))]
      · rw [if_neg hn, if_neg hn]

theorem look_none_iff {E : Ents} {n : ByteArray} : look E n = none ↔ n ∉ E.map (·.1) := by
  unfold look
  simp only [Option.map_eq_none_iff, List.find?_eq_none, List.mem_map, not_exists, not_and]
  constructor
  · intro h p hp e
    exact h p hp (by simp [beq_bytes, e])
  · intro h p hp e
    exact h p hp (by simpa [beq_bytes] using e)

theorem look_del : ∀ (E : Ents) (k n : ByteArray), (E.map (·.1)).Nodup → look (del E k) n = if n = k then none else look E n
  | [], k, n, _ => by unfold del; split <;> rfl
  | p :: E, k, n, hnd => by
    simp only [List.map_cons, List.nodup_cons] at hnd
    unfold del
    by_cases hp : p.1 = k
    · rw [if_pos hp, look_cons]
      by_cases hn : n = k
      · rw [if_pos hn, hn]
        exact look_none_iff.2 (hp ▸ hnd.1)
      · rw [if_neg hn, if_neg (fun e => hn (e.symm.trans hp))]
    · rw [if_neg hp, look_cons, look_cons, look_del E k n hnd.2]
      by_cases hn : p.1 = n
      · rw [if_pos hn, if_pos hn, if_neg (fun e => hp (hn.trans e))]
      · rw [if_neg hn, if_neg hn]

theorem put_keys : ∀ (E : Ents) (k : ByteArray) (v : Value), (put E k v).map (·.1) = if (look E k).isSome then E.map (·.1) else E.map (·.1) ++ [k]
  | [], k, v => by simp [put, look]
  | p :: E, k, v => by
    unfold put
    rw [look_cons]
    by_cases hp : p.1 = k
    · simp [hp]
    · rw [if_neg hp, if_neg hp, List.map_cons, put_keys E k v]
      split <;> simp

theorem del_sub : ∀ (E : Ents) (k : ByteArray), (del E k).Sublist E
  | [], k => List.Sublist.refl _
  | p :: E, k => by
    unfold del
    split
    · exact List.sublist_cons_self _ _
    · exact (del_sub E k).cons_cons _

theorem del_length : ∀ (E : Ents) (k : ByteArray), (look E k).isSome = true → (del E k).length + 1 = E.length
  | [], k, h => by simp [look] at h
  | p :: E, k, h => by
    unfold del
    rw [look_cons] at h
    by_cases hp : p.1 = k
    · simp [hp]
    · rw [if_neg hp] at h
      rw [if_neg hp]
      have := del_length E k h
      simp only [List.length_cons]
      omega

theorem put_length (E : Ents) (k : ByteArray) (v : Value) : (put E k v).length = if (look E k).isSome then E.length else E.length + 1 := by
  have h := congrArg List.length (put_keys E k v)
  rw [List.length_map] at h
  rw [h]
  split <;> simp

theorem mem_put : ∀ (E : Ents) (k : ByteArray) (v : Value) (p : ByteArray × Value), p ∈ put E k v → p ∈ E ∨ p.2 = v
  | [], k, v, p, h => by simp [put] at h; exact .inr (by rw [h])
  | q :: E, k, v, p, h => by
    unfold put at h
    split at h
    · rcases List.mem_cons.1 h with h | h
      · exact .inr (by rw [h])
      · exact .inl (by simp [h])
    · rcases List.mem_cons.1 h with h | h
      · exact .inl (by simp [h])
      · exact (mem_put E k v p h).imp (fun h => by simp [h]) id

theorem put_nodup {E : Ents} {k : ByteArray} {v : Value} (h : (E.map (·.1)).Nodup) : ((put E k v).map (·.1)).Nodup := by
  rw [put_keys]
  by_cases hs : (look E k).isSome = true
  · rw [if_pos hs]; exact h
  · rw [if_neg hs, List.nodup_append]
    refine ⟨h, by simp, fun a ha b hb e => ?_⟩
    simp only [List.mem_singleton] at hb
    subst hb e
    exact look_none_iff.1 (by simpa using hs) ha

theorem findA_snoc (l : List FileA) (f : FileA) (n : ByteArray) : findA (l ++ [f]) n = (findA l n).or (if f.name = n then some f else none) := by
  unfold findA
  rw [List.find?_append]
  congr 1
  by_cases h : f.name = n
  · rw [if_pos h]; simp [beq_bytes, h]
  · rw [if_neg h]; simp [beq_bytes, h]

theorem findA_dropA (l : List FileA) (k n : ByteArray) : findA (dropA l k) n = if n = k then none else findA l n := by
  unfold findA dropA
  rw [List.find?_filter]
  by_cases h : n = k
  · rw [if_pos h, List.find?_eq_none]
    intro f _
    subst h
    simp [beq_bytes]
  · rw [if_neg h]
    congr 1
    funext f
    by_cases hf : f.name = n
    · have : ¬ f.name = k := fun e => h (hf.symm.trans e)
      simp [beq_bytes, hf, h]
    · simp [beq_bytes, hf]

/-- The book tells, name by name, the bytes of the files. -/
structure Book (w : World) (m : Nat) (E : Ents) (D : List FileA) : Prop where
  map : MapIs w m E
  keys : (E.map (·.1)).Nodup
  len : E.length = D.length
  none' : ∀ n, findA D n = none → look E n = none
  some' : ∀ n f, findA D n = some f → ∃ v, look E n = some v ∧ DataIs w v f.data
  apart : ∀ p ∈ E, ∀ k, p.2.ownBlock = some k → k ≠ m ∧ k < w.heap.size

theorem look_mem {E : Ents} {n : ByteArray} {v : Value} (h : look E n = some v) : (n, v) ∈ E := by
  unfold look at h
  obtain ⟨p, hp, rfl⟩ := Option.map_eq_some_iff.1 h
  have h1 := List.mem_of_find?_eq_some hp
  have h2 := List.find?_some hp
  simp only [beq_bytes, decide_eq_true_eq] at h2
  rw [← h2]; exact h1

theorem Book.keep {S : Nat → Prop} {w w' : World} {m : Nat} {E : Ents} {D : List FileA} (h : Book w m E D) (hu : Upd S w w') (hm : ¬ S m) (hn : ∀ p ∈ E, ∀ k, p.2.ownBlock = some k → ¬ S k) : Book w' m E D :=
  ⟨h.map.upd hu hm, h.keys, h.len, h.none', fun n f hf => by
    obtain ⟨v, hv, hd⟩ := h.some' n f hf
    exact ⟨v, hv, hd.upd hu (fun k hk => hn _ (look_mem hv) k hk)⟩, fun p hp k hk => ⟨(h.apart p hp k hk).1, Nat.lt_of_lt_of_le (h.apart p hp k hk).2 hu.size⟩⟩

/-- The book of other files, name by name with the same bytes. -/
theorem Book.same {w : World} {m : Nat} {E : Ents} {D D' : List FileA} (h : Book w m E D) (hl : D'.length = D.length) (hf : ∀ n, (findA D' n).map (·.data) = (findA D n).map (·.data)) : Book w m E D' :=
  ⟨h.map, h.keys, h.len.trans hl.symm, fun n hn => h.none' n (by have := hf n; rw [hn] at this; cases hc : findA D n with | none => rfl | some f => rw [hc] at this; cases this), fun n f hn => by
    have := hf n
    rw [hn] at this
    cases hc : findA D n with
    | none => rw [hc] at this; cases this
    | some g =>
      rw [hc] at this
      obtain ⟨v, hv, hd⟩ := h.some' n g hc
      have e : f.data = g.data := by simpa using this
      exact ⟨v, hv, by rw [e]; exact hd⟩, h.apart⟩

/-- A value is put under a name. -/
theorem Book.put {w w' : World} {m : Nat} {E : Ents} {D D' : List FileA} (h : Book w m E D) {n : ByteArray} {v : Value} {bs : List UInt8} (hu : Upd (fun k => k = m) w w') (hm : MapIs w' m (put E n v))
    (hv : DataIs w' v bs) (hvm : ∀ k, v.ownBlock = some k → k ≠ m) (hl : D'.length = if (findA D n).isSome then D.length else D.length + 1)
    (hf : ∀ k, (findA D' k).map (·.data) = if k = n then some bs else (findA D k).map (·.data)) : Book w' m (put E n v) D' := by
  have hsome : (look E n).isSome = (findA D n).isSome := by
    cases hc : findA D n with
    | none => rw [h.none' n hc]; rfl
    | some f => obtain ⟨v', hv', -⟩ := h.some' n f hc; rw [hv']; rfl
  refine ⟨hm, put_nodup h.keys, ?_, fun k hk => ?_, fun k f hk => ?_, fun p hp k hk => ?_⟩
  · rw [put_length, hsome, hl, h.len]
  · have := hf k
    rw [hk] at this
    rw [look_put]
    by_cases e : k = n
    · rw [if_pos e] at this; cases this
    · rw [if_neg e] at this
      rw [if_neg e]
      refine h.none' k ?_
      cases hc : findA D k with
      | none => rfl
      | some g => rw [hc] at this; cases this
  · have := hf k
    rw [hk] at this
    rw [look_put]
    by_cases e : k = n
    · rw [if_pos e] at this
      rw [if_pos e]
      have e2 : f.data = bs := by simpa using this
      exact ⟨v, rfl, by rw [e2]; exact hv⟩
    · rw [if_neg e] at this
      rw [if_neg e]
      cases hc : findA D k with
      | none => rw [hc] at this; cases this
      | some g =>
        rw [hc] at this
        obtain ⟨v', hv', hd⟩ := h.some' k g hc
        have e2 : f.data = g.data := by simpa using this
        exact ⟨v', hv', by rw [e2]; exact hd.upd hu (fun j hj => (h.apart _ (look_mem hv') j hj).1)⟩
  · rcases mem_put E n v p hp with hp | hp
    · exact ⟨(h.apart p hp k hk).1, Nat.lt_of_lt_of_le (h.apart p hp k hk).2 hu.size⟩
    · rw [hp] at hk
      exact ⟨hvm k hk, hv.lt k hk⟩

/-- A name is struck. -/
theorem Book.del {w w' : World} {m : Nat} {E : Ents} {D D' : List FileA} (h : Book w m E D) {n : ByteArray} (hu : Upd (fun k => k = m) w w') (hm : MapIs w' m (del E n)) (hs : (findA D n).isSome = true) (hl : D'.length + 1 = D.length)
    (hf : ∀ k, (findA D' k).map (·.data) = if k = n then none else (findA D k).map (·.data)) : Book w' m (del E n) D' := by
  have hsome : (look E n).isSome = true := by
    cases hc : findA D n with
    | none => rw [hc] at hs; cases hs
    | some f => obtain ⟨v', hv', -⟩ := h.some' n f hc; rw [hv']; rfl
  refine ⟨hm, (h.keys).sublist ((del_sub E n).map _), ?_, fun k hk => ?_, fun k f hk => ?_, fun p hp k hk => ?_⟩
  · have := del_length E n hsome
    have := h.len
    omega
  · rw [look_del E n k h.keys]
    by_cases e : k = n
    · rw [if_pos e]
    · rw [if_neg e]
      have := hf k
      rw [hk, if_neg e] at this
      refine h.none' k ?_
      cases hc : findA D k with
      | none => rfl
      | some g => rw [hc] at this; cases this
  · rw [look_del E n k h.keys]
    have := hf k
    rw [hk] at this
    by_cases e : k = n
    · rw [if_pos e] at this; cases this
    · rw [if_neg e] at this
      rw [if_neg e]
      cases hc : findA D k with
      | none => rw [hc] at this; cases this
      | some g =>
        rw [hc] at this
        obtain ⟨v', hv', hd⟩ := h.some' k g hc
        have e2 : f.data = g.data := by simpa using this
        exact ⟨v', hv', by rw [e2]; exact hd.upd hu (fun j hj => (h.apart _ (look_mem hv') j hj).1)⟩
  · have hp' := (del_sub E n).subset hp
    exact ⟨(h.apart p hp' k hk).1, Nat.lt_of_lt_of_le (h.apart p hp' k hk).2 hu.size⟩

end Go.Proofs.YtohpgmeflmppaaaGreat

namespace Go.Proofs.YtohpgmeflmppaaaGreat
set_option linter.unusedVariables false
set_option linter.unusedSimpArgs false
set_option linter.unnecessarySimpa false
set_option linter.unusedSectionVars false
open Go Go.RowKit

theorem dropA_none {l : List FileA} {n : ByteArray} (h : findA l n = none) : dropA l n = l := by
  unfold dropA
  rw [List.filter_eq_self]
  intro f hf
  unfold findA at h
  rw [List.find?_eq_none] at h
  have := h f hf
  simpa [beq_bytes] using this

theorem dropA_length : ∀ {l : List FileA}, (l.map (·.name)).Nodup → ∀ {n : ByteArray}, (findA l n).isSome = true → (dropA l n).length + 1 = l.length
  | [], _, n, h => by simp [findA] at h
  | f :: t, hnd, n, h => by
    simp only [List.map_cons, List.nodup_cons] at hnd
    by_cases hf : f.name = n
    · have ht : findA t n = none := by
        unfold findA
        rw [List.find?_eq_none]
        intro g hg e
        simp only [beq_bytes, decide_eq_true_eq] at e
        exact hnd.1 (by rw [hf, ← e]; exact List.mem_map_of_mem hg)
      have := dropA_none ht
      unfold dropA at this ⊢
      rw [List.filter_cons, if_neg (by simp [hf]), this]
      simp
    · have ht : (findA t n).isSome = true := by
        unfold findA at h ⊢
        rw [List.find?_cons] at h
        simpa [beq_bytes, hf] using h
      have ih := dropA_length hnd.2 ht
      unfold dropA at ih ⊢
      rw [List.filter_cons, if_pos (by simp [hf])]
      simp only [List.length_cons]
      omega

theorem dropA_nodup {l : List FileA} (h : (l.map (·.name)).Nodup) (n : ByteArray) : ((dropA l n).map (·.name)).Nodup := h.sublist ((List.filter_sublist).map _)

theorem Book.created {w w' : World} {m : Nat} {E : Ents} {D : List FileA} (h : Book w m E D) {n : ByteArray} (hn : findA D n = none) (hu : Upd (fun k => k = m) w w') (hm : MapIs w' m (Proofs.YtohpgmeflmppaaaGreat.put E n (.slice none 0 0))) :
    Book w' m (Proofs.YtohpgmeflmppaaaGreat.put E n (.slice none 0 0)) (D ++ [⟨n, [], 0⟩]) := by
  refine h.put hu hm (bs := []) (.inl ⟨rfl, rfl⟩) (fun k hk => by cases hk) (by rw [hn]; simp) (fun k => ?_)
  rw [findA_snoc]
  by_cases e : k = n
  · subst e; rw [if_pos rfl, hn]; simp
  · rw [if_neg e, if_neg (fun e' => e e'.symm)]; simp

theorem Book.appended {w w' : World} {m : Nat} {E : Ents} {D : List FileA} (h : Book w m E D) {n : ByteArray} {f : FileA} {bs : List UInt8} {v : Value} (hn : findA D n = some f) (hu : Upd (fun k => k = m) w w')
    (hm : MapIs w' m (Proofs.YtohpgmeflmppaaaGreat.put E n v)) (hv : DataIs w' v (f.data ++ bs)) (hvm : ∀ k, v.ownBlock = some k → k ≠ m) : Book w' m (Proofs.YtohpgmeflmppaaaGreat.put E n v) (updA D n (fun f => { f with data := f.data ++ bs })) := by
  refine h.put hu hm hv hvm (by rw [hn]; simp [updA]) (fun k => ?_)
  rw [findA_updA D n k (fun f => { f with data := f.data ++ bs }) (fun _ => rfl)]
  by_cases e : k = n
  · subst e
    rw [if_pos rfl, hn]
    simp [findA_name hn]
  · rw [if_neg e]
    cases hc : findA D k with
    | none => rfl
    | some g =>
      have := findA_name hc
      simp [this, e]

theorem Book.synced {w : World} {m : Nat} {E : Ents} {D : List FileA} (h : Book w m E D) (n : ByteArray) : Book w m E (updA D n (fun f => { f with synced := f.data.length })) := by
  refine h.same (by simp [updA]) (fun k => ?_)
  rw [findA_updA D n k (fun f => { f with synced := f.data.length }) (fun _ => rfl)]
  cases hc : findA D k with
  | none => rfl
  | some g =>
    simp only [Option.map_some, Option.some.injEq]
    split <;> rfl

theorem Book.deleted {w w' : World} {m : Nat} {E : Ents} {D : List FileA} (h : Book w m E D) (hnd : (D.map (·.name)).Nodup) {n : ByteArray} {f : FileA} (hn : findA D n = some f) (hu : Upd (fun k => k = m) w w')
    (hm : MapIs w' m (Proofs.YtohpgmeflmppaaaGreat.del E n)) : Book w' m (Proofs.YtohpgmeflmppaaaGreat.del E n) (dropA D n) := by
  refine h.del hu hm (by rw [hn]; rfl) (dropA_length hnd (by rw [hn]; rfl)) (fun k => ?_)
  rw [findA_dropA]
  split <;> rfl

theorem Book.renamed {w w' : World} {m : Nat} {E : Ents} {D : List FileA} {n t : ByteArray} {f : FileA} {v : Value} (hnd : (D.map (·.name)).Nodup) (hn : findA D n = some f) (h : Book w m E (dropA D n)) (hu : Upd (fun k => k = m) w w')
    (hm : MapIs w' m (Proofs.YtohpgmeflmppaaaGreat.put E t v)) (hv : DataIs w' v f.data) (hvm : ∀ k, v.ownBlock = some k → k ≠ m) : Book w' m (Proofs.YtohpgmeflmppaaaGreat.put E t v) (renameF D n t f) := by
  have hfn := findA_name hn
  have hl := dropA_length hnd (show (findA D n).isSome = true by rw [hn]; rfl)
  by_cases e : n = t
  · subst e
    have hr : renameF D n n f = D := by unfold renameF; rw [if_pos rfl]
    rw [hr]
    refine h.put hu hm hv hvm (by rw [findA_dropA, if_pos rfl]; simp; omega) (fun k => ?_)
    rw [findA_dropA]
    by_cases ek : k = n
    · subst ek; rw [if_pos rfl, hn]; rfl
    · rw [if_neg ek, if_neg ek]
  · have hr : renameF D n t f = dropA (dropA D t) n ++ [{ f with name := t }] := by unfold renameF; rw [if_neg e]
    rw [hr]
    have htn : ¬ t = n := fun e' => e e'.symm
    refine h.put hu hm hv hvm ?_ (fun k => ?_)
    · rw [findA_dropA, if_neg htn, List.length_append, List.length_singleton]
      have h2 : (findA (dropA D t) n).isSome = true := by rw [findA_dropA, if_neg e, hn]; rfl
      have hl2 := dropA_length (dropA_nodup hnd t) h2
      by_cases hs : (findA D t).isSome = true
      · have hl3 := dropA_length hnd hs
        rw [if_pos hs]; omega
      · have := dropA_none (l := D) (n := t) (by simpa using hs)
        rw [if_neg hs]
        rw [this] at hl2 ⊢
    · rw [findA_snoc, findA_dropA, findA_dropA, findA_dropA]
      by_cases ek : k = t
      · subst ek
        simp [htn]
      · have etk : ¬ t = k := fun e' => ek e'.symm
        by_cases en : k = n
        · subst en
          simp [ek, etk]
        · simp [ek, en, etk]

/-- One act upon a disk that is neither armed nor down. -/
theorem room_step {s s2 : DS} {x : DidA} (hd : s.down = false) (ha : s.armed = 0) (h : s2.abs = (didA s x).2) :
    ((didA s x).1 ≠ 0 ∧ s2.abs.files = s.abs.files) ∨
    ((didA s x).1 = 0 ∧ (x.kind < 1 ∨ 5 < x.kind) ∧ s2.abs.files = s.abs.files) ∨
    ((didA s x).1 = 0 ∧ x.kind = 1 ∧ findA s.abs.files (fileName x.file) = none ∧ s2.abs.files = s.abs.files ++ [⟨fileName x.file, [], 0⟩]) ∨
    ((didA s x).1 = 0 ∧ x.kind = 2 ∧ ∃ f, findA s.abs.files (fileName x.file) = some f ∧ x.b.length ≤ 67108864 ∧ s2.abs.files = updA s.abs.files (fileName x.file) (fun f => { f with data := f.data ++ x.b })) ∨
    ((didA s x).1 = 0 ∧ x.kind = 3 ∧ s2.abs.files = updA s.abs.files (fileName x.file) (fun f => { f with synced := f.data.length })) ∨
    ((didA s x).1 = 0 ∧ x.kind = 4 ∧ ∃ f, findA s.abs.files (fileName x.file) = some f ∧ s2.abs.files = renameF s.abs.files (fileName x.file) (fileName x.to) f) ∨
    ((didA s x).1 = 0 ∧ x.kind = 5 ∧ ∃ f, findA s.abs.files (fileName x.file) = some f ∧ s2.abs.files = dropA s.abs.files (fileName x.file)) := by
  by_cases hk : x.kind < 1 ∨ 5 < x.kind
  · rw [didA_other hk] at h ⊢
    exact .inr (.inl ⟨rfl, hk, by rw [h]⟩)
  have hp := didA_plan (x := x) hd (by omega) (by omega)
  have ha' : s.abs.armed = 0 := ha
  cases hpl : planA s.abs.cap s.abs.files x with
  | inl e =>
    rw [hpl] at hp
    simp only [planRes] at hp
    rw [hp] at h ⊢
    exact .inl ⟨plan_err hpl, by rw [h]⟩
  | inr q =>
    obtain ⟨co, F⟩ := q
    rw [hpl] at hp
    simp only [planRes, actA] at hp
    rw [if_pos ha'] at hp
    rw [hp] at h ⊢
    have hF : s2.abs.files = F := by rw [h]
    rw [hF]
    right; right
    unfold planA at hpl
    have hk' : x.kind = 1 ∨ x.kind = 2 ∨ x.kind = 3 ∨ x.kind = 4 ∨ x.kind = 5 := by omega
    rcases hk' with k | k | k | k | k
    · rw [if_pos k] at hpl
      split at hpl
      · cases hpl
      · rename_i hno
        split at hpl
        · cases hpl
        · simp only [Sum.inr.injEq, Prod.mk.injEq] at hpl
          exact .inl ⟨rfl, k, by simpa using hno, hpl.2.symm⟩
    · rw [if_neg (by omega), if_pos k] at hpl
      split at hpl
      · cases hpl
      · rename_i hb
        split at hpl
        · cases hpl
        · rename_i f hf
          split at hpl
          · cases hpl
          · simp only [Sum.inr.injEq, Prod.mk.injEq] at hpl
            exact .inr (.inl ⟨rfl, k, f, hf, by omega, hpl.2.symm⟩)
    · rw [if_neg (by omega), if_neg (by omega), if_pos k] at hpl
      split at hpl
      · simp only [Sum.inr.injEq, Prod.mk.injEq] at hpl
        exact .inr (.inr (.inl ⟨rfl, k, hpl.2.symm⟩))
      · cases hpl
    · rw [if_neg (by omega), if_neg (by omega), if_neg (by omega), if_pos k] at hpl
      split at hpl
      · cases hpl
      · rename_i f hf
        simp only [Sum.inr.injEq, Prod.mk.injEq] at hpl
        exact .inr (.inr (.inr (.inl ⟨rfl, k, f, hf, hpl.2.symm⟩)))
    · rw [if_neg (by omega), if_neg (by omega), if_neg (by omega), if_neg (by omega)] at hpl
      split at hpl
      · rename_i hs
        simp only [Sum.inr.injEq, Prod.mk.injEq] at hpl
        obtain ⟨f, hf⟩ := Option.isSome_iff_exists.1 hs
        exact .inr (.inr (.inr (.inr ⟨rfl, k, f, hf, hpl.2.symm⟩)))
      · cases hpl

theorem room_any (n : Int) (w : World) : ∃ c : Nat, 1 ≤ c ∧ c ≤ 4096 ∧ Calls Tryz.prog 6 #[.int .i64 n] w fun e w' => e = .returned (.int .i64 c) ∧ w' = w := by
  have hq := Int.mul_tdiv_add_tmod n 4096
  have hb1 : -4096 < n.tmod 4096 := by have := Int.lt_tmod_of_pos n (show (0 : Int) < 4096 by decide); omega
  have hb2 : n.tmod 4096 < 4096 := Int.tmod_lt_of_pos n (by decide)
  obtain ⟨r, hr⟩ : ∃ r, r = n.tmod 4096 := ⟨_, rfl⟩
  rw [← hr] at hb1 hb2
  have hr' := hr.symm
  clear hr hq
  by_cases hneg : r < 0
  · obtain ⟨c, hc⟩ : ∃ c : Nat, (c : Int) = r + 4096 + 1 := ⟨(r + 4096 + 1).toNat, by omega⟩
    refine ⟨c, by omega, by omega, ?_⟩
    rw [hc]
    clear hc
    go_enter Tryz.func6, Tryz.ntmps6
    go_wp2
    go_ret
    exact ⟨rfl, rfl⟩
  · obtain ⟨c, hc⟩ : ∃ c : Nat, (c : Int) = r + 1 := ⟨(r + 1).toNat, by omega⟩
    refine ⟨c, by omega, by omega, ?_⟩
    rw [hc]
    clear hc
    go_enter Tryz.func6, Tryz.ntmps6
    go_wp2
    go_ret
    exact ⟨rfl, rfl⟩

theorem On.other {S : Nat → Prop} {w0 w w' : World} {p : Nat} {s : DS} (h : On w0 w p s) (hu : Upd S w w') (hS : ∀ k, S k → k ∉ s.blocks ∧ w0.heap.size ≤ k) : On w0 w' p s :=
  ⟨h.ins.upd hu (fun k hk hs => (hS k hs).1 hk), h.p, h.low, h.upd.trans hu (fun k hk hs => by have := (hS k hs).2; omega)⟩

end Go.Proofs.YtohpgmeflmppaaaGreat
