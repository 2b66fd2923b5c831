/-
  The book that DiskRoom keeps beside a disk: plain.
-/
import Derived.Test.YtohpgmeflmppaaaLawI
namespace Go.Proofs.Ytohpgmeflmppaaa
set_option linter.unusedVariables false
set_option linter.unusedSimpArgs false
set_option linter.unnecessarySimpa false
set_option linter.unusedSectionVars false
open Go Go.RowKit

abbrev Ents := List (ByteArray × Value)

theorem look_put : ∀ (E : Ents) (k n : ByteArray) (v : Value), look (put E k v) n = if n = k then some v else look E n
  | [], k, n, v => by
    unfold put
    rw [look_cons]
    by_cases h : k = n
    · rw [if_pos h, if_pos h.symm]
    · rw [if_neg h, if_neg (fun e => h e.symm)]
  | p :: E, k, n, v => by
    unfold put
    by_cases hp : p.1 = k
    · rw [if_pos hp, look_cons, look_cons]
      by_cases hn : n = k
      · rw [if_pos (hp.trans hn.symm), if_pos hn]
      · have hpn : ¬ p.1 = n := fun e => hn (e.symm.trans hp)
        rw [if_neg hn, if_neg hpn]
        exact (if_neg hpn).symm
    · rw [if_neg hp, look_cons, look_cons, look_put E k n v]
      by_cases hn : p.1 = n
      · rw [if_pos hn, if_pos hn, if_neg (fun e => hp (hn.trans e))]
      · rw [if_neg hn, if_neg hn]

theorem look_none_iff {E : Ents} {n : ByteArray} : look E n = none ↔ n ∉ E.map (·.1) := by
  unfold look
  simp only [Option.map_eq_none_iff, List.find?_eq_none, List.mem_map, not_exists, not_and]
  constructor
  · intro h p hp e
    exact h p hp (by simp [beq_bytes, e])
  · intro h p hp e
    exact h p hp (by simpa [beq_bytes] using e)

theorem look_del : ∀ (E : Ents) (k n : ByteArray), (E.map (·.1)).Nodup → look (del E k) n = if n = k then none else look E n
  | [], k, n, _ => by unfold del; split <;> rfl
  | p :: E, k, n, hnd => by
    simp only [List.map_cons, List.nodup_cons] at hnd
    unfold del
    by_cases hp : p.1 = k
    · rw [if_pos hp, look_cons]
      by_cases hn : n = k
      · rw [if_pos hn, hn]
        exact look_none_iff.2 (hp ▸ hnd.1)
      · rw [if_neg hn, if_neg (fun e => hn (e.symm.trans hp))]
    · rw [if_neg hp, look_cons, look_cons, look_del E k n hnd.2]
      by_cases hn : p.1 = n
      · rw [if_pos hn, if_pos hn, if_neg (fun e => hp (hn.trans e))]
      · rw [if_neg hn, if_neg hn]

theorem put_keys : ∀ (E : Ents) (k : ByteArray) (v : Value), (put E k v).map (·.1) = if (look E k).isSome then E.map (·.1) else E.map (·.1) ++ [k]
  | [], k, v => by simp [put, look]
  | p :: E, k, v => by
    unfold put
    rw [look_cons]
    by_cases hp : p.1 = k
    · simp [hp]
    · rw [if_neg hp, if_neg hp, List.map_cons, put_keys E k v]
      split <;> simp

theorem del_sub : ∀ (E : Ents) (k : ByteArray), (del E k).Sublist E
  | [], k => List.Sublist.refl _
  | p :: E, k => by
    unfold del
    split
    · exact List.sublist_cons_self _ _
    · exact (del_sub E k).cons_cons _

theorem del_length : ∀ (E : Ents) (k : ByteArray), (look E k).isSome = true → (del E k).length + 1 = E.length
  | [], k, h => by simp [look] at h
  | p :: E, k, h => by
    unfold del
    rw [look_cons] at h
    by_cases hp : p.1 = k
    · simp [hp]
    · rw [if_neg hp] at h
      rw [if_neg hp]
      have := del_length E k h
      simp only [List.length_cons]
      omega

theorem put_length (E : Ents) (k : ByteArray) (v : Value) : (put E k v).length = if (look E k).isSome then E.length else E.length + 1 := by
  have h := congrArg List.length (put_keys E k v)
  rw [List.length_map] at h
  rw [h]
  split <;> simp

theorem mem_put : ∀ (E : Ents) (k : ByteArray) (v : Value) (p : ByteArray × Value), p ∈ put E k v → p ∈ E ∨ p.2 = v
  | [], k, v, p, h => by simp [put] at h; exact .inr (by rw [h])
  | q :: E, k, v, p, h => by
    unfold put at h
    split at h
    · rcases List.mem_cons.1 h with h | h
      · exact .inr (by rw [h])
      · exact .inl (by simp [h])
    · rcases List.mem_cons.1 h with h | h
      · exact .inl (by simp [h])
      · exact (mem_put E k v p h).imp (fun h => by simp [h]) id

theorem put_nodup {E : Ents} {k : ByteArray} {v : Value} (h : (E.map (·.1)).Nodup) : ((put E k v).map (·.1)).Nodup := by
  rw [put_keys]
  by_cases hs : (look E k).isSome = true
  · rw [if_pos hs]; exact h
  · rw [if_neg hs, List.nodup_append]
    refine ⟨h, by simp, fun a ha b hb e => ?_⟩
    simp only [List.mem_singleton] at hb
    subst hb e
    exact look_none_iff.1 (by simpa using hs) ha

theorem findA_snoc (l : List FileA) (f : FileA) (n : ByteArray) : findA (l ++ [f]) n = (findA l n).or (if f.name = n then some f else none) := by
  unfold findA
  rw [List.find?_append]
  congr 1
  by_cases h : f.name = n
  · rw [if_pos h]; simp [beq_bytes, h]
  · rw [if_neg h]; simp [beq_bytes, h]

theorem findA_dropA (l : List FileA) (k n : ByteArray) : findA (dropA l k) n = if n = k then none else findA l n := by
  unfold findA dropA
  rw [List.find?_filter]
  by_cases h : n = k
  · rw [if_pos h, List.find?_eq_none]
    intro f _
    subst h
    simp [beq_bytes]
  · rw [if_neg h]
    congr 1
    funext f
    by_cases hf : f.name = n
    · have : ¬ f.name = k := fun e => h (hf.symm.trans e)
      simp [beq_bytes, hf, h]
    · simp [beq_bytes, hf]

/-- The book tells, name by name, the bytes of the files. -/
structure Book (w : World) (m : Nat) (E : Ents) (D : List FileA) : Prop where
  map : MapIs w m E
  keys : (E.map (·.1)).Nodup
  len : E.length = D.length
  none' : ∀ n, findA D n = none → look E n = none
  some' : ∀ n f, findA D n = some f → ∃ v, look E n = some v ∧ DataIs w v f.data
  apart : ∀ p ∈ E, ∀ k, p.2.ownBlock = some k → k ≠ m ∧ k < w.heap.size

theorem look_mem {E : Ents} {n : ByteArray} {v : Value} (h : look E n = some v) : (n, v) ∈ E := by
  unfold look at h
  obtain ⟨p, hp, rfl⟩ := Option.map_eq_some_iff.1 h
  have h1 := List.mem_of_find?_eq_some hp
  have h2 := List.find?_some hp
  simp only [beq_bytes, decide_eq_true_eq] at h2
  rw [← h2]; exact h1

theorem Book.keep {S : Nat → Prop} {w w' : World} {m : Nat} {E : Ents} {D : List FileA} (h : Book w m E D) (hu : Upd S w w') (hm : ¬ S m) (hn : ∀ p ∈ E, ∀ k, p.2.ownBlock = some k → ¬ S k) : Book w' m E D :=
  ⟨h.map.upd hu hm, h.keys, h.len, h.none', fun n f hf => by
    obtain ⟨v, hv, hd⟩ := h.some' n f hf
    exact ⟨v, hv, hd.upd hu (fun k hk => hn _ (look_mem hv) k hk)⟩, fun p hp k hk => ⟨(h.apart p hp k hk).1, Nat.lt_of_lt_of_le (h.apart p hp k hk).2 hu.size⟩⟩

/-- The book of other files, name by name with the same bytes. -/
theorem Book.same {w : World} {m : Nat} {E : Ents} {D D' : List FileA} (h : Book w m E D) (hl : D'.length = D.length) (hf : ∀ n, (findA D' n).map (·.data) = (findA D n).map (·.data)) : Book w m E D' :=
  ⟨h.map, h.keys, h.len.trans hl.symm, fun n hn => h.none' n (by have := hf n; rw [hn] at this; cases hc : findA D n with | none => rfl | some f => rw [hc] at this; cases this), fun n f hn => by
    have := hf n
    rw [hn] at this
    cases hc : findA D n with
    | none => rw [hc] at this; cases this
    | some g =>
      rw [hc] at this
      obtain ⟨v, hv, hd⟩ := h.some' n g hc
      have e : f.data = g.data := by simpa using this
      exact ⟨v, hv, by rw [e]; exact hd⟩, h.apart⟩

/-- A value is put under a name. -/
theorem Book.put {w w' : World} {m : Nat} {E : Ents} {D D' : List FileA} (h : Book w m E D) {n : ByteArray} {v : Value} {bs : List UInt8} (hu : Upd (fun k => k = m) w w') (hm : MapIs w' m (put E n v))
    (hv : DataIs w' v bs) (hvm : ∀ k, v.ownBlock = some k → k ≠ m) (hl : D'.length = if (findA D n).isSome then D.length else D.length + 1)
    (hf : ∀ k, (findA D' k).map (·.data) = if k = n then some bs else (findA D k).map (·.data)) : Book w' m (put E n v) D' := by
  have hsome : (look E n).isSome = (findA D n).isSome := by
    cases hc : findA D n with
    | none => rw [h.none' n hc]; rfl
    | some f => obtain ⟨v', hv', -⟩ := h.some' n f hc; rw [hv']; rfl
  refine ⟨hm, put_nodup h.keys, ?_, fun k hk => ?_, fun k f hk => ?_, fun p hp k hk => ?_⟩
  · rw [put_length, hsome, hl, h.len]
  · have := hf k
    rw [hk] at this
    rw [look_put]
    by_cases e : k = n
    · rw [if_pos e] at this; cases this
    · rw [if_neg e] at this
      rw [if_neg e]
      refine h.none' k ?_
      cases hc : findA D k with
      | none => rfl
      | some g => rw [hc] at this; cases this
  · have := hf k
    rw [hk] at this
    rw [look_put]
    by_cases e : k = n
    · rw [if_pos e] at this
      rw [if_pos e]
      have e2 : f.data = bs := by simpa using this
      exact ⟨v, rfl, by rw [e2]; exact hv⟩
    · rw [if_neg e] at this
      rw [if_neg e]
      cases hc : findA D k with
      | none => rw [hc] at this; cases this
      | some g =>
        rw [hc] at this
        obtain ⟨v', hv', hd⟩ := h.some' k g hc
        have e2 : f.data = g.data := by simpa using this
        exact ⟨v', hv', by rw [e2]; exact hd.upd hu (fun j hj => (h.apart _ (look_mem hv') j hj).1)⟩
  · rcases mem_put E n v p hp with hp | hp
    · exact ⟨(h.apart p hp k hk).1, Nat.lt_of_lt_of_le (h.apart p hp k hk).2 hu.size⟩
    · rw [hp] at hk
      exact ⟨hvm k hk, hv.lt k hk⟩

/-- A name is struck. -/
theorem Book.del {w w' : World} {m : Nat} {E : Ents} {D D' : List FileA} (h : Book w m E D) {n : ByteArray} (hu : Upd (fun k => k = m) w w') (hm : MapIs w' m (del E n)) (hs : (findA D n).isSome = true) (hl : D'.length + 1 = D.length)
    (hf : ∀ k, (findA D' k).map (·.data) = if k = n then none else (findA D k).map (·.data)) : Book w' m (del E n) D' := by
  have hsome : (look E n).isSome = true := by
    cases hc : findA D n with
    | none => rw [hc] at hs; cases hs
    | some f => obtain ⟨v', hv', -⟩ := h.some' n f hc; rw [hv']; rfl
  refine ⟨hm, (h.keys).sublist ((del_sub E n).map _), ?_, fun k hk => ?_, fun k f hk => ?_, fun p hp k hk => ?_⟩
  · have := del_length E n hsome
    have := h.len
    omega
  · rw [look_del E n k h.keys]
    by_cases e : k = n
    · rw [if_pos e]
    · rw [if_neg e]
      have := hf k
      rw [hk, if_neg e] at this
      refine h.none' k ?_
      cases hc : findA D k with
      | none => rfl
      | some g => rw [hc] at this; cases this
  · rw [look_del E n k h.keys]
    have := hf k
    rw [hk] at this
    by_cases e : k = n
    · rw [if_pos e] at this; cases this
    · rw [if_neg e] at this
      rw [if_neg e]
      cases hc : findA D k with
      | none => rw [hc] at this; cases this
      | some g =>
        rw [hc] at this
        obtain ⟨v', hv', hd⟩ := h.some' k g hc
        have e2 : f.data = g.data := by simpa using this
        exact ⟨v', hv', by rw [e2]; exact hd.upd hu (fun j hj => (h.apart _ (look_mem hv') j hj).1)⟩
  · have hp' := (del_sub E n).subset hp
    exact ⟨(h.apart p hp' k hk).1, Nat.lt_of_lt_of_le (h.apart p hp' k hk).2 hu.size⟩

end Go.Proofs.Ytohpgmeflmppaaa
