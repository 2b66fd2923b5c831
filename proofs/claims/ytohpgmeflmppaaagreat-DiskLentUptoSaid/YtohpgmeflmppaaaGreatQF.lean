/-
  Lists that were handed out and lie untouched, in memory: rows of any element; what a push, a mark and a growth leave. No walk stands here.
  Lists that were handed out and lie untouched, in memory: who owns what; what one more of them leaves. No walk stands here.
  Package stratalaw1's Book, walked: only, Keep, Untouched.
  Lists that were handed out are written full, then lengthened: what each round leaves. No walk stands here.
  Package stratalaw1's Book, walked: Settle.
-/
import Derived.Test.YtohpgmeflmppaaaGreatQA
namespace Go.Proofs.YtohpgmeflmppaaaGreat
set_option linter.unusedVariables false
set_option linter.unusedSimpArgs false
set_option linter.unnecessarySimpa false
set_option linter.unusedSectionVars false
open Go Go.RowKit

/-- T is the type of slices of E; an element has z cells and b bytes. -/
structure RowTy (T E : TypeId) (z b : Nat) : Prop where
  und : Tryz.prog.underlying T = some (.slice E)
  info : ∃ i0 zz, Tryz.prog.info? E = some i0 ∧ i0.zero = some zz ∧ i0.size = z ∧ i0.bytes = b ∧ zz.cells.size = z
  pos : 0 < z
  few : b ≤ 64

theorem rowBytes : RowTy 38 5 1 1 := by
  obtain ⟨i0, hi, hz0, hz1, hz2⟩ := info_parts Tryz.infoByte
  exact ⟨Tryz.underlying38, ⟨i0, _, hi, hz0, hz1, hz2, rfl⟩, by decide, by decide⟩
theorem rowLists : RowTy 27 38 1 24 := by
  obtain ⟨i0, hi, hz0, hz1, hz2⟩ := info_parts Tryz.infoBytes
  exact ⟨Tryz.underlying27, ⟨i0, _, hi, hz0, hz1, hz2, rfl⟩, by decide, by decide⟩
theorem Tryz.infoStr1 : (Tryz.prog.info? 9).map (fun i => (i.zero, i.size, i.bytes)) = some (some (.string ByteArray.empty), 1, 16) := by kernel_rfl
theorem Tryz.infoStrs : (Tryz.prog.info? 59).map (fun i => (i.zero, i.size, i.bytes)) = some (some (.slice none 0 0), 1, 24) := by kernel_rfl
theorem Tryz.infoFiles1 : (Tryz.prog.info? 40).map (fun i => (i.zero, i.size, i.bytes)) = some (some (.slice none 0 0), 1, 24) := by kernel_rfl
theorem rowStrs : RowTy 59 9 1 16 := by
  obtain ⟨i0, hi, hz0, hz1, hz2⟩ := info_parts Tryz.infoStr1
  exact ⟨Tryz.underlying59, ⟨i0, _, hi, hz0, hz1, hz2, rfl⟩, by decide, by decide⟩
theorem rowStrss : RowTy 31 59 1 24 := by
  obtain ⟨i0, hi, hz0, hz1, hz2⟩ := info_parts Tryz.infoStrs
  exact ⟨Tryz.underlying31, ⟨i0, _, hi, hz0, hz1, hz2, rfl⟩, by decide, by decide⟩
theorem rowFiles : RowTy 40 80 3 48 := by
  obtain ⟨i0, hi, hz0, hz1, hz2⟩ := info_parts Tryz.infoFile
  exact ⟨Tryz.underlying40, ⟨i0, _, hi, hz0, hz1, hz2, rfl⟩, by decide, by decide⟩
theorem rowFiless : RowTy 35 40 1 24 := by
  obtain ⟨i0, hi, hz0, hz1, hz2⟩ := info_parts Tryz.infoFiles1
  exact ⟨Tryz.underlying35, ⟨i0, _, hi, hz0, hz1, hz2, rfl⟩, by decide, by decide⟩

/-- v is a row of n elements of z cells each, in a block of its own (or nil, of none). -/
def SRow (w : World) (E : TypeId) (z : Nat) (v : Value) (n : Nat) (xs : List Value) : Prop :=
  xs.length = n * z ∧ ((v = .slice none 0 0 ∧ n = 0) ∨ ∃ g cap cur, v = .slice (some ⟨g, 0, none⟩) n cap ∧ w.heap[g]? = some (.cells cur E (0, 0)) ∧ n ≤ cap ∧ cap ≤ maxLen ∧ cap * z ≤ cur.size ∧ cur.toList.take (n * z) = xs)

theorem SRow.of_owns {w : World} {base z n : Nat} {E : TypeId} {v : Value} {xs : List Value} (h : w.ownsRow base E z v n xs) : SRow w E z v n xs := by
  refine ⟨h.1, h.2.imp id ?_⟩
  rintro ⟨g, cap, cur, hv, -, hg, h1, h2, h3, h4⟩
  exact ⟨g, cap, cur, hv, hg, h1, h2, Nat.le_of_eq h3.symm, h4⟩

theorem SRow.nil (w : World) (E : TypeId) (z : Nat) : SRow w E z (.slice none 0 0) 0 [] := ⟨by simp, .inl ⟨rfl, rfl⟩⟩

theorem SRow.of_data {w : World} {v : Value} {bs : List UInt8} (h : DataIs w v bs) : SRow w 5 1 v bs.length (bs.map byteV) := by
  refine ⟨by simp, ?_⟩
  rcases h with ⟨rfl, rfl⟩ | ⟨g, cap, cur, rfl, hg, h1, h2, h3, h4⟩
  · exact .inl ⟨rfl, rfl⟩
  · exact .inr ⟨g, cap, cur, rfl, hg, h1, h3, by rw [Nat.mul_one]; exact h2, by simpa using h4⟩

theorem SRow.data {w : World} {v : Value} {n : Nat} {bs : List UInt8} (h : SRow w 5 1 v n (bs.map byteV)) : DataIs w v bs := by
  have hn : n = bs.length := by have := h.1; simpa using this.symm
  subst hn
  rcases h.2 with ⟨rfl, h0⟩ | ⟨g, cap, cur, rfl, hg, h1, h2, h3, h4⟩
  · exact .inl ⟨rfl, List.eq_nil_of_length_eq_zero h0⟩
  · exact .inr ⟨g, cap, cur, rfl, hg, h1, by rw [Nat.mul_one] at h3; exact h3, h2, by simpa using h4⟩

theorem SRow.upd {S : Nat → Prop} {w w' : World} {E : TypeId} {z n : Nat} {v : Value} {xs : List Value} (h : SRow w E z v n xs) (hu : Upd S w w') (hn : ∀ k, v.ownBlock = some k → ¬ S k) : SRow w' E z v n xs := by
  obtain ⟨hl, h⟩ := h
  refine ⟨hl, ?_⟩
  rcases h with h | ⟨g, cap, cur, rfl, hg, r⟩
  · exact .inl h
  · exact .inr ⟨g, cap, cur, rfl, hu.get hg (hn g rfl), r⟩

theorem SRow.lt {w : World} {E : TypeId} {z n : Nat} {v : Value} {xs : List Value} (h : SRow w E z v n xs) (k : Nat) (hk : v.ownBlock = some k) : k < w.heap.size := by
  rcases h.2 with ⟨rfl, _⟩ | ⟨g, cap, cur, rfl, hg, _⟩
  · cases hk
  · cases hk; exact lt_of_heap hg

theorem SRow.set {w : World} {E : TypeId} {z n m : Nat} {v u : Value} {xs : List Value} (h : SRow w E z v n xs) (hm : m < n * z) : ∃ g cap old, v = .slice (some ⟨g, 0, none⟩) n cap ∧ SRow (w.setCell ⟨g, m, none⟩ u) E z v n (xs.set m u) ∧
    w.cell? ⟨g, m, none⟩ = some old ∧ w.frozen? ⟨g, m, none⟩ = false ∧ g < w.heap.size ∧ n ≤ cap ∧ cap ≤ 9223372036854775807 := by
  obtain ⟨hl, hr⟩ := h
  rcases hr with ⟨rfl, hz⟩ | ⟨g, cap, cur, rfl, hg, h1, h2, h3, h4⟩
  · subst hz; simp at hm
  · have hlt : m < cur.size := Nat.lt_of_lt_of_le hm (Nat.le_trans (Nat.mul_le_mul_right _ h1) h3)
    refine ⟨g, cap, cur[m], rfl, ⟨by simpa using hl, .inr ⟨g, cap, cur.setIfInBounds m u, rfl, heap_setCell_at _ _ _ _ _ _ hg, h1, h2, by simpa using h3, ?_⟩⟩, ?_, frozen_of_row _ _ _ _ _ hg, lt_of_heap hg, h1, by simpa [maxLen] using h2⟩
    · rw [Array.toList_setIfInBounds, List.take_set, h4]
    · rw [cell_of_row _ _ _ _ _ _ hg, Array.getElem?_eq_getElem hlt]

theorem SRow.cells {w : World} {E : TypeId} {z n g c o : Nat} {v : Value} {xs : List Value} (h : SRow w E z v n xs) (hv : v = .slice (some ⟨g, o, none⟩) n c) : ∀ j u, xs[j]? = some u → w.cell? ((⟨g, o, none⟩ : Addr).add j) = some u := by
  intro j u hu
  rcases h.2 with ⟨e, _⟩ | ⟨g', cap, cur, e, hg, h1, h2, h3, h4⟩
  · rw [hv] at e; cases e
  · rw [hv] at e
    injection e with e1 _ _
    injection e1 with e1
    injection e1 with e1 e2
    subst e1 e2
    rw [show (Addr.add ⟨g, 0, none⟩ j : Addr) = ⟨g, j, none⟩ from by simp [Addr.add_lit], cell_of_row _ _ j _ _ _ hg, ← Array.getElem?_toList]
    rw [← h4, List.getElem?_take] at hu
    split at hu
    · exact hu
    · cases hu

/-- A new array of one element. -/
theorem new_cells (w : World) (E : TypeId) (M : List Value) : ∀ j u, M[j]? = some u → (w.alloc (.cells M.toArray E)).cell? ((⟨w.heap.size, 0, none⟩ : Addr).add j) = some u := by
  intro j u hu
  rw [show (Addr.add ⟨w.heap.size, 0, none⟩ j : Addr) = ⟨w.heap.size, j, none⟩ from by simp [Addr.add_lit], cell_of_row _ _ j _ _ _ (heap_alloc_new w _)]
  simpa using hu

section
variable {T E : TypeId} {z b : Nat}

/-- What an append leaves: it stays in its block, or all of it moves to a new one. -/
theorem RowTy.more (hr : RowTy T E z b) {w : World} {v : Value} {n : Nat} {xs : List Value} (h : SRow w E z v n xs) (a : Addr) (m c : Nat) (news : List Value) (hl : news.length = m * z) (hnews : ∀ j u, news[j]? = some u → w.cell? (a.add j) = some u)
    (h1 : ∀ u ∈ news, u.oneCell' = true) (hn : n + m ≤ 3000000001) (ty : TypeId) :
    ∃ v' w', (Builtin.append_ #[T, T] ty #[v, .slice (some a) m c]).run Tryz.prog w = .ok v' w' ∧ SRow w' E z v' (n + m) (xs ++ news) ∧
      Upd (fun k => v.ownBlock = some k) w w' ∧ (∀ k, v'.ownBlock = some k → v.ownBlock = some k ∨ w.heap.size ≤ k) ∧ (v'.ownBlock = v.ownBlock ∨ Upd (fun _ => False) w w') := by
  obtain ⟨i0, zz, hi, hz0, hz1, hz2, hz3⟩ := hr.info
  have hb := hr.few
  have hby : (n + m) * b ≤ 140737488355328 := Nat.le_trans (Nat.mul_le_mul hn hb) (by decide)
  have hlen : (xs ++ news).length = (n + m) * z := by rw [List.length_append, h.1, hl, Nat.add_mul]
  rcases id h.2 with ⟨rfl, rfl⟩ | ⟨g, cap, cur, rfl, hg, hnc, hcm, hcs, htake⟩
  · have hx : xs = [] := List.eq_nil_of_length_eq_zero (by have := h.1; simpa using this)
    subst hx
    obtain ⟨v', w', hrun, hown, hgr, -, hat⟩ := run_append_own_at (P := Tryz.prog) w 0 T ty E i0 zz z b hr.und hi hz0 hz1 hz2 hz3 hr.pos (.slice none 0 0) 0 [] (World.ownsRow_nil _ _ _ _) a m c news hl hnews h1 (by unfold maxLen; omega) hby (Nat.zero_le _)
    have hu : Upd (fun _ => False) w w' := (Upd.refl _ _).grown hgr (fun k hk _ => by cases hk)
    refine ⟨v', w', hrun, SRow.of_owns hown, hu.mono (fun _ _ e => e.elim), fun k hk => ?_, .inr hu⟩
    rcases hat with h1 | h1
    · exact .inl (h1 ▸ hk)
    · rw [h1] at hk
      injection hk with hk
      exact .inr (by omega)
  · subst hz1
    by_cases hroom : n + m ≤ cap
    · have hfit : n * i0.size + news.length ≤ cur.size := by rw [hl, ← Nat.add_mul]; exact Nat.le_trans (Nat.mul_le_mul_right _ hroom) hcs
      have hr2 := run_append_room (P := Tryz.prog) w T ty E i0 hr.und hi g n cap cur hg a m c news hl hnews h1 hroom hfit
      refine ⟨_, _, hr2, ⟨hlen, .inr ⟨g, cap, _, rfl, setRow_heap w g cur _ E _ hg, hroom, hcm, ?_, ?_⟩⟩, (Upd.refl _ _).grown (row := some g) ⟨rfl, rfl, rfl, by simp, fun k _ hk => setRow_other w g k _ (fun e => hk (by rw [e]))⟩ (fun k hk _ => hk), fun k hk => .inl hk, .inl rfl⟩
      · simp only [List.size_toArray, List.length_append, List.length_take, List.length_drop, Array.length_toList]
        omega
      · rw [htake, ← hlen]
        exact List.take_left
    · have hr2 := run_append_grow (P := Tryz.prog) w T ty E i0 zz hr.und hi hz0 ⟨g, 0, none⟩ n cap xs h.1 (h.cells rfl) a m c news hl hnews (by omega) (by omega) (growslice_fits (by omega) (by rw [hz2]; exact hby))
      have hge := grownCap_ge w (n + m) cap E
      have hcm : grownCap w (n + m) cap E ≤ maxLen := grownCap_le_maxLen w (n + m) cap E (by unfold maxLen; omega)
      refine ⟨_, _, hr2, ⟨hlen, .inr ⟨w.heap.size, _, _, rfl, heap_alloc_new w.drew _, hge, hcm, ?_, ?_⟩⟩, ((Upd.refl _ _).drew).alloc _, fun k hk => .inr (by simp only [Value.ownBlock, Option.some.injEq] at hk; omega), .inr (((Upd.refl _ _).drew).alloc _)⟩
      · apply Nat.le_of_eq
        simp only [Array.size_append, List.size_toArray, size_zeroCells, hz3, h.1, hl]
        rw [← Nat.add_mul, ← Nat.add_mul]
        exact congrArg (fun q => q * i0.size) (by omega)
      · simp only [Array.toList_append, List.append_assoc]
        rw [← List.append_assoc, ← hlen]
        exact List.take_left

/-- One element joins a row. -/
theorem RowTy.push (hr : RowTy T E z b) {w : World} {v : Value} {n : Nat} {xs M : List Value} (h : SRow w E z v n xs) (hM : M.length = z) (h1 : ∀ u ∈ M, u.oneCell' = true) (hn : n ≤ 3000000000) (ty : TypeId) :
    ∃ v' w', (Builtin.append_ #[T, T] ty #[v, .slice (some ⟨w.heap.size, 0, none⟩) 1 1]).run Tryz.prog (w.alloc (.cells M.toArray E)) = .ok v' w' ∧ SRow w' E z v' (n + 1) (xs ++ M) ∧
      Upd (fun k => v.ownBlock = some k) w w' ∧ (∀ k, v'.ownBlock = some k → v.ownBlock = some k ∨ w.heap.size ≤ k) ∧ (v'.ownBlock = v.ownBlock ∨ Upd (fun _ => False) w w') := by
  have hal : Upd (fun _ => False) w (w.alloc (.cells M.toArray E)) := (Upd.refl _ _).alloc _
  obtain ⟨v', w', hrun, hown, hu, hat, hor⟩ := hr.more (w := w.alloc (.cells M.toArray E)) (h.upd hal (fun _ _ h => h)) ⟨w.heap.size, 0, none⟩ 1 1 M (by rw [hM, Nat.one_mul]) (new_cells w E M) h1 (by omega) ty
  have hsz : (w.alloc (.cells M.toArray E)).heap.size = w.heap.size + 1 := by simp
  exact ⟨v', w', hrun, hown, (hal.mono (T := fun k => v.ownBlock = some k) (fun _ _ h => h.elim)).trans hu (fun _ _ h => h), fun k hk => (hat k hk).imp id (fun h => by omega), hor.imp id (fun h => hal.trans h (fun _ _ h => h))⟩

/-- A row joins a row. -/
theorem RowTy.join (hr : RowTy T E z b) {w : World} {v s : Value} {n m : Nat} {xs ys : List Value} (h : SRow w E z v n xs) (hs : SRow w E z s m ys) (h1 : ∀ u ∈ ys, u.oneCell' = true) (hn : n + m ≤ 3000000000) (ty : TypeId) :
    ∃ v' w', (Builtin.append_ #[T, T] ty #[v, s]).run Tryz.prog w = .ok v' w' ∧ SRow w' E z v' (n + m) (xs ++ ys) ∧
      Upd (fun k => v.ownBlock = some k) w w' ∧ (∀ k, v'.ownBlock = some k → v.ownBlock = some k ∨ w.heap.size ≤ k) := by
  obtain ⟨i0, zz, hi, hz0, hz1, hz2, hz3⟩ := hr.info
  rcases id hs.2 with ⟨rfl, rfl⟩ | ⟨g, cap, cur, rfl, hg, q1, q2, q3, q4⟩
  · have hy : ys = [] := List.eq_nil_of_length_eq_zero (by have := hs.1; simpa using this)
    refine ⟨v, w, ?_, by rw [hy, List.append_nil]; exact h, Upd.refl _ _, fun k hk => .inl hk⟩
    rcases h.2 with ⟨rfl, rfl⟩ | ⟨g, cap, cur, rfl, _, hnc, _⟩
    · simp [Builtin.append_, run_underlying hr.und, sizeOf, typeInfo, hi, Builtin.lenOf, Builtin.firstCells]
    · simp [Builtin.append_, run_underlying hr.und, sizeOf, typeInfo, hi, Builtin.lenOf, Builtin.firstCells, hnc, storeCells]
  · obtain ⟨v', w', hrun, hown, hu, hat, -⟩ := hr.more h ⟨g, 0, none⟩ m cap ys hs.1 (hs.cells rfl) h1 (by omega) ty
    exact ⟨v', w', hrun, hown, hu, hat⟩
end

/-- n times the same element. -/
def rep (n : Nat) (M : List Value) : List Value := (List.replicate n M).flatten

theorem rep_length (n : Nat) (M : List Value) : (rep n M).length = n * M.length := by simp [rep]
theorem rep_succ (n : Nat) (M : List Value) : rep (n + 1) M = rep n M ++ M := by simp [rep, List.replicate_succ']
theorem rep_at {n i j : Nat} {M : List Value} (hi : i < n) (hj : j < M.length) : (rep n M)[i * M.length + j]? = some M[j] := by
  induction n with
  | zero => omega
  | succ n ih =>
    rw [rep_succ]
    by_cases h : i < n
    · have h2 : i * M.length + j < (rep n M).length := by
        rw [rep_length]
        have : (i + 1) * M.length ≤ n * M.length := Nat.mul_le_mul_right _ h
        rw [Nat.add_mul] at this
        omega
      rw [List.getElem?_append_left h2]
      exact ih h
    · obtain rfl : i = n := by omega
      rw [List.getElem?_append_right (by rw [rep_length]; omega), rep_length, Nat.add_sub_cancel_left, List.getElem?_eq_getElem hj]
theorem rep_one (n : Nat) (u : Value) : rep n [u] = List.replicate n u := by
  induction n with
  | zero => rfl
  | succ n ih => rw [rep_succ, ih, List.replicate_succ']
theorem rep_map {α : Type} (f : α → Value) (n : Nat) (a : α) : rep n [f a] = (List.replicate n a).map f := by rw [rep_one, List.map_replicate]

/-- v reads as elements that are all M. -/
def FullG (w : World) (v : Value) (M : List Value) : Prop :=
  ∃ ao n c, v = .slice ao n c ∧ n ≤ c ∧ c ≤ 9223372036854775807 ∧ ∀ i, i < n → ∃ g o, ao = some ⟨g, o, none⟩ ∧ g < w.heap.size ∧ ∀ j (hj : j < M.length), w.cell? ⟨g, o + (i * M.length + j), none⟩ = some M[j]

theorem FullG.upd {S : Nat → Prop} {w w' : World} {v : Value} {M : List Value} (h : FullG w v M) (hu : Upd S w w') (hn : ∀ k, v.ownBlock = some k → ¬ S k) : FullG w' v M := by
  obtain ⟨ao, n, c, rfl, h1, h2, h3⟩ := h
  refine ⟨ao, n, c, rfl, h1, h2, fun i hi => ?_⟩
  obtain ⟨g, o, rfl, hg, hc⟩ := h3 i hi
  exact ⟨g, o, rfl, Nat.lt_of_lt_of_le hg hu.size, fun j hj => (World.cell?_of_block (a := ⟨g, o + (i * M.length + j), none⟩) (hu.block g hg (hn g rfl))).trans (hc j hj)⟩

theorem SRow.cell {w : World} {z n : Nat} {E : TypeId} {v : Value} {xs : List Value} (h : SRow w E z v n xs) {k : Nat} {u : Value} (hu : xs[k]? = some u) : ∃ g c, v = .slice (some ⟨g, 0, none⟩) n c ∧ g < w.heap.size ∧ w.cell? ⟨g, k, none⟩ = some u := by
  obtain ⟨hl, h⟩ := h
  rcases h with ⟨rfl, rfl⟩ | ⟨g, cap, cur, rfl, hg, h2, h3, h4, h5⟩
  · have : xs = [] := List.eq_nil_of_length_eq_zero (by simpa using hl)
    subst this
    simp at hu
  · refine ⟨g, cap, rfl, lt_of_heap hg, ?_⟩
    rw [cell_of_row w g k cur _ _ hg, ← Array.getElem?_toList]
    rw [← h5, List.getElem?_take] at hu
    split at hu
    · exact hu
    · cases hu

theorem SRow.slice {w : World} {z n : Nat} {E : TypeId} {v : Value} {xs : List Value} (h : SRow w E z v n xs) : ∃ ao c, v = .slice ao n c ∧ n ≤ c ∧ c ≤ 9223372036854775807 ∧ ∀ a, ao = some a → a.off = 0 ∧ a.spot = none := by
  rcases h.2 with ⟨rfl, hz⟩ | ⟨g, cap, cur, rfl, -, h1, h2, -⟩
  · exact ⟨none, 0, by rw [hz], by omega, by omega, fun a h => by cases h⟩
  · exact ⟨_, cap, rfl, h1, by simpa [maxLen] using h2, fun a h => by cases h; exact ⟨rfl, rfl⟩⟩

theorem FullG.of_owns {w : World} {n : Nat} {E : TypeId} {v : Value} {M : List Value} (h : SRow w E M.length v n (rep n M)) (hM : 0 < M.length) : FullG w v M := by
  obtain ⟨ao, c, rfl, h1, h2, h3⟩ := h.slice
  refine ⟨ao, n, c, rfl, h1, h2, fun i hi => ?_⟩
  obtain ⟨g, c', e, hg, -⟩ := h.cell (rep_at hi hM)
  injection e with e1 _ _
  subst e1
  refine ⟨g, 0, rfl, hg, fun j hj => ?_⟩
  obtain ⟨g', c', e, -, hc⟩ := h.cell (rep_at hi hj)
  injection e with e1 _ _
  injection e1 with e1
  injection e1 with e1
  subst e1
  rw [Nat.zero_add]
  exact hc

/-- A list of one mark all over grows by one more; what it was made of reads as before. -/
theorem RowTy.grow {T E : TypeId} {z b : Nat} (hr : RowTy T E z b) {w : World} {ao : Option Addr} {n c L : Nat} {gv : Value} {M : List Value} (hM : M.length = z) (h1 : ∀ u ∈ M, u.oneCell' = true) (hd : SRow w E z gv L (rep L M)) (hf : FullG w (.slice ao n c) M)
    (hz : ∀ a, ao = some a → a.off = 0 ∧ a.spot = none) (hn : n ≤ L) (hL : L ≤ 3000000000) (ty : TypeId) :
    ∃ gv' w', (Builtin.append_ #[T, T] ty #[gv, .slice (some ⟨w.heap.size, 0, none⟩) 1 1]).run Tryz.prog (w.alloc (.cells M.toArray E)) = .ok gv' w' ∧ SRow w' E z gv' (L + 1) (rep (L + 1) M) ∧ FullG w' (.slice ao n c) M ∧
      Upd (fun k => gv.ownBlock = some k) w w' ∧ ∀ k, gv'.ownBlock = some k → gv.ownBlock = some k ∨ w.heap.size ≤ k := by
  obtain ⟨gv', w', hrun, hown, hu, hat, hor⟩ := hr.push hd hM h1 hL ty
  rw [← rep_succ] at hown
  refine ⟨gv', w', hrun, hown, ?_, hu, hat⟩
  have hpos := hr.pos
  subst hM
  have hfg := FullG.of_owns hown hpos
  by_cases hsame : (Value.slice ao n c).ownBlock = gv.ownBlock
  · by_cases hg : gv'.ownBlock = gv.ownBlock
    · cases ao with
      | none => exact hf.upd hu (fun k hk => by cases hk)
      | some a =>
        obtain ⟨z1, z2⟩ := hz a rfl
        obtain ⟨g, o, s⟩ := a
        simp only at z1 z2
        subst z1 z2
        obtain ⟨ao', n', c', e1, e2, e3, e4⟩ := hf
        injection e1 with i1 i2 i3
        subst i1 i2 i3
        have hgg : gv'.ownBlock = some g := by rw [hg, ← hsame]; rfl
        obtain ⟨ga, ca, rfl, f1, f2, f3⟩ := hown.slice
        obtain ⟨ga', na, ca', e5, -, -, f4⟩ := hfg
        injection e5 with j1 j2 j3
        subst j1 j2 j3
        refine ⟨_, n, c, rfl, e2, e3, fun i hi => ?_⟩
        obtain ⟨gg, oo, q1, q2, q3⟩ := f4 i (by omega)
        subst q1
        obtain ⟨r1, -⟩ := f3 _ rfl
        simp only at r1
        subst r1
        have : gg = g := by simpa [Value.ownBlock] using hgg
        subst this
        exact ⟨gg, 0, rfl, q2, q3⟩
    · exact hf.upd (hor.resolve_left hg) (fun _ _ h => h)
  · exact hf.upd hu (fun k hk e => hsame (by rw [hk, e]))

end Go.Proofs.YtohpgmeflmppaaaGreat

namespace Go.Proofs.YtohpgmeflmppaaaGreat
set_option linter.unusedVariables false
set_option linter.unusedSimpArgs false
set_option linter.unnecessarySimpa false
set_option linter.unusedSectionVars false
open Go Go.RowKit

/-- A list that was handed out, its copy, how many elements, the cells of both. -/
structure KL where
  v : Value
  u : Value
  n : Nat
  xs : List Value
  ys : List Value

structure KP where
  p : Nat
  lv : Value
  wv : Value
  ls : List KL

def KP.ownAt (k : KP) (L q : Nat) : Prop :=
  (L = 0 ∧ q = k.p) ∨ (L = 1 ∧ k.lv.ownBlock = some q) ∨ (L = 2 ∧ k.wv.ownBlock = some q) ∨ ∃ i, ∃ h : i < k.ls.length, (L = 3 + 2 * i ∧ k.ls[i].v.ownBlock = some q) ∨ (L = 4 + 2 * i ∧ k.ls[i].u.ownBlock = some q)
def KP.own (k : KP) (q : Nat) : Prop := ∃ L, k.ownAt L q

structure KP.In (D R E : TypeId) (z : Nat) (w : World) (k : KP) : Prop where
  top : w.heap[k.p]? = some (.cells #[k.lv, k.wv] D (0, 0))
  rowL : SRow w R 1 k.lv k.ls.length (k.ls.map KL.v)
  rowW : SRow w R 1 k.wv k.ls.length (k.ls.map KL.u)
  vs : ∀ i (h : i < k.ls.length), SRow w E z k.ls[i].v k.ls[i].n k.ls[i].xs
  us : ∀ i (h : i < k.ls.length), SRow w E z k.ls[i].u k.ls[i].n k.ls[i].ys
  short : ∀ i (h : i < k.ls.length), k.ls[i].n ≤ 1000000000
  lab : ∃ lab : Nat → Nat, ∀ L q, k.ownAt L q → lab q = L

section
variable {D R E : TypeId} {z : Nat} {w w' : World} {k : KP}

theorem KP.In.one (h : k.In D R E z w) {L L' q : Nat} (h1 : k.ownAt L q) (h2 : k.ownAt L' q) : L = L' := by
  obtain ⟨lab, hl⟩ := h.lab
  exact (hl L q h1).symm.trans (hl L' q h2)

theorem KP.In.lt (h : k.In D R E z w) {q : Nat} (hq : k.own q) : q < w.heap.size := by
  obtain ⟨L, ⟨-, rfl⟩ | ⟨-, hq⟩ | ⟨-, hq⟩ | ⟨i, hi, ⟨-, hq⟩ | ⟨-, hq⟩⟩⟩ := hq
  · exact lt_of_heap h.top
  · exact (h.rowL.lt q hq)
  · exact (h.rowW.lt q hq)
  · exact ((h.vs i hi).lt q hq)
  · exact ((h.us i hi).lt q hq)

theorem KP.oV {i q : Nat} (hi : i < k.ls.length) (h : k.ls[i].v.ownBlock = some q) : k.ownAt (3 + 2 * i) q := .inr (.inr (.inr ⟨i, hi, .inl ⟨rfl, h⟩⟩))
theorem KP.oU {i q : Nat} (hi : i < k.ls.length) (h : k.ls[i].u.ownBlock = some q) : k.ownAt (4 + 2 * i) q := .inr (.inr (.inr ⟨i, hi, .inr ⟨rfl, h⟩⟩))
theorem KP.oL {q : Nat} (h : k.lv.ownBlock = some q) : k.ownAt 1 q := .inr (.inl ⟨rfl, h⟩)
theorem KP.oW {q : Nat} (h : k.wv.ownBlock = some q) : k.ownAt 2 q := .inr (.inr (.inl ⟨rfl, h⟩))
theorem KP.oP : k.ownAt 0 k.p := .inl ⟨rfl, rfl⟩

theorem KP.In.upd {S : Nat → Prop} (h : k.In D R E z w) (hu : Upd S w w') (hn : ∀ q, k.own q → ¬ S q) : k.In D R E z w' :=
  ⟨hu.get h.top (hn _ ⟨_, KP.oP⟩), SRow.upd h.rowL hu (fun q hq => hn q ⟨_, KP.oL hq⟩), SRow.upd h.rowW hu (fun q hq => hn q ⟨_, KP.oW hq⟩),
    fun i hi => SRow.upd (h.vs i hi) hu (fun q hq => hn q ⟨_, KP.oV hi hq⟩), fun i hi => SRow.upd (h.us i hi) hu (fun q hq => hn q ⟨_, KP.oU hi hq⟩), h.short, h.lab⟩

/-- What one more list leaves. -/
structure KStep (D R E : TypeId) (z : Nat) (w w' : World) (k k' : KP) (v : Value) (n : Nat) (xs : List Value) : Prop where
  ins : k'.In D R E z w'
  p : k'.p = k.p
  ls : ∃ u ys, k'.ls = k.ls ++ [⟨v, u, n, xs, ys⟩]
  upd : Upd (fun q => q = k.p ∨ k.lv.ownBlock = some q ∨ k.wv.ownBlock = some q) w w'
  foot : ∀ q, k'.own q → k.own q ∨ v.ownBlock = some q ∨ w.heap.size ≤ q
  lo : ∀ q, k'.lv.ownBlock = some q → k.lv.ownBlock = some q ∨ w.heap.size ≤ q
  wo : ∀ q, k'.wv.ownBlock = some q → k.wv.ownBlock = some q ∨ w.heap.size ≤ q

theorem KP.In.kept (h : k.In D R E z w) {v u lv' wv' : Value} {n : Nat} {xs ys : List Value} {w1 w2 w3 w4 : World} (hv : SRow w E z v n xs) (hvo : ∀ q, v.ownBlock = some q → ¬ k.own q) (hn : n ≤ 1000000000)
    (u1 : Upd (fun _ => False) w w1) (r2 : SRow w2 R 1 lv' (k.ls.length + 1) (k.ls.map KL.v ++ [v])) (u2 : Upd (fun q => k.lv.ownBlock = some q) w1 w2) (o2 : ∀ q, lv'.ownBlock = some q → k.lv.ownBlock = some q ∨ w1.heap.size ≤ q)
    (u3 : Upd (fun _ => False) (w2.setCell ⟨k.p, 0, none⟩ lv') w3) (hu : SRow w3 E z u n ys) (hun : ∀ q, u.ownBlock = some q → w.heap.size ≤ q ∧ ¬ lv'.ownBlock = some q)
    (r4 : SRow w4 R 1 wv' (k.ls.length + 1) (k.ls.map KL.u ++ [u])) (u4 : Upd (fun q => k.wv.ownBlock = some q) w3 w4) (o4 : ∀ q, wv'.ownBlock = some q → k.wv.ownBlock = some q ∨ w3.heap.size ≤ q) :
    KStep D R E z w (w4.setCell ⟨k.p, 1, none⟩ wv') k ⟨k.p, lv', wv', k.ls ++ [⟨v, u, n, xs, ys⟩]⟩ v n xs := by
  have hp := lt_of_heap h.top
  have s1 := u1.size
  have s2 := u2.size
  have s3 : w2.heap.size ≤ w3.heap.size := by have := u3.size; simpa using this
  have s4 := u4.size
  have pl : ¬ k.lv.ownBlock = some k.p := fun e => by have := h.one KP.oP (KP.oL e); omega
  have pw : ¬ k.wv.ownBlock = some k.p := fun e => by have := h.one KP.oP (KP.oW e); omega
  have lw : ∀ q, k.lv.ownBlock = some q → ¬ k.wv.ownBlock = some q := fun q e1 e2 => by have := h.one (KP.oL e1) (KP.oW e2); omega
  have lpl : ∀ q, lv'.ownBlock = some q → ¬ q = k.p := fun q e1 e => by
    subst e
    exact (o2 _ e1).elim pl (fun h => by omega)
  have lpw : ∀ q, wv'.ownBlock = some q → ¬ q = k.p := fun q e1 e => by
    subst e
    exact (o4 _ e1).elim pw (fun h => by omega)
  -- the whole step
  have hU : Upd (fun q => q = k.p ∨ k.lv.ownBlock = some q ∨ k.wv.ownBlock = some q) w (w4.setCell ⟨k.p, 1, none⟩ wv') := by
    refine Upd.setCell (p := ⟨k.p, 1, none⟩) ?_ (fun _ => .inl rfl) _
    refine Upd.trans (w := w3) ?_ u4 (fun q _ e => .inr (.inr e))
    refine Upd.trans (w := w2.setCell ⟨k.p, 0, none⟩ lv') ?_ u3 (fun _ _ e => e.elim)
    refine Upd.setCell (p := ⟨k.p, 0, none⟩) ?_ (fun _ => .inl rfl) _
    exact (u1.mono (fun _ _ e => e.elim)).trans u2 (fun q _ e => .inr (.inl e))
  have hout : ∀ L q, 3 ≤ L → k.ownAt L q → ¬ (q = k.p ∨ k.lv.ownBlock = some q ∨ k.wv.ownBlock = some q) := by
    intro L q hL hq e
    rcases e with rfl | e | e
    · have := h.one hq KP.oP; omega
    · have := h.one hq (KP.oL e); omega
    · have := h.one hq (KP.oW e); omega
  have hvout : ∀ q, v.ownBlock = some q → ¬ (q = k.p ∨ k.lv.ownBlock = some q ∨ k.wv.ownBlock = some q) := by
    intro q hq e
    rcases e with rfl | e | e
    · exact hvo _ hq ⟨_, KP.oP⟩
    · exact hvo _ hq ⟨_, KP.oL e⟩
    · exact hvo _ hq ⟨_, KP.oW e⟩
  have hrow4 : SRow (w4.setCell ⟨k.p, 1, none⟩ wv') R 1 lv' (k.ls.length + 1) (k.ls.map KL.v ++ [v]) := by
    have a1 := SRow.upd r2 (Upd.cell_only w2 k.p 0 lv') (fun q hq => lpl q hq)
    have a2 := SRow.upd a1 u3 (fun _ _ e => e)
    have a3 := SRow.upd a2 u4 (fun q hq e => (o2 q hq).elim (fun e2 => lw q e2 e) (fun e2 => by have := h.lt ⟨_, KP.oW e⟩; omega))
    exact SRow.upd a3 (Upd.cell_only w4 k.p 1 wv') (fun q hq => lpl q hq)
  have hrow5 : SRow (w4.setCell ⟨k.p, 1, none⟩ wv') R 1 wv' (k.ls.length + 1) (k.ls.map KL.u ++ [u]) := SRow.upd r4 (Upd.cell_only w4 k.p 1 wv') (fun q hq => lpw q hq)
  have hu5 : SRow (w4.setCell ⟨k.p, 1, none⟩ wv') E z u n ys := by
    have a1 := SRow.upd hu u4 (fun q hq e => by have h1 := (hun q hq).1; have := h.lt ⟨_, KP.oW e⟩; omega)
    exact SRow.upd a1 (Upd.cell_only w4 k.p 1 wv') (fun q hq e => by have h1 := (hun q hq).1; omega)
  have hult : ∀ q, u.ownBlock = some q → q < w3.heap.size := fun q hq => (hu.lt q hq)
  have hfoot : ∀ L q, KP.ownAt ⟨k.p, lv', wv', k.ls ++ [⟨v, u, n, xs, ys⟩]⟩ L q → (L = 1 ∧ lv'.ownBlock = some q) ∨ (L = 2 ∧ wv'.ownBlock = some q) ∨ (L = 3 + 2 * k.ls.length ∧ v.ownBlock = some q) ∨ (L = 4 + 2 * k.ls.length ∧ u.ownBlock = some q) ∨ (k.ownAt L q ∧ L ≠ 1 ∧ L ≠ 2) := by
    intro L q hq
    rcases hq with ⟨rfl, hq⟩ | ⟨rfl, hq⟩ | ⟨rfl, hq⟩ | ⟨i, hi, hq⟩
    · exact .inr (.inr (.inr (.inr ⟨.inl ⟨rfl, hq⟩, by decide, by decide⟩)))
    · exact .inl ⟨rfl, hq⟩
    · exact .inr (.inl ⟨rfl, hq⟩)
    · have hi2 : i < k.ls.length + 1 := by simpa using hi
      by_cases e : i < k.ls.length
      · have he : (k.ls ++ [(⟨v, u, n, xs, ys⟩ : KL)])[i]'(by simpa using hi2) = k.ls[i] := List.getElem_append_left e
        have hq' : (L = 3 + 2 * i ∧ ((k.ls ++ [(⟨v, u, n, xs, ys⟩ : KL)])[i]'(by simpa using hi2)).v.ownBlock = some q) ∨ (L = 4 + 2 * i ∧ ((k.ls ++ [(⟨v, u, n, xs, ys⟩ : KL)])[i]'(by simpa using hi2)).u.ownBlock = some q) := hq
        rw [he] at hq'
        exact .inr (.inr (.inr (.inr ⟨.inr (.inr (.inr ⟨i, e, hq'⟩)), by rcases hq' with ⟨e, _⟩ | ⟨e, _⟩ <;> omega, by rcases hq' with ⟨e, _⟩ | ⟨e, _⟩ <;> omega⟩)))
      · obtain rfl : i = k.ls.length := by omega
        have he : (k.ls ++ [(⟨v, u, n, xs, ys⟩ : KL)])[k.ls.length]'(by simpa using hi2) = ⟨v, u, n, xs, ys⟩ := by simp
        have hq' : (L = 3 + 2 * k.ls.length ∧ ((k.ls ++ [(⟨v, u, n, xs, ys⟩ : KL)])[k.ls.length]'(by simpa using hi2)).v.ownBlock = some q) ∨ (L = 4 + 2 * k.ls.length ∧ ((k.ls ++ [(⟨v, u, n, xs, ys⟩ : KL)])[k.ls.length]'(by simpa using hi2)).u.ownBlock = some q) := hq
        rw [he] at hq'
        exact hq'.elim (fun h => .inr (.inr (.inl h))) (fun h => .inr (.inr (.inr (.inl h))))
  obtain ⟨lab, hlab⟩ := h.lab
  refine ⟨⟨?_, ?_, ?_, ?_, ?_, ?_, ⟨fun q => if v.ownBlock = some q then 3 + 2 * k.ls.length else if u.ownBlock = some q then 4 + 2 * k.ls.length else if q < w.heap.size then lab q else if lv'.ownBlock = some q then 1 else 2, ?_⟩⟩, rfl, ⟨u, ys, rfl⟩, hU, ?_, fun q e => (o2 q e).imp id (fun e => by omega), fun q e => (o4 q e).imp id (fun e => by omega)⟩
  · have a1 := u1.get h.top (fun e => e)
    have a2 := u2.get a1 pl
    have a3 := heap_setCell_at w2 k.p 0 _ _ lv' a2
    have a4 := u3.get a3 (fun e => e)
    have a5 := u4.get a4 pw
    exact heap_setCell_at w4 k.p 1 _ _ wv' a5
  · have e1 : (k.ls ++ [(⟨v, u, n, xs, ys⟩ : KL)]).length = k.ls.length + 1 := by simp
    have e2 : (k.ls ++ [(⟨v, u, n, xs, ys⟩ : KL)]).map KL.v = k.ls.map KL.v ++ [v] := by simp
    show SRow (w4.setCell ⟨k.p, 1, none⟩ wv') R 1 lv' (k.ls ++ [(⟨v, u, n, xs, ys⟩ : KL)]).length ((k.ls ++ [(⟨v, u, n, xs, ys⟩ : KL)]).map KL.v)
    rw [e1, e2]
    exact hrow4
  · have e1 : (k.ls ++ [(⟨v, u, n, xs, ys⟩ : KL)]).length = k.ls.length + 1 := by simp
    have e2 : (k.ls ++ [(⟨v, u, n, xs, ys⟩ : KL)]).map KL.u = k.ls.map KL.u ++ [u] := by simp
    show SRow (w4.setCell ⟨k.p, 1, none⟩ wv') R 1 wv' (k.ls ++ [(⟨v, u, n, xs, ys⟩ : KL)]).length ((k.ls ++ [(⟨v, u, n, xs, ys⟩ : KL)]).map KL.u)
    rw [e1, e2]
    exact hrow5
  · intro i hi
    show SRow (w4.setCell ⟨k.p, 1, none⟩ wv') E z ((k.ls ++ [(⟨v, u, n, xs, ys⟩ : KL)])[i]'hi).v ((k.ls ++ [(⟨v, u, n, xs, ys⟩ : KL)])[i]'hi).n ((k.ls ++ [(⟨v, u, n, xs, ys⟩ : KL)])[i]'hi).xs
    have hi2 : i < k.ls.length + 1 := by have h9 : i < (k.ls ++ [(⟨v, u, n, xs, ys⟩ : KL)]).length := hi; simpa using h9
    by_cases e : i < k.ls.length
    · rw [List.getElem_append_left e]
      exact SRow.upd (h.vs i e) hU (fun q hq => hout _ q (by omega) (KP.oV e hq))
    · obtain rfl : i = k.ls.length := by omega
      rw [List.getElem_append_right (Nat.le_refl _)]
      simp only [Nat.sub_self, List.getElem_cons_zero]
      exact SRow.upd hv hU hvout
  · intro i hi
    show SRow (w4.setCell ⟨k.p, 1, none⟩ wv') E z ((k.ls ++ [(⟨v, u, n, xs, ys⟩ : KL)])[i]'hi).u ((k.ls ++ [(⟨v, u, n, xs, ys⟩ : KL)])[i]'hi).n ((k.ls ++ [(⟨v, u, n, xs, ys⟩ : KL)])[i]'hi).ys
    have hi2 : i < k.ls.length + 1 := by have h9 : i < (k.ls ++ [(⟨v, u, n, xs, ys⟩ : KL)]).length := hi; simpa using h9
    by_cases e : i < k.ls.length
    · rw [List.getElem_append_left e]
      exact SRow.upd (h.us i e) hU (fun q hq => hout _ q (by omega) (KP.oU e hq))
    · obtain rfl : i = k.ls.length := by omega
      rw [List.getElem_append_right (Nat.le_refl _)]
      simp only [Nat.sub_self, List.getElem_cons_zero]
      exact hu5
  · intro i hi
    show ((k.ls ++ [(⟨v, u, n, xs, ys⟩ : KL)])[i]'hi).n ≤ 1000000000
    have hi2 : i < k.ls.length + 1 := by have h9 : i < (k.ls ++ [(⟨v, u, n, xs, ys⟩ : KL)]).length := hi; simpa using h9
    by_cases e : i < k.ls.length
    · rw [List.getElem_append_left e]
      exact h.short i e
    · obtain rfl : i = k.ls.length := by omega
      rw [List.getElem_append_right (Nat.le_refl _)]
      simp only [Nat.sub_self, List.getElem_cons_zero]
      exact hn
  · intro L q hq
    show (if v.ownBlock = some q then 3 + 2 * k.ls.length else if u.ownBlock = some q then 4 + 2 * k.ls.length else if q < w.heap.size then lab q else if lv'.ownBlock = some q then 1 else 2) = L
    have hvlt : ∀ q, v.ownBlock = some q → q < w.heap.size := fun q e => (hv.lt q e)
    rcases hfoot L q hq with ⟨rfl, e⟩ | ⟨rfl, e⟩ | ⟨rfl, e⟩ | ⟨rfl, e⟩ | ⟨e, e1, e2⟩
    · rcases o2 q e with e3 | e3
      · have h5 := h.lt ⟨_, KP.oL e3⟩
        rw [if_neg (fun e4 => hvo q e4 ⟨_, KP.oL e3⟩), if_neg (fun e4 => by have := (hun q e4).1; omega), if_pos h5]
        exact hlab _ _ (KP.oL e3)
      · rw [if_neg (fun e4 => by have := hvlt q e4; omega), if_neg (fun e4 => (hun q e4).2 e), if_neg (by omega), if_pos e]
    · rcases o4 q e with e3 | e3
      · have h5 := h.lt ⟨_, KP.oW e3⟩
        rw [if_neg (fun e4 => hvo q e4 ⟨_, KP.oW e3⟩), if_neg (fun e4 => by have := (hun q e4).1; omega), if_pos h5]
        exact hlab _ _ (KP.oW e3)
      · rw [if_neg (fun e4 => by have := hvlt q e4; omega), if_neg (fun e4 => by have := hult q e4; omega), if_neg (by omega), if_neg (fun e4 => by have := (r2.lt q e4); omega)]
    · rw [if_pos e]
    · rw [if_neg (fun e4 => by have h1 := hvlt q e4; have h2 := (hun q e).1; omega), if_pos e]
    · have h5 := h.lt ⟨_, e⟩
      rw [if_neg (fun e4 => hvo q e4 ⟨_, e⟩), if_neg (fun e4 => by have := (hun q e4).1; omega), if_pos h5]
      exact hlab _ _ e
  · rintro q ⟨L, hq⟩
    rcases hfoot L q hq with ⟨rfl, e⟩ | ⟨rfl, e⟩ | ⟨rfl, e⟩ | ⟨rfl, e⟩ | ⟨e, e1, e2⟩
    · exact (o2 q e).elim (fun e => .inl ⟨_, KP.oL e⟩) (fun e => .inr (.inr (by omega)))
    · exact (o4 q e).elim (fun e => .inl ⟨_, KP.oW e⟩) (fun e => .inr (.inr (by omega)))
    · exact .inr (.inl e)
    · exact .inr (.inr (hun q e).1)
    · exact .inl ⟨_, e⟩
end

end Go.Proofs.YtohpgmeflmppaaaGreat

namespace Go.Proofs.YtohpgmeflmppaaaGreat
set_option linter.unusedVariables false
set_option linter.unusedSimpArgs false
set_option linter.unnecessarySimpa false
set_option linter.unusedSectionVars false
open Go Go.RowKit

set_option maxRecDepth 100000 in
theorem only_any {w : World} {v : Value} {m : UInt8} (h : FullG w v [byteV m]) :
    Calls Tryz.prog 49 #[v, .int .u8 (m.toNat : Int)] w fun e w' => e = .returned (.bool true) ∧ Drawn w w' := by
  obtain ⟨ao, n, c, rfl, hnc, hc, hf⟩ := h
  have HF := hid hf
  clear hf
  go_enter Tryz.func49, Tryz.ntmps49
  go_wp2
  go_loopw [5] (fun i wr => ∃ k : Nat, k ≤ n ∧ i = .int .i64 k ∧ Drawn w wr) (fun i _ => n - (intOf i).toNat)
  case atStart => exact ⟨0, Nat.zero_le _, rfl, ⟨Upd.refl _ _, rfl⟩⟩
  case round =>
    obtain ⟨k, hk, rfl, hdr⟩ := hrel
    have HDR := hid hdr
    by_cases hlt : k < n
    · obtain ⟨g, o, rfl, hg, hcell⟩ := HF.out k hlt
      have d0 := hcell 0 (by simp)
      have d : wr.cell? ⟨g, o + k, none⟩ = some (.int .u8 (m.toNat : Int)) := by rw [hdr.cell]; simpa [byteV] using d0
      have hgr : g < wr.heap.size := by rw [hdr.2]; exact hg
      clear hdr hcell d0
      go_wp2
      go_roundw
      case rel => exact ⟨k + 1, by omega, by go_num, HDR.out⟩
      case measure => simp [intOf]; omega
    · obtain rfl : k = n := by omega
      clear hdr
      go_wp2
      go_ret
      exact ⟨rfl, HDR.out⟩

/-- The book of stratalaw1. -/
def KP.B (w : World) (k : KP) : Prop := k.In 29 38 5 1 w
def KStepB (w w' : World) (k k' : KP) (v : Value) (n : Nat) (xs : List Value) : Prop := KStep 29 38 5 1 w w' k k' v n xs ∧ ∃ u, k'.ls = k.ls ++ [⟨v, u, n, xs, xs⟩]

theorem SRow.one {w : World} {z n : Nat} {E : TypeId} {v : Value} {xs : List Value} (h : SRow w E z v n xs) : v.oneCell' = true := by
  obtain ⟨ao, c, rfl, -⟩ := SRow.slice h
  rfl

set_option maxRecDepth 100000 in
set_option maxHeartbeats 1600000 in
theorem keepB_any {w : World} {k : KP} {v : Value} {bs : List UInt8} (hk : k.B w) (hv : DataIs w v bs) (hvo : ∀ q, v.ownBlock = some q → ¬ k.own q) (hn : bs.length ≤ 1000000000) (hN : k.ls.length ≤ 1000000) :
    Calls Tryz.prog 11 #[.pointer (some ⟨k.p, 0, none⟩), v] w fun e w' => e = .returned (.tuple #[]) ∧ ∃ k', KStepB w w' k k' v bs.length (bs.map byteV) := by
  have h1 : ∀ u ∈ bs.map byteV, u.oneCell' = true := by intro u hu; obtain ⟨b, _, rfl⟩ := List.mem_map.1 hu; rfl
  have hvr := SRow.of_data hv
  obtain ⟨u, w1, hrun1, r1, u1, o1⟩ := rowBytes.join (w := w) (SRow.nil w 5 1) hvr h1 (by omega) 38
  rw [List.nil_append] at r1
  have u1f : Upd (fun _ => False) w w1 := u1.mono (fun q _ e => by cases e)
  have o1f : ∀ q, u.ownBlock = some q → w.heap.size ≤ q := fun q e => (o1 q e).resolve_left (fun e => by cases e)
  have hk1 : k.B w1 := hk.upd u1f (fun _ _ e => e)
  obtain ⟨lv', w2, hrun2, r2, u2, o2, -⟩ := rowLists.push (w := w1) (M := [v]) hk1.rowL rfl (fun x hx => by simp at hx; subst hx; exact SRow.one hvr) (by omega) 27
  have hp := lt_of_heap hk.top
  have pl : ¬ k.lv.ownBlock = some k.p := fun e => by have := hk.one KP.oP (KP.oL e); omega
  have pw : ¬ k.wv.ownBlock = some k.p := fun e => by have := hk.one KP.oP (KP.oW e); omega
  have lw : ∀ q, k.wv.ownBlock = some q → ¬ k.lv.ownBlock = some q := fun q e1 e2 => by have := hk.one (KP.oL e2) (KP.oW e1); omega
  have t2 := u2.get hk1.top pl
  have t3 := heap_setCell_at w2 k.p 0 _ _ lv' t2
  have w3r : SRow (w2.setCell ⟨k.p, 0, none⟩ lv') 38 1 k.wv k.ls.length (k.ls.map KL.u) := SRow.upd (SRow.upd hk1.rowW u2 (fun q e => lw q e)) (Upd.cell_only w2 k.p 0 lv') (fun q e e2 => pw (e2 ▸ e))
  have hu3 : SRow (w2.setCell ⟨k.p, 0, none⟩ lv') 5 1 u (0 + bs.length) (bs.map byteV) := SRow.upd (SRow.upd r1 u2 (fun q e e2 => by have h1 := o1f q e; have := hk.lt ⟨_, KP.oL e2⟩; omega)) (Upd.cell_only w2 k.p 0 lv') (fun q e e2 => by have h1 := o1f q e; omega)
  obtain ⟨wv', w4, hrun4, r4, u4, o4, -⟩ := rowLists.push (w := w2.setCell ⟨k.p, 0, none⟩ lv') (M := [u]) w3r rfl (fun x hx => by simp at hx; subst hx; exact SRow.one r1) (by omega) 27
  rw [Nat.zero_add] at hu3
  have hfin := hk.kept hvr hvo hn u1f r2 u2 o2 (Upd.refl _ _) hu3 (fun q e => ⟨o1f q e, fun e2 => by
    have h5 := (r1.lt q e)
    rcases o2 q e2 with e3 | e3
    · have h4 := o1f q e; have := hk.lt ⟨_, KP.oL e3⟩; omega
    · omega⟩) r4 u4 o4
  have t4 := u4.get t3 pw
  obtain ⟨va, vc, hvs, -, -, -⟩ := SRow.slice hvr
  obtain ⟨ua, uc, hus, -, -, -⟩ := SRow.slice r1
  rw [Nat.zero_add] at hus
  obtain ⟨la, lc, hls, hl1, hl2, -⟩ := SRow.slice hk.rowL
  obtain ⟨wa, wc, hws, hw1, hw2, -⟩ := SRow.slice hk.rowW
  obtain ⟨la2, lc2, hls2, -, -, -⟩ := SRow.slice r2
  obtain ⟨wa2, wc2, hws2, -, -, -⟩ := SRow.slice r4
  obtain ⟨N, hNN⟩ : ∃ N, N = k.ls.length := ⟨_, rfl⟩
  obtain ⟨n, hnn⟩ : ∃ n, n = bs.length := ⟨_, rfl⟩
  rw [← hNN] at hls hws hls2 hws2 hl1 hw1 hN
  rw [← hnn] at hvs hus hn hfin
  obtain ⟨N2, hN2⟩ : ∃ N2, N2 = N + 1 := ⟨_, rfl⟩
  rw [← hN2] at hls2 hws2
  obtain ⟨p, hpp⟩ : ∃ p, p = k.p := ⟨_, rfl⟩
  have c0 : w1.cell? ⟨p, 0, none⟩ = some (.slice la N lc) := by rw [hpp, cell_of_row w1 _ 0 _ _ _ hk1.top, ← hls]; rfl
  have c1 : (w2.setCell ⟨k.p, 0, none⟩ lv').cell? ⟨p, 1, none⟩ = some (.slice wa N wc) := by rw [hpp, cell_of_row _ _ 1 _ _ _ t3, ← hws]; rfl
  have f0 : w2.frozen? ⟨p, 0, none⟩ = false := by rw [hpp]; exact frozen_of_row _ _ _ _ _ t2
  have f1 : w4.frozen? ⟨p, 1, none⟩ = false := by rw [hpp]; exact frozen_of_row _ _ _ _ _ t4
  have d0 : w2.cell? ⟨p, 0, none⟩ = some (.slice la N lc) := by rw [hpp, cell_of_row _ _ 0 _ _ _ t2, ← hls]; rfl
  have d1 : w4.cell? ⟨p, 1, none⟩ = some (.slice wa N wc) := by rw [hpp, cell_of_row _ _ 1 _ _ _ t4, ← hws]; rfl
  have hp1 : p < w1.heap.size := by rw [hpp]; exact lt_of_heap hk1.top
  have hp2 : p < w2.heap.size := by rw [hpp]; exact lt_of_heap t2
  have hp4 : p < w4.heap.size := by rw [hpp]; exact lt_of_heap t4
  rw [← hpp] at hrun4 hfin c1 ⊢
  rw [hvs] at hrun1 hrun2 hfin ⊢
  rw [hus] at hrun1 hrun4
  rw [hls] at hrun2
  rw [hls2] at hrun2 hrun4 hfin c1
  rw [hws] at hrun4
  rw [hws2] at hrun4 hfin
  obtain ⟨w3, hw3⟩ : ∃ w3, w3 = w2.setCell ⟨p, 0, none⟩ (.slice la2 N2 lc2) := ⟨_, rfl⟩
  rw [← hw3] at hrun4 c1
  have hp3 : p < w3.heap.size := by rw [hw3]; simpa using hp2
  have hrun2' : (Builtin.append_ #[27, 27] 27 #[.slice la N lc, .slice (some ⟨w1.heap.size, 0, none⟩) 1 1]).run Tryz.prog (w1.alloc (.cells #[.slice va n vc] 38)) = .ok (.slice la2 N2 lc2) w2 := hrun2
  have hrun4' : (Builtin.append_ #[27, 27] 27 #[.slice wa N wc, .slice (some ⟨w3.heap.size, 0, none⟩) 1 1]).run Tryz.prog (w3.alloc (.cells #[.slice ua n uc] 38)) = .ok (.slice wa2 N2 wc2) w4 := hrun4
  have HR1 := hid hrun1; have HR2 := hid hrun2'; have HR4 := hid hrun4'; have HW3 := hid hw3; have HFIN := hid hfin; have HNE := hid hnn
  clear hrun1 hrun2 hrun2' hrun4 hrun4' hfin hw3 hk hv hvo hn hN h1 hvr r1 u1 o1 u1f o1f hk1 r2 u2 o2 pl pw lw t2 t3 w3r hu3 r4 u4 o4 t4 hvs hus hls hws hls2 hws2 hNN hnn hN2 hpp hp
  go_enter Tryz.func11, Tryz.ntmps11
  go_upto_region 2 with (at_builtin; refine wpList_append_run rfl _ _ _ rfl rfl rfl HR1.out ?_)
  go_upto_region 3 with (at_builtin; refine wpList_append_run rfl _ _ _ rfl rfl rfl HR2.out ?_)
  rw [← HW3.out]
  go_wp2_with (at_builtin; refine wpList_append_run rfl _ _ _ rfl rfl rfl HR4.out ?_)
  go_end0
  rw [← HNE.out]
  exact ⟨rfl, _, HFIN.out, _, rfl⟩

set_option maxRecDepth 100000 in
set_option maxHeartbeats 800000 in
theorem untouchedB_any {w : World} {k : KP} (hk : k.B w) (heq : ∀ x ∈ k.ls, ∃ bs : List UInt8, x.xs = bs.map byteV ∧ x.ys = bs.map byteV) :
    Calls Tryz.prog 23 #[.pointer (some ⟨k.p, 0, none⟩)] w fun e w' => e = .returned (.bool true) ∧ Drawn w w' := by
  obtain ⟨la, lc, hls, hl1, hl2, -⟩ := SRow.slice hk.rowL
  obtain ⟨wa, wc, hws, hw1, hw2, -⟩ := SRow.slice hk.rowW
  have hp := lt_of_heap hk.top
  have c0 : w.cell? ⟨k.p, 0, none⟩ = some (.slice la k.ls.length lc) := by rw [cell_of_row w _ 0 _ _ _ hk.top, ← hls]; rfl
  have c1 : w.cell? ⟨k.p, 1, none⟩ = some (.slice wa k.ls.length wc) := by rw [cell_of_row w _ 1 _ _ _ hk.top, ← hws]; rfl
  have hrow : ∀ i, i < k.ls.length → ∃ g h va n vc ua uc bs, la = some ⟨g, 0, none⟩ ∧ wa = some ⟨h, 0, none⟩ ∧ g < w.heap.size ∧ h < w.heap.size ∧ w.cell? ⟨g, i, none⟩ = some (.slice va n vc) ∧ w.cell? ⟨h, i, none⟩ = some (.slice ua n uc) ∧ BytesAt w (.slice va n vc) bs ∧ BytesAt w (.slice ua n uc) bs := by
    intro i hi
    obtain ⟨bs, e1, e2⟩ := heq k.ls[i] (List.getElem_mem hi)
    have a1 := hk.vs i hi
    have a2 := hk.us i hi
    rw [e1] at a1
    rw [e2] at a2
    obtain ⟨va, vc, hv, -⟩ := SRow.slice a1
    obtain ⟨ua, uc, hu, -⟩ := SRow.slice a2
    obtain ⟨g, c', q1, q2, q3⟩ := SRow.cell hk.rowL (k := i) (u := k.ls[i].v) (by simp [hi])
    obtain ⟨h, c'', s1, s2, s3⟩ := SRow.cell hk.rowW (k := i) (u := k.ls[i].u) (by simp [hi])
    rw [hls] at q1
    injection q1 with q1
    rw [hws] at s1
    injection s1 with s1
    refine ⟨g, h, va, k.ls[i].n, vc, ua, uc, bs, q1, s1, q2, s2, by rw [q3, hv], by rw [s3, hu], ?_, ?_⟩
    · rw [← hv]; exact a1.data.bytes
    · rw [← hu]; exact a2.data.bytes
  have HROW := hid hrow
  obtain ⟨N, hN⟩ : ∃ N, N = k.ls.length := ⟨_, rfl⟩
  have HN := hid hN
  rw [← hN] at c0 c1 hl1 hw1
  clear hrow hk heq hls hws hN
  go_enter Tryz.func23, Tryz.ntmps23
  go_wp2
  go_loopw [3] (fun i wr => ∃ j : Nat, j ≤ N ∧ i = .int .i64 j ∧ Drawn w wr) (fun i _ => N - (intOf i).toNat)
  case atStart => exact ⟨0, Nat.zero_le _, rfl, ⟨Upd.refl _ _, rfl⟩⟩
  case round =>
    obtain ⟨j, hj, rfl, hdr⟩ := hrel
    have HDR := hid hdr
    have c0' : wr.cell? ⟨k.p, 0, none⟩ = some (.slice la N lc) := (hdr.cell _).trans c0
    have c1' : wr.cell? ⟨k.p, 1, none⟩ = some (.slice wa N wc) := (hdr.cell _).trans c1
    have hpr : k.p < wr.heap.size := by rw [hdr.2]; exact hp
    by_cases hlt : j < N
    · obtain ⟨g, h, va, n, vc, ua, uc, bs, rfl, rfl, hg, hh, d0, d1, b0, b1⟩ := HROW.out j (by have := HN.out; omega)
      have d0' : wr.cell? ⟨g, j, none⟩ = some (.slice va n vc) := (hdr.cell _).trans d0
      have d1' : wr.cell? ⟨h, j, none⟩ = some (.slice ua n uc) := (hdr.cell _).trans d1
      have hgr : g < wr.heap.size := by rw [hdr.2]; exact hg
      have hhr : h < wr.heap.size := by rw [hdr.2]; exact hh
      have HS := hid (show ∀ q, Calls Tryz.prog 47 #[.slice va n vc, .slice ua n uc] (wr.drewN q) fun e w' => e = .returned (.bool true) ∧ w' = wr.drewN q from fun q => by
        have a1 : BytesAt (wr.drewN q) (.slice va n vc) bs := by
          obtain ⟨x1, x2, x3, x4, x5⟩ := b0
          exact ⟨x1, x2, x3, x4, fun a ha j u hu => ((HDR.out.drewN q).cell _).trans (x5 a ha j u hu)⟩
        have a2 : BytesAt (wr.drewN q) (.slice ua n uc) bs := by
          obtain ⟨x1, x2, x3, x4, x5⟩ := b1
          exact ⟨x1, x2, x3, x4, fun a ha j u hu => ((HDR.out.drewN q).cell _).trans (x5 a ha j u hu)⟩
        refine (same1_any a1 a2).mono ?_
        rintro e w' ⟨rfl, rfl⟩
        exact ⟨by simp, rfl⟩)
      clear hdr d0 d1 b0 b1
      go_wp2_with fail
      go_quiet ((go_at_call 47; exact Calls.quiet_of_same (HS.out _)))
      go_wp2
      go_roundw
      case rel => exact ⟨j + 1, by omega, by go_num, HDR.out.drewN _⟩
      case measure => simp [intOf]; omega
    · obtain rfl : j = N := by omega
      clear hdr
      go_wp2
      go_ret
      exact ⟨rfl, HDR.out⟩

end Go.Proofs.YtohpgmeflmppaaaGreat

namespace Go.Proofs.YtohpgmeflmppaaaGreat
set_option linter.unusedVariables false
set_option linter.unusedSimpArgs false
set_option linter.unnecessarySimpa false
set_option linter.unusedSectionVars false
open Go Go.RowKit

/-- The blocks of the lists that were handed out. -/
def KP.vown (k : KP) (q : Nat) : Prop := ∃ i, ∃ h : i < k.ls.length, k.ls[i].v.ownBlock = some q

section
variable {D R E : TypeId} {z : Nat} {w w0 wr w' : World} {k : KP} {M : Nat → List Value}

theorem KP.In.vOut (h : k.In D R E z w) {q : Nat} (hq : k.vown q) : ¬ q = k.p ∧ ¬ k.lv.ownBlock = some q ∧ ¬ k.wv.ownBlock = some q ∧ q < w.heap.size := by
  obtain ⟨i, hi, e⟩ := hq
  refine ⟨fun e2 => ?_, fun e2 => ?_, fun e2 => ?_, h.lt ⟨_, KP.oV hi e⟩⟩
  · subst e2; have := h.one KP.oP (KP.oV hi e); omega
  · have := h.one (KP.oL e2) (KP.oV hi e); omega
  · have := h.one (KP.oW e2) (KP.oV hi e); omega

theorem KP.In.vv (h : k.In D R E z w) {i t q : Nat} (hi : i < k.ls.length) (ht : t < k.ls.length) (e1 : k.ls[i].v.ownBlock = some q) (e2 : k.ls[t].v.ownBlock = some q) : i = t := by
  have := h.one (KP.oV hi e1) (KP.oV ht e2)
  omega

/-- Whatever was written into the lists: the two rows stand. -/
theorem KP.In.tops (h : k.In D R E z w) {S : Nat → Prop} (hu : Upd S w wr) (hS : ∀ q, q < w.heap.size → S q → k.vown q) : wr.heap[k.p]? = some (.cells #[k.lv, k.wv] D (0, 0)) ∧ SRow wr R 1 k.lv k.ls.length (k.ls.map KL.v) :=
  ⟨hu.get h.top (fun e => (h.vOut (hS _ (lt_of_heap h.top) e)).1 rfl), SRow.upd h.rowL hu (fun q hq e => (h.vOut (hS q (h.rowL.lt q hq) e)).2.1 hq)⟩

/-- The first i lists are full of their marks. -/
structure Marked (E : TypeId) (z : Nat) (w0 wr : World) (k : KP) (M : Nat → List Value) (i : Nat) : Prop where
  done : ∀ t (h : t < k.ls.length), t < i → SRow wr E z k.ls[t].v k.ls[t].n (rep k.ls[t].n (M t))
  rest : ∀ t (h : t < k.ls.length), i ≤ t → SRow wr E z k.ls[t].v k.ls[t].n k.ls[t].xs
  upd : Upd k.vown w0 wr

theorem KP.In.marked0 (h : k.In D R E z w0) (hu : Upd (fun _ => False) w0 wr) : Marked E z w0 wr k M 0 :=
  ⟨fun t _ ht => by omega, fun t ht _ => SRow.upd (h.vs t ht) hu (fun _ _ e => e), hu.mono (fun _ _ e => e.elim)⟩

theorem Marked.step {i : Nat} (hm : Marked E z w0 wr k M i) (h : k.In D R E z w0) (hi : i < k.ls.length) (hu : Upd (fun q => k.ls[i].v.ownBlock = some q) wr w') (hr : SRow w' E z k.ls[i].v k.ls[i].n (rep k.ls[i].n (M i))) : Marked E z w0 w' k M (i + 1) := by
  refine ⟨fun t ht hlt => ?_, fun t ht hle => ?_, hm.upd.trans hu (fun q _ e => ⟨i, hi, e⟩)⟩
  · by_cases e : t = i
    · subst e; exact hr
    · exact SRow.upd (hm.done t ht (by omega)) hu (fun q e1 e2 => e (h.vv ht hi e1 e2))
  · exact SRow.upd (hm.rest t ht (by omega)) hu (fun q e1 e2 => by have := h.vv ht hi e1 e2; omega)

/-- The first i lists were lengthened. -/
structure Grown (R E : TypeId) (z : Nat) (w0 wr : World) (k : KP) (M : Nat → List Value) (i : Nat) (mv : Value) (gs : List Value) : Prop where
  len : gs.length = i
  row : SRow wr R 1 mv i gs
  new : ∀ q, mv.ownBlock = some q → w0.heap.size ≤ q
  full : ∀ t (h : t < k.ls.length), t < i → FullG wr k.ls[t].v (M t)
  gfull : ∀ t (h : t < gs.length), FullG wr gs[t] (M t)
  gown : ∀ t (h : t < gs.length) (h2 : t < k.ls.length) q, gs[t].ownBlock = some q → (k.ls[t].v.ownBlock = some q ∨ w0.heap.size ≤ q) ∧ ¬ mv.ownBlock = some q ∧ q < wr.heap.size
  rest : ∀ t (h : t < k.ls.length), i ≤ t → SRow wr E z k.ls[t].v k.ls[t].n (rep k.ls[t].n (M t))
  upd : Upd k.vown w0 wr

theorem Marked.grown (hm : Marked E z w0 wr k M k.ls.length) : Grown R E z w0 wr k M 0 (.slice none 0 0) [] :=
  ⟨rfl, SRow.nil _ _ _, fun q e => (by cases e), fun t _ ht => by omega, fun t h => by simp at h, fun t h => by simp at h, fun t ht _ => hm.done t ht ht, hm.upd⟩

/-- One more was lengthened (w1), then kept (w2). -/
theorem Grown.step {i : Nat} {mv gv mv' : Value} {gs : List Value} {w1 w2 : World} (hg : Grown R E z w0 wr k M i mv gs) (h : k.In D R E z w0) (hi : i < k.ls.length) (u1 : Upd (fun q => k.ls[i].v.ownBlock = some q) wr w1) (f1 : FullG w1 k.ls[i].v (M i)) (f2 : FullG w1 gv (M i))
    (o1 : ∀ q, gv.ownBlock = some q → (k.ls[i].v.ownBlock = some q ∨ wr.heap.size ≤ q) ∧ q < w1.heap.size)
    (r2 : SRow w2 R 1 mv' (i + 1) (gs ++ [gv])) (u2 : Upd (fun q => mv.ownBlock = some q) w1 w2) (o2 : ∀ q, mv'.ownBlock = some q → mv.ownBlock = some q ∨ w1.heap.size ≤ q) : Grown R E z w0 w2 k M (i + 1) mv' (gs ++ [gv]) := by
  have s0 := hg.upd.size
  have s1 := u1.size
  have s2 := u2.size
  have hmv : ∀ q, mv.ownBlock = some q → w0.heap.size ≤ q ∧ q < wr.heap.size := fun q e => ⟨hg.new q e, (hg.row.lt q e)⟩
  have hU : Upd (fun q => k.ls[i].v.ownBlock = some q ∨ mv.ownBlock = some q) wr w2 := (u1.mono (fun _ _ e => .inl e)).trans u2 (fun _ _ e => .inr e)
  have hvm : ∀ t (ht : t < k.ls.length) q, k.ls[t].v.ownBlock = some q → ¬ mv.ownBlock = some q := fun t ht q e e2 => by
    have h1 := (hmv q e2).1
    have h2 := h.lt ⟨_, KP.oV ht e⟩
    omega
  have hgm : ∀ q, gv.ownBlock = some q → ¬ mv.ownBlock = some q := fun q e e2 => by
    rcases (o1 q e).1 with e3 | e3
    · exact hvm i hi q e3 e2
    · have := (hmv q e2).2; omega
  refine ⟨by simp [hg.len], r2, fun q e => ?_, fun t ht hlt => ?_, fun t ht => ?_, fun t ht ht2 q e => ?_, fun t ht hle => ?_, ?_⟩
  · exact (o2 q e).elim (hg.new q) (fun e => by omega)
  · by_cases e : t = i
    · subst e
      exact f1.upd u2 (fun q e => hvm t ht q e)
    · exact (hg.full t ht (by omega)).upd hU (fun q e1 e2 => e2.elim (fun e2 => e (h.vv ht hi e1 e2)) (fun e2 => hvm t ht q e1 e2))
  · by_cases e : t < gs.length
    · rw [List.getElem_append_left e]
      have hti : t < k.ls.length := by have := hg.len; omega
      refine (hg.gfull t e).upd hU (fun q e1 e2 => ?_)
      obtain ⟨a1, a2, a3⟩ := hg.gown t e hti q e1
      rcases e2 with e2 | e2
      · rcases a1 with a1 | a1
        · have := h.vv hti hi a1 e2; have := hg.len; omega
        · have := h.lt ⟨_, KP.oV hi e2⟩; omega
      · exact a2 e2
    · obtain rfl : t = gs.length := by simp at ht; omega
      rw [List.getElem_append_right (Nat.le_refl _)]
      simp only [Nat.sub_self, List.getElem_cons_zero]
      rw [show M gs.length = M i from by rw [hg.len]]
      exact f2.upd u2 hgm
  · by_cases e1 : t < gs.length
    · rw [List.getElem_append_left e1] at e
      obtain ⟨a1, a2, a3⟩ := hg.gown t e1 ht2 q e
      refine ⟨a1, fun e2 => ?_, by omega⟩
      exact (o2 q e2).elim a2 (fun e3 => by omega)
    · obtain rfl : t = gs.length := by simp at ht; omega
      rw [List.getElem_append_right (Nat.le_refl _)] at e
      simp only [Nat.sub_self, List.getElem_cons_zero] at e
      have hti : gs.length = i := hg.len
      refine ⟨?_, fun e2 => ?_, by have := (o1 q e).2; omega⟩
      · rcases (o1 q e).1 with e3 | e3
        · left
          simp only [hti]
          exact e3
        · right; omega
      · rcases o2 q e2 with e3 | e3
        · exact hgm q e e3
        · have := (o1 q e).2; omega
  · exact SRow.upd (hg.rest t ht (by omega)) hU (fun q e1 e2 => e2.elim (fun e2 => by have := h.vv ht hi e1 e2; omega) (fun e2 => hvm t ht q e1 e2))
  · exact hg.upd.trans hU (fun q hq e => e.elim (fun e => ⟨i, hi, e⟩) (fun e => by have := (hmv q e).1; omega))
end

theorem rep_set {xs M : List Value} {n c : Nat} {u : Value} (hx : xs.length = n) (hc : c < n) (hM : M = [u]) : (rep c M ++ xs.drop (c * 1)).set c u = rep (c + 1) M ++ xs.drop ((c + 1) * 1) := by
  subst hM
  simp only [Nat.mul_one]
  rw [rep_succ, List.drop_eq_getElem_cons (by omega : c < xs.length)]
  have h := set_middle (rep c [u]) xs[c] u (xs.drop (c + 1))
  rw [rep_length, List.length_singleton, Nat.mul_one] at h
  rw [h, List.append_assoc]
  rfl

section
variable {D R E : TypeId} {z : Nat} {w wr : World} {k : KP}

/-- What a walk reads of the lists, whatever was written into them. -/
theorem KP.In.rowAt (h : k.In D R E z w) : ∃ ga la lc, k.lv = .slice la k.ls.length lc ∧ k.ls.length ≤ lc ∧ lc ≤ 9223372036854775807 ∧ (0 < k.ls.length → la = some ⟨ga, 0, none⟩) ∧
    ∀ (S : Nat → Prop) wr, Upd S w wr → (∀ q, q < w.heap.size → S q → k.vown q) → wr.cell? ⟨k.p, 0, none⟩ = some (.slice la k.ls.length lc) ∧ k.p < wr.heap.size ∧ ∀ j (hj : j < k.ls.length), ga < wr.heap.size ∧ wr.cell? ⟨ga, j, none⟩ = some k.ls[j].v := by
  obtain ⟨la, lc, hlv, h1, h2, h3⟩ := SRow.slice h.rowL
  obtain ⟨ga, hga⟩ : ∃ ga, 0 < k.ls.length → la = some ⟨ga, 0, none⟩ := by
    by_cases h0 : 0 < k.ls.length
    · obtain ⟨g, c, e, -, -⟩ := SRow.cell h.rowL (k := 0) (u := k.ls[0].v) (by simp [h0])
      rw [hlv] at e
      injection e with e _ _
      exact ⟨g, fun _ => e⟩
    · exact ⟨0, fun h => absurd h h0⟩
  refine ⟨ga, la, lc, hlv, h1, h2, hga, fun S wr hu hS => ?_⟩
  obtain ⟨t1, t2⟩ := h.tops hu hS
  refine ⟨by rw [cell_of_row wr _ 0 _ _ _ t1, ← hlv]; rfl, lt_of_heap t1, fun j hj => ?_⟩
  obtain ⟨g, c, e, e1, e2⟩ := SRow.cell t2 (k := j) (u := k.ls[j].v) (by simp [hj])
  rw [hlv, hga (by omega)] at e
  injection e with e _ _
  injection e with e
  injection e with e
  subst e
  exact ⟨e1, e2⟩
end

end Go.Proofs.YtohpgmeflmppaaaGreat

namespace Go.Proofs.YtohpgmeflmppaaaGreat
set_option linter.unusedVariables false
set_option linter.unusedSimpArgs false
set_option linter.unnecessarySimpa false
set_option linter.unusedSectionVars false
open Go Go.RowKit

def markI (i : Nat) : UInt8 := UInt8.ofNat (1 + i % 251)
theorem markI_val (i : Nat) : 1 + (i : Int) % 251 = ((markI i).toNat : Int) := by
  unfold markI
  rw [UInt8.toNat_ofNat']
  omega
def MB (i : Nat) : List Value := [byteV (markI i)]

set_option maxRecDepth 100000 in
set_option maxHeartbeats 12800000 in
theorem settleB_any {w : World} {k : KP} (hk : k.B w) (heq : ∀ x ∈ k.ls, ∃ bs : List UInt8, x.xs = bs.map byteV ∧ x.ys = bs.map byteV) (hN : k.ls.length ≤ 1000000) :
    Calls Tryz.prog 25 #[.pointer (some ⟨k.p, 0, none⟩)] w fun e w' => e = .returned (.bool true) ∧ Upd k.own w w' := by
  obtain ⟨ga, la, lc, hlv, hl1, hl2, hla, hat⟩ := hk.rowAt
  have HK := hid hk; have HLA := hid hla
  have HUN := hid (untouchedB_any hk heq)
  have HSH := hid hk.short
  obtain ⟨N, hNN⟩ : ∃ N, N = k.ls.length := ⟨_, rfl⟩
  have HN := hid hNN
  have HAT := hid (show ∀ (S : Nat → Prop) wr, Upd S w wr → (∀ q, q < w.heap.size → S q → k.vown q) → wr.cell? ⟨k.p, 0, none⟩ = some (.slice la N lc) ∧ k.p < wr.heap.size ∧ ∀ j (hj : j < k.ls.length), ga < wr.heap.size ∧ wr.cell? ⟨ga, j, none⟩ = some k.ls[j].v from fun S wr hu hS => by rw [hNN]; exact hat S wr hu hS)
  rw [← hNN] at hl1 hN HLA
  clear hk hat hla heq hlv hNN
  go_enter Tryz.func25, Tryz.ntmps25
  go_wp2_with fail
  refine HUN.out.mono ?_
  rintro e w1 ⟨rfl, hdr⟩
  have HM0 := hid (HK.out.marked0 (M := MB) hdr.1)
  obtain ⟨c0, hp, -⟩ := HAT.out _ _ hdr.1 (fun _ _ e => e.elim)
  clear hdr
  go_wp2
  go_loopw [3] (fun i wr => ∃ j : Nat, j ≤ N ∧ i = .int .i64 j ∧ Marked 5 1 w wr k MB j) (fun i _ => N - (intOf i).toNat)
  case atStart => exact ⟨0, Nat.zero_le _, rfl, HM0.out⟩
  case round =>
    clear c0 hp
    obtain ⟨j, hj, rfl, hm⟩ := hrel
    have HM := hid hm
    obtain ⟨c0, hp, hcell⟩ := HAT.out _ _ hm.upd (fun _ _ e => e)
    by_cases hlt : j < N
    · have hlt' : j < k.ls.length := by have := HN.out; omega
      obtain rfl := HLA.out (by omega)
      obtain ⟨hg, d0⟩ := hcell j hlt'
      have hrow := hm.rest j hlt' (Nat.le_refl _)
      have hsh := HSH.out j hlt'
      obtain ⟨v, hv⟩ : ∃ v, v = k.ls[j].v := ⟨_, rfl⟩
      obtain ⟨n, hn⟩ : ∃ n, n = k.ls[j].n := ⟨_, rfl⟩
      have HV := hid hv; have HNE := hid hn
      rw [← hv] at d0
      rw [← hn] at hsh
      rw [← hv, ← hn] at hrow
      obtain ⟨va, vc, hvs, hv1, hv2, -⟩ := SRow.slice hrow
      have HVS := hid hvs; have HROW := hid hrow
      rw [hvs] at d0
      clear hm hcell hrow hv hn hvs
      go_wp2
      obtain ⟨wo, rfl⟩ : ∃ wo, wo = wr := ⟨_, rfl⟩
      go_loopw [4] (fun c wr => ∃ i : Nat, i ≤ n ∧ c = .int .i64 i ∧ Upd (fun q => v.ownBlock = some q) wo wr ∧ SRow wr 5 1 v n (rep i (MB j) ++ k.ls[j].xs.drop (i * 1))) (fun c _ => n - (intOf c).toNat)
      case atStart => exact ⟨0, Nat.zero_le _, rfl, Upd.refl _ _, by simpa [rep] using HROW.out⟩
      case round =>
        clear c0 hp hg d0
        obtain ⟨i, hi, rfl, hup, hrow⟩ := hrel
        have hU : Upd k.vown w wr := HM.out.upd.trans hup (fun q _ e => ⟨j, by have := HN.out; omega, by rw [← HV.out]; exact e⟩)
        obtain ⟨c0, hp, hcell⟩ := HAT.out _ _ hU (fun _ _ e => e)
        obtain ⟨hg, d0⟩ := hcell j hlt'
        rw [← HV.out, HVS.out] at d0
        have HUP := hid hup; have HR := hid hrow
        clear hup hrow hU hcell
        by_cases hlt2 : i < n
        · have hxl : k.ls[j].xs.length = n := by have := HROW.out.1; simpa using this
          obtain ⟨gv, cap, old, e, hset, q1, q2, q3, -, -⟩ := SRow.set (m := i) (u := byteV (markI j)) HR.out (by omega)
          rw [rep_set (M := MB j) (u := byteV (markI j)) hxl hlt2 rfl] at hset
          rw [HVS.out] at e
          injection e with e1 e2 e3
          subst e1 e3
          have HSET := hid hset
          have hme := markI_val j
          simp only [byteV] at HSET
          generalize markI j = m at hme HSET
          clear hset hxl
          go_wp2
          go_roundw
          case rel => exact ⟨i + 1, by omega, by go_num, HUP.out.setCell (p := ⟨gv, i, none⟩) (fun _ => by rw [HVS.out]; rfl) _, HSET.out⟩
          case measure => simp [intOf]; omega
        · obtain rfl : i = n := by omega
          have hxl : k.ls[j].xs.length = i := by have := HROW.out.1; simpa using this
          have hfin : SRow wr 5 1 k.ls[j].v k.ls[j].n (rep k.ls[j].n (MB j)) := by
            have h := HR.out
            rw [List.drop_eq_nil_of_le (by omega), List.append_nil, HV.out, HNE.out] at h
            exact h
          have HF := hid hfin
          clear hfin hxl
          go_wp2
          go_roundw
          case rel => exact ⟨j + 1, by omega, by go_num, HM.out.step HK.out hlt' (HUP.out.mono (fun q _ e => by rw [← HV.out]; exact e)) HF.out⟩
          case measure => simp [intOf]; omega
    · obtain rfl : j = N := by omega
      have hgr0 : Grown 38 5 1 w wr k MB 0 (.slice none 0 0) [] := by have h := HM.out; rw [HN.out] at h; exact h.grown
      have HG0 := hid hgr0
      clear hgr0 hm hcell
      go_wp2
      go_loopw [5, 6] (fun mv i wr => ∃ j2 : Nat, j2 ≤ j ∧ i = .int .i64 j2 ∧ ∃ ma mc gs, mv = .slice ma j2 mc ∧ Grown 38 5 1 w wr k MB j2 mv gs) (fun _ i _ => j - (intOf i).toNat)
      case atStart => exact ⟨0, Nat.zero_le _, rfl, none, 0, [], rfl, HG0.out⟩
      case round =>
        clear c0 hp
        obtain ⟨j2, hj2, rfl, ma, mc, gs, rfl, hgr⟩ := hrel
        have HG := hid hgr
        obtain ⟨c0, hp, hcell⟩ := HAT.out _ _ hgr.upd (fun _ _ e => e)
        by_cases hlt : j2 < j
        · have hlt' : j2 < k.ls.length := by have := HN.out; omega
          obtain rfl := HLA.out (by omega)
          obtain ⟨hg, d0⟩ := hcell j2 hlt'
          have hrow := hgr.rest j2 hlt' (Nat.le_refl _)
          have hsh := HSH.out j2 hlt'
          obtain ⟨v, hv⟩ : ∃ v, v = k.ls[j2].v := ⟨_, rfl⟩
          obtain ⟨n, hn⟩ : ∃ n, n = k.ls[j2].n := ⟨_, rfl⟩
          have HV := hid hv; have HNE := hid hn
          rw [← hv] at d0
          rw [← hn] at hsh
          rw [← hv, ← hn] at hrow
          obtain ⟨va, vc, hvs, hv1, hv2, hz⟩ := SRow.slice hrow
          have HVS := hid hvs; have HROW := hid hrow; have HZ := hid hz
          rw [hvs] at d0
          clear hgr hcell hrow hv hn hvs hz
          go_wp2
          obtain ⟨wo, rfl⟩ : ∃ wo, wo = wr := ⟨_, rfl⟩
          go_loopw [7] (fun gvv wr => ∃ L : Nat, n ≤ L ∧ L ≤ 2 * n + 70 ∧ ∃ gao gcap, gvv = .slice gao L gcap ∧ SRow wr 5 1 (.slice gao L gcap) L (rep L (MB j2)) ∧ FullG wr (.slice va n vc) (MB j2) ∧ Upd (fun q => v.ownBlock = some q) wo wr ∧ ∀ q, (Value.slice gao L gcap).ownBlock = some q → v.ownBlock = some q ∨ wo.heap.size ≤ q) (fun gvv _ => 2 * n + 70 - lenOf gvv)
          case atStart => exact ⟨n, Nat.le_refl _, by omega, va, vc, rfl, by rw [← HVS.out]; exact HROW.out, by rw [← HVS.out]; exact FullG.of_owns HROW.out (by simp [MB]), Upd.refl _ _, fun q e => .inl (by rw [HVS.out]; exact e)⟩
          case round =>
            obtain ⟨L, hL1, hL2, gao, gcap, rfl, hd, hf, hup, hown⟩ := hrel
            have HD2 := hid hd; have HF2 := hid hf; have HUP2 := hid hup; have HOWN2 := hid hown
            clear hd hf hup hown
            by_cases hlt2 : L < 2 * n + 70
            · obtain ⟨gv3, w3, hrun3, hd3, hf3, hu3, ha3⟩ := rowBytes.grow (M := MB j2) rfl (fun u hu => by simp [MB] at hu; subst hu; rfl) HD2.out HF2.out HZ.out hL1 (by omega) 38
              obtain ⟨gao3, gcap3, hgs3, -, -, -⟩ := SRow.slice hd3
              have hup3 : Upd (fun q => v.ownBlock = some q) wo w3 := HUP2.out.trans hu3 (fun q hq e => (HOWN2.out q e).resolve_right (by omega))
              have hown3 : ∀ q, gv3.ownBlock = some q → v.ownBlock = some q ∨ wo.heap.size ≤ q := fun q e => (ha3 q e).elim (HOWN2.out q) (fun h => .inr (Nat.le_trans HUP2.out.size h))
              rw [hgs3] at hrun3 hd3 hown3
              have hme := markI_val j2
              have hrun3' : (Builtin.append_ #[38, 38] 38 #[.slice gao L gcap, .slice (some ⟨wr.heap.size, 0, none⟩) 1 1]).run Tryz.prog (wr.alloc (.cells #[.int .u8 ((markI j2).toNat : Int)] 5)) = .ok (.slice gao3 (L + 1) gcap3) w3 := hrun3
              have HR3 := hid hrun3'; have HD3 := hid hd3; have HF3 := hid hf3; have HUP3 := hid hup3; have HOWN3 := hid hown3
              generalize markI j2 = m at hme HR3
              clear hrun3 hrun3' hd3 hf3 hup3 hown3 hu3 ha3 hgs3
              have hlt3 : (L : Int) < 2 * (n : Int) + 70 := by omega
              go_wp2_with (at_builtin; refine wpList_append_run rfl _ _ _ rfl rfl rfl HR3.out ?_)
              go_roundw
              case rel => exact ⟨L + 1, by omega, by omega, gao3, gcap3, rfl, HD3.out, HF3.out, HUP3.out, HOWN3.out⟩
              case measure => simp [lenOf]; omega
            · obtain rfl : L = 2 * n + 70 := by omega
              have hnl : ¬ ((2 * n + 70 : Nat) : Int) < 2 * (n : Int) + 70 := by omega
              have hrm : SRow wr 38 1 (.slice ma j2 mc) j2 gs := SRow.upd HG.out.row HUP2.out (fun q e1 e2 => by
                have h1 := HG.out.new q e1
                have h2 := HK.out.lt ⟨_, KP.oV hlt' (by rw [← HV.out]; exact e2)⟩
                omega)
              obtain ⟨mv', w4, hrun4, r4, u4, o4, -⟩ := rowLists.push (M := [.slice gao (2 * n + 70) gcap]) hrm rfl (fun x hx => by simp at hx; subst hx; rfl) (by omega) 27
              obtain ⟨ma4, mc4, hms4, -, -, -⟩ := SRow.slice r4
              rw [hms4] at hrun4 r4 o4
              have hrun4' : (Builtin.append_ #[27, 27] 27 #[.slice ma j2 mc, .slice (some ⟨wr.heap.size, 0, none⟩) 1 1]).run Tryz.prog (wr.alloc (.cells #[.slice gao (2 * n + 70) gcap] 38)) = .ok (.slice ma4 (j2 + 1) mc4) w4 := hrun4
              have hstep := HG.out.step HK.out hlt' (HUP2.out.mono (fun q _ e => by rw [← HV.out]; exact e)) (by rw [← HV.out, HVS.out]; exact HF2.out) (FullG.of_owns HD2.out (by simp [MB])) (fun q e => ⟨by rw [← HV.out]; exact HOWN2.out q e, (HD2.out.lt q e)⟩) r4 u4 o4
              have HR4 := hid hrun4'; have HST := hid hstep
              obtain ⟨L2, hL2e⟩ : ∃ L2, L2 = 2 * n + 70 := ⟨_, rfl⟩
              rw [← hL2e] at HR4 hnl ⊢
              clear hrun4 hrun4' hstep hrm r4 u4 o4 hms4 hL2e
              go_wp2_with (at_builtin; refine wpList_append_run rfl _ _ _ rfl rfl rfl HR4.out ?_)
              go_roundw
              case rel => exact ⟨j2 + 1, by omega, by go_num, ma4, mc4, _, rfl, HST.out⟩
              case measure => simp [intOf]; omega
        · obtain rfl : j2 = j := by omega
          have HG2 := HG
          clear hgr hcell
          go_wp2
          obtain ⟨wo, rfl⟩ : ∃ wo, wo = wr := ⟨_, rfl⟩
          go_loopw [9] (fun i wr => ∃ j3 : Nat, j3 ≤ j2 ∧ i = .int .i64 j3 ∧ Drawn wo wr) (fun i _ => j2 - (intOf i).toNat)
          case atStart => exact ⟨0, Nat.zero_le _, rfl, ⟨Upd.refl _ _, rfl⟩⟩
          case round =>
            clear c0 hp
            obtain ⟨j3, hj3, rfl, hdr⟩ := hrel
            have HDR := hid hdr
            have hU : Upd k.vown w wr := HG2.out.upd.trans hdr.1 (fun _ _ e => e.elim)
            obtain ⟨c0, hp, hcell⟩ := HAT.out _ _ hU (fun _ _ e => e)
            by_cases hlt : j3 < j2
            · have hlt' : j3 < k.ls.length := by have := HN.out; omega
              have hltg : j3 < gs.length := by rw [HG2.out.len]; exact hlt
              obtain rfl := HLA.out (by omega)
              obtain ⟨hg, d0⟩ := hcell j3 hlt'
              have hf1 := (HG2.out.full j3 hlt' hlt).upd HDR.out.1 (fun _ _ e => e)
              have hf2 := (HG2.out.gfull j3 hltg).upd HDR.out.1 (fun _ _ e => e)
              obtain ⟨gm, cm, em, hgm, d1⟩ := SRow.cell (SRow.upd HG2.out.row HDR.out.1 (fun _ _ e => e)) (k := j3) (u := gs[j3]) (by simp [hltg])
              injection em with em1 _ em3
              subst em1 em3
              obtain ⟨v, hv⟩ : ∃ v, v = k.ls[j3].v := ⟨_, rfl⟩
              obtain ⟨g2, hg2⟩ : ∃ g, g = gs[j3] := ⟨_, rfl⟩
              rw [← hv] at d0 hf1
              rw [← hg2] at d1 hf2
              obtain ⟨va, vn, vc, rfl, v1, v2, v3⟩ := id hf1
              obtain ⟨ga2, gn2, gc2, rfl, x1, x2, x3⟩ := id hf2
              have hme := markI_val j3
              have HO1 := hid (only_any (show FullG wr (.slice va vn vc) [byteV (markI j3)] from hf1))
              have HO2 := hid (show ∀ V, Drawn wr V → _ from fun V hV => only_any (show FullG V (.slice ga2 gn2 gc2) [byteV (markI j3)] from hf2.upd hV.1 (fun _ _ e => e)))
              generalize markI j3 = m at hme HO1 HO2
              have hja : ∀ V, Drawn wr V → V.cell? ⟨k.p, 0, none⟩ = wr.cell? ⟨k.p, 0, none⟩ := fun V h => h.cell _
              have HP := hid (show k.p < wr.heap.size from hp)
              clear hdr hcell hf1 hf2 v3 x3 hU hja hv hg2
              go_wp2_with fail
              refine HO1.out.mono ?_
              rintro e wa ⟨rfl, hda⟩
              have HDA := hid hda
              have d1' := (hda.cell _).trans d1
              have hgm' : gm < wa.heap.size := by rw [hda.2]; exact hgm
              clear hda
              go_wp2_with fail
              refine (HO2.out _ HDA.out).mono ?_
              rintro e wb ⟨rfl, hdb⟩
              have HDB := hid (show Drawn wr wb from ⟨HDA.out.1.trans hdb.1 (fun _ _ e => e), hdb.2.trans HDA.out.2⟩)
              clear hdb
              go_wp2
              go_roundw
              case rel => exact ⟨j3 + 1, by omega, by go_num, HDR.out.1.trans HDB.out.1 (fun _ _ e => e), HDB.out.2.trans HDR.out.2⟩
              case measure => simp [intOf]; omega
            · obtain rfl : j3 = j2 := by omega
              clear hdr hcell
              go_wp2
              go_ret
              exact ⟨rfl, hU.mono (fun q _ e => by obtain ⟨i, hi, e⟩ := e; exact ⟨_, KP.oV hi e⟩)⟩

end Go.Proofs.YtohpgmeflmppaaaGreat
