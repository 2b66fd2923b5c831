/-
  Package stratalaw0, walked: errs, limits (two literal lists, reckoned by the kernel).
-/
import Derived.Test.YtlkdmapjmcibiaaDoorProg
import Derived.WalkKit
import Derived.ProofKit
import Derived.Below
import Derived.Great.Walk
namespace Go.Proofs.YtlkdmapjmcibiaaDoor
set_option linter.unusedVariables false
set_option linter.unusedSimpArgs false
set_option linter.unnecessarySimpa false
set_option linter.unusedSectionVars false
open Go Go.RowKit

/-- Operations that build a struct or move a value, one behind the other. -/
def putOps (P : Program) : List Oper → Act → Option Act
  | [], a => some a
  | o :: l, a =>
    match o.guard, o.op with
    | none, .build t parts =>
      match P.built t (parts.map fun (i, x) => (i, a.eval x)).toList with
      | some cells => putOps P l (a.put o.dst (.agg cells))
      | none => none
    | none, .assign x => putOps P l (a.put o.dst (a.eval x))
    | _, _ => none

theorem wpList_puts {P : Program} {ops : Array Oper} {Q : Exit → Act → World → Prop} {w : World} {r : List Oper} : ∀ (l : List Oper) {a a' : Act}, putOps P l a = some a' → wpList P ops Q r a' w → wpList P ops Q (l ++ r) a w
  | [], a, a', h, hk => by
    simp only [putOps, Option.some.injEq] at h
    subst h; exact hk
  | o :: l, a, a', h, hk => by
    unfold putOps at h
    split at h
    · rename_i t parts hg ho
      split at h
      · rename_i cells hc
        refine wpList_plain hg fun K hK => wp_build t parts ho (by rw [hc]; rfl) ?_
        rw [hc]
        exact hK _ _ (wpList_puts l h hk)
      · cases h
    · rename_i x hg ho
      refine wpList_plain hg fun K hK => ?_
      unfold Oper.wp execOp
      simp only [ho]
      exact hK _ _ (wpList_puts l h hk)
    · cases h

/-- The function's second region. -/
def opsOf (fn : Func) : List Oper := match fn.body with | some (.seq _ (.seq (.region _ ops _) _)) => ops.toList | _ => []
def headOf (fn : Func) : List Oper := match fn.body with | some (.seq (.region _ ops _) _) => ops.toList | _ => []

/-- The last two operations: the slice is made, and handed out. -/
def lastOf : List Oper → Option (Nat × TypeId × Nat × Array (Nat × Operand))
  | [⟨some d, .buildSlice st len parts, _, _, _, none⟩, ⟨some 0, .assign (.tmp d'), _, _, _, none⟩] => if d = d' then some (d, st, len, parts) else none
  | _ => none

/-- What the list holds: the kernel reckons it. -/
def tableOf (P : Program) (fn : Func) (n : Nat) (e : TypeId) : Option (Act × Nat × TypeId × Nat × Array Value) :=
  match putOps P (headOf fn) ⟨#[] ++ Array.replicate (fn.ntmps - 0) undef, []⟩ with
  | some a0 =>
    match putOps P ((opsOf fn).take n) a0 with
    | some a1 =>
      match lastOf ((opsOf fn).drop n) with
      | some (d, st, len, parts) => (P.builtSlice e len (parts.map fun (i, x) => (i, a1.eval x)).toList).map fun cs => (a1, d, st, len, cs)
      | none => none
    | none => none
  | none => none

theorem calls_table {P : Program} {f : FuncId} {fn : Func} {i0 i1 n len d : Nat} {st e : TypeId} {a1 : Act} {cs : Array Value} (hf : P.funcs[f]? = some fn)
    (hb : fn.body = some ((Code.region i0 (headOf fn).toArray false).seq ((Code.region i1 (opsOf fn).toArray false).seq Code.ret))) (hr : fn.results = #[.tmp 0])
    (ht : tableOf P fn n e = some (a1, d, st, len, cs)) (hu : P.underlying st = some (.slice e)) (hd : a1.defers = []) (hsz : d < a1.tmps.size) (w : World) :
    Calls P f #[] w fun r w' => r = .returned (.slice (some ⟨w.heap.size, 0, none⟩) len len) ∧ w' = w.alloc (.cells cs e) := by
  unfold tableOf at ht
  split at ht
  · rename_i a0 h0
    split at ht
    · rename_i a1' h1
      split at ht
      · rename_i d' st' len' parts hl
        simp only [Option.map_eq_some_iff, Prod.mk.injEq] at ht
        obtain ⟨cs', hcs, rfl, rfl, rfl, rfl, rfl⟩ := ht
        unfold lastOf at hl
        split at hl
        · rename_i d1 st1 len1 parts1 t1 p1 f1 d2 t2 p2 f2 hdr
          split at hl
          · rename_i hdd
            simp only [Option.some.injEq, Prod.mk.injEq] at hl
            obtain ⟨rfl, rfl, rfl, rfl⟩ := hl
            subst hdd
            refine calls_of_wp hf hb ?_
            refine wp_seq_k fun K1 hK1 => wp_region_lit ?_
            rw [← List.append_nil (headOf fn)]
            refine wpList_puts (headOf fn) h0 (hK1 _ _ ?_)
            refine wp_seq_k fun K2 hK2 => wp_region_lit ?_
            rw [← List.take_append_drop n (opsOf fn)]
            refine wpList_puts _ h1 ?_
            rw [hdr]
            refine Great.wpList_buildSliceTo rfl _ _ _ _ rfl w.heap.size rfl _ rfl hu cs' hcs ?_
            refine wpList_plain rfl fun K hK => ?_
            unfold Oper.wp execOp
            refine hK _ _ (hK2 _ _ (wp_ret (bodyPost_ret (results_tmp hr _ P _) hd ⟨?_, rfl⟩)))
            have h0' : 0 < a1'.tmps.size := by omega
            simp [Act.put, Act.eval, hsz, h0']
          · cases hl
        · cases hl
      · cases ht
    · cases ht
  · cases ht

/-- The pairs are pairs of equals. -/
def pairsOk (cs : Array Value) : Bool := (List.range (cs.size / 2)).all fun k => match cs[2 * k]?, cs[2 * k + 1]? with | some (.int .i64 a), some (.int .i64 b) => a == b | _, _ => false

theorem pairsOk_at {cs : Array Value} (h : pairsOk cs = true) (k : Nat) (hk : k < cs.size / 2) : ∃ a : Int, cs[2 * k]? = some (.int .i64 a) ∧ cs[2 * k + 1]? = some (.int .i64 a) := by
  unfold pairsOk at h
  rw [List.all_eq_true] at h
  have := h k (List.mem_range.2 hk)
  split at this
  · rename_i a b h1 h2
    have hab : a = b := by simpa using this
    subst hab
    exact ⟨a, h1, h2⟩
  · cases this

theorem errs_any (w : World) : ∃ cs : Array Value, cs.size = 210 ∧ pairsOk cs = true ∧ Calls Tryd.prog 4 #[] w fun r w' => r = .returned (.slice (some ⟨w.heap.size, 0, none⟩) 105 105) ∧ w' = w.alloc (.cells cs 25) := by
  have h : ((tableOf Tryd.prog Tryd.f4 105 25).map fun x => (x.1.tmps.size, x.1.defers.length, x.2.1, x.2.2.1, x.2.2.2.1, x.2.2.2.2.size, pairsOk x.2.2.2.2)) = some (107, 0, 106, 22, 105, 210, true) := by kernel_rfl
  obtain ⟨⟨a1, d, st, len, cs⟩, ht, he⟩ := Option.map_eq_some_iff.1 h
  simp only [Prod.mk.injEq] at he
  obtain ⟨e1, e2, e3, e4, e5, e6, e7⟩ := he
  subst e3 e4 e5
  exact ⟨cs, e6, e7, calls_table Tryd.func4 (i0 := 0) (i1 := 1) (by kernel_rfl) rfl ht Tryd.underlying22 (List.length_eq_zero_iff.1 e2) (by omega) w⟩

theorem limits_any (w : World) : ∃ cs : Array Value, cs.size = 184 ∧ pairsOk cs = true ∧ Calls Tryd.prog 5 #[] w fun r w' => r = .returned (.slice (some ⟨w.heap.size, 0, none⟩) 92 92) ∧ w' = w.alloc (.cells cs 25) := by
  have h : ((tableOf Tryd.prog Tryd.f5 92 25).map fun x => (x.1.tmps.size, x.1.defers.length, x.2.1, x.2.2.1, x.2.2.2.1, x.2.2.2.2.size, pairsOk x.2.2.2.2)) = some (94, 0, 93, 22, 92, 184, true) := by kernel_rfl
  obtain ⟨⟨a1, d, st, len, cs⟩, ht, he⟩ := Option.map_eq_some_iff.1 h
  simp only [Prod.mk.injEq] at he
  obtain ⟨e1, e2, e3, e4, e5, e6, e7⟩ := he
  subst e3 e4 e5
  exact ⟨cs, e6, e7, calls_table Tryd.func5 (i0 := 0) (i1 := 1) (by kernel_rfl) rfl ht Tryd.underlying22 (List.length_eq_zero_iff.1 e2) (by omega) w⟩

end Go.Proofs.YtlkdmapjmcibiaaDoor
