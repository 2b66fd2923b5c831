/-
  PROVED HERE: Rows.ManifestStrokeCardSaid: stratalaw10.ManifestStroke answers true at every input, in every world in which wire's table holds what its text lays, and each argument reads afterwards as it read before.
-/
import Derived.Test.YtgaidmohdhaonaaGreatDoorSC
import Derived.Test.YtgaidmohdhaonaaGreatDoorZB
import Derived.Test.YtgaidmohdhaonaaGreatDoorSD
import Derived.Test.YtgaidmohdhaonaaGreatDoorCards
import Derived.Test.YtgaidmohdhaonaaGreatDoorTie
import Derived.OpenShut
namespace Go.Proofs.YtgaidmohdhaonaaGreatDoor
set_option linter.unusedVariables false
set_option linter.unusedSimpArgs false
set_option linter.unnecessarySimpa false
set_option linter.unusedSectionVars false
open Go Go.ChangeShapes Go.WideShapes Go.ChangeAt Go.RowKit
open Go.ChangeMaps (open_string shut_string)

/-- A world for the witness: the settled one, the table holding what its initialiser lays. -/
noncomputable def manifestStrokeWorld (os : Os) : World :=
  { World.holding Tryz.prog os ⟨#[], #[.slice none 0 0, .slice none 0 0, .slice none 0 0], []⟩ with heap := (World.holding Tryz.prog os ⟨#[], #[.slice none 0 0, .slice none 0 0, .slice none 0 0], []⟩).heap.modify 0 (fun
      | .cells _ t frozen => .cells (crcTab.map (fun n : Nat => Value.int .u32 (n : Int))).toArray t frozen
      | o => o) }

theorem manifestStroke_met (os : Os) : laidMetH Tryz.prog Rows.manifestStrokeRow.laid ((manifestStrokeWorld os).forCall (fun _ _ => 0) ⟨#[], #[.slice none 0 0, .slice none 0 0, .slice none 0 0], []⟩).memory :=
  laidMet_of_run' 8 (by kernel_rfl) (by kernel_rfl)
theorem manifestStroke_read (os : Os) {H : Type} (enc : TypeId × Value → H) : ∃ places, DataW.whole enc Tryz.prog ((manifestStrokeWorld os).forCall (fun _ _ => 0) ⟨#[], #[.slice none 0 0, .slice none 0 0, .slice none 0 0], []⟩).memory Tryz.f6.params.toList Rows.manifestStrokeSpec.vars false (#[.slice none 0 0, .slice none 0 0, .slice none 0 0] : Array Value).toList 8 = some ([.nil, .nil, .nil], [], places) :=
  ⟨[], by kernel_rfl⟩

set_option maxRecDepth 100000 in
theorem manifestStroke_lifted (os : Os) (started : os.Started) (H : Type) (enc : TypeId × Value → H) (F : Stop.Interp) :
    ReturnsInHanded {} Tryz.checked os 6 .any ((OpenSpec.ofChange Rows.manifestStrokeSpec).preRow enc Tryz.prog Tryz.f6 Rows.manifestStrokeRow.domain false Rows.manifestStrokeRow.laid) (((OpenSpec.ofChange Rows.manifestStrokeSpec).at F).post enc Tryz.prog Tryz.f6 false true false false) := by
  obtain ⟨places, hx⟩ := manifestStroke_read os enc
  refine returnsInHanded_of_row (C := Tryz.checked) (s := OpenSpec.ofChange Rows.manifestStrokeSpec) own started (by kernel_rfl) Tryz.func6
    (witness_row_at (enc := enc) (C := Tryz.checked) false (manifestStrokeWorld os) #[.slice none 0 0, .slice none 0 0, .slice none 0 0] rfl (by kernel_rfl) (by kernel_rfl) (by kernel_rfl)
      (OpenSpec.preRow_of_cond 8 hx (by kernel_rfl) (fun k hk => by cases hk) (by kernel_rfl) (manifestStroke_met os))) ?_
  intro W base args ds gs before hval0 hW _ _ hsz hL _ _
  have hval : ∀ (j : Nat) t v, Tryz.f6.params[j]? = some t → args[j]? = some v → Value.okWide Tryz.prog W .any base t v := hval0
  have hW' := hW
  obtain ⟨p, q, hA0, hV, rfl, hfz, hnd⟩ := hW
  have hA : DataW.TrodAll enc Tryz.prog W 0 (fun _ => true) true Tryz.f6.params.toList args.toList ds p := hA0
  rw [Tryz.params6] at hA hsz hval
  obtain ⟨v0, vs0, d0, ds0, p0, q0, hargs, rfl, rfl, h0, r0⟩ := trodAll_cons hA
  obtain ⟨v1, vs1, d1, ds1, p1, q1, rfl, rfl, rfl, h1, r1⟩ := trodAll_cons r0
  obtain ⟨v2, vs2, d2, ds2, p2, q2, rfl, rfl, rfl, h2, r2⟩ := trodAll_cons r1
  obtain ⟨rfl, rfl, rfl⟩ := trodAll_nil r2
  obtain rfl : args = #[v0, v1, v2] := by cases args; simp_all
  obtain ⟨rfl, rfl⟩ := trodVars_none hV
  have k0 := h0
  have lt0 : ∀ x ∈ p0, x.block < W.heap.size := by obtain ⟨m, hm⟩ := k0; exact DataW.trod_lt m _ _ _ hm
  obtain ⟨a0, len0, cap0, rfl⟩ := okWide_slice Tryz.underlying76 (hval 0 76 v0 rfl rfl)
  obtain ⟨vs0', hb0, hin0⟩ : ∃ l, VersAt W (.slice a0 len0 cap0) l ∧ ∀ r ∈ l, VerIn r := by
    obtain ⟨fuel, hf⟩ := h0
    exact open_vers hf (sized_of hsz (j := 0) rfl rfl)
  have k1 := h1
  have lt1 : ∀ x ∈ p1, x.block < W.heap.size := by obtain ⟨m, hm⟩ := k1; exact DataW.trod_lt m _ _ _ hm
  obtain ⟨a1, len1, cap1, rfl⟩ := okWide_slice Tryz.underlying77 (hval 1 77 v1 rfl rfl)
  obtain ⟨zs1, hb1, hi1, ho1⟩ : ∃ zs, IntsAt W (.slice a1 len1 cap1) zs ∧ (∀ n ∈ zs, I64 n) ∧ (∀ a l c, Value.slice a1 len1 cap1 = .slice (some a) l c → 0 < l → a.block < W.heap.size) := by
    obtain ⟨fuel, hf⟩ := h1
    exact open_intsV hf
  have k2 := h2
  have lt2 : ∀ x ∈ p2, x.block < W.heap.size := by obtain ⟨m, hm⟩ := k2; exact DataW.trod_lt m _ _ _ hm
  obtain ⟨a2, len2, cap2, rfl⟩ := okWide_slice Tryz.underlying77 (hval 2 77 v2 rfl rfl)
  obtain ⟨zs2, hb2, hi2, ho2⟩ : ∃ zs, IntsAt W (.slice a2 len2 cap2) zs ∧ (∀ n ∈ zs, I64 n) ∧ (∀ a l c, Value.slice a2 len2 cap2 = .slice (some a) l c → 0 < l → a.block < W.heap.size) := by
    obtain ⟨fuel, hf⟩ := h2
    exact open_intsV hf
  have hT : TabIn W := tabIn_of (rest := []) hL
  clear hA0 hval0
  refine (manifestStroke_walk hT hb0 hin0 hb1 hi1 ho1 hb2 hi2 ho2).mono fun e W' ⟨he, hu⟩ => ?_
  subst he
  have bel : Below W.heap.size W W' := hu.below (Nat.le_refl _) (fun _ e => e.elim)
  exact ⟨_, rfl, _, _, _, [], _, [], hW', trodAll_mk1 (shut_bool Tryz.underlying4 _), (trodAll_cons_mk (Below.trod laidOut (by kernel_rfl) (of_decide_eq_true (by kernel_rfl)) k0 bel lt0) (trodAll_cons_mk (Below.trod laidOut (by kernel_rfl) (of_decide_eq_true (by kernel_rfl)) k1 bel lt1) (trodAll_cons_mk (Below.trod laidOut (by kernel_rfl) (of_decide_eq_true (by kernel_rfl)) k2 bel lt2) trodAll_mk0))), rfl, bel.frame _, fun h => by cases h⟩

theorem manifestStroke_said : Rows.ManifestStrokeSaid :=
  OpenClaim.holds_of_cond 6 Tryz.f6 rfl rfl rfl rfl rfl rfl rfl ⟨rfl, rfl, rfl, rfl, rfl⟩ rfl rfl rfl rfl rfl (by kernel_rfl) Tryz.func6 (by kernel_rfl)
    (of_decide_eq_true (by kernel_rfl)) (by unfold Func.isWrapper; first | (rw [if_pos (by decide +kernel)]; kernel_rfl) | (rw [if_neg (by decide +kernel)]; exact ⟨rfl, rfl⟩))
    (fun os started H enc _ F => by rw [OpenClaim.pre_eq_preRow]; exact manifestStroke_lifted os started H enc F)

/-- No parameter wants a stand-in; the program's own looks are off. -/
theorem manifestStroke_plain (f : FuncId) (fn : Func) (hf : Tryz.pinned.checked.prog.funcNamed "strata/stratalaw10.ManifestStroke" = some f) (hfn : Tryz.pinned.checked.prog.funcs[f]? = some fn) :
    false = Tryz.pinned.checked.prog.looks [] ∧ ∀ (j : Nat) t, fn.params[j]? = some t → Tryz.pinned.checked.prog.wantsStandIn t = false := by
  obtain rfl : f = 6 := Option.some.inj ((show Tryz.prog.funcNamed "strata/stratalaw10.ManifestStroke" = some 6 by kernel_rfl).symm.trans hf) |>.symm
  obtain rfl : fn = Tryz.f6 := (Option.some.inj (Tryz.func6.symm.trans hfn)).symm
  refine ⟨by kernel_rfl, fun j t ht => ?_⟩
  rw [Tryz.params6] at ht
  have hm : t ∈ [76, 77, 77] := by simpa using Array.mem_of_getElem? ht
  have hall : ([76, 77, 77].all fun u => !Tryz.prog.wantsStandIn u) = true := by kernel_rfl
  exact (show Tryz.prog.wantsStandIn t = false by simpa using List.all_eq_true.1 hall t hm)

/-- THE CARD. -/
theorem manifestStroke_card : Rows.ManifestStrokeCardSaid :=
  Claim7.holds_tied_plain_at .later [] _ _ _ _ manifestStroke_said (fun _ h => by cases h) (by kernel_rfl) (fun _ h => by cases h) manifestStroke_row_tie rfl ⟨rfl, rfl⟩ (by kernel_rfl) rfl manifestStroke_plain (by kernel_rfl)
#print axioms manifestStroke_card
end Go.Proofs.YtgaidmohdhaonaaGreatDoor
