/-
  Two disks in one world; lists of files that stay.
-/
import Derived.Test.YtohpgmeflmppaaaLawE
import Derived.Test.YtohpgmeflmppaaaLawF
import Derived.Deep.DeepCutAuto
namespace Go.Proofs.Ytohpgmeflmppaaa
set_option linter.unusedVariables false
set_option linter.unusedSimpArgs false
set_option linter.unnecessarySimpa false
set_option linter.unusedSectionVars false
open Go Go.RowKit

/-- Two disks beside one another, both made since w0. -/
structure Two (w0 w : World) (pd pc : Nat) (sd sc : DS) : Prop where
  od : On w0 w pd sd
  oc : On w0 w pc sc
  ap : ∀ k ∈ sd.blocks, k ∉ sc.blocks

theorem Two.flip {w0 w : World} {pd pc : Nat} {sd sc : DS} (h : Two w0 w pd pc sd sc) : Two w0 w pc pd sc sd := ⟨h.oc, h.od, fun k hk hc => h.ap k hc hk⟩

theorem Two.stepd {w0 w w' : World} {pd pc : Nat} {sd sc sd2 : DS} (h : Two w0 w pd pc sd sc) (hst : Step w w' sd sd2) : Two w0 w' pd pc sd2 sc :=
  ⟨h.od.step hst, ⟨h.oc.ins.upd hst.upd (fun k hk hm => h.ap k hm hk), h.oc.p, h.oc.low, (h.od.step hst).upd⟩,
    fun k hk hc => (hst.foot k hk).elim (fun hm => h.ap k hm hc) (fun hm => by have := h.oc.ins.lt k hc; omega)⟩

theorem Two.stepc {w0 w w' : World} {pd pc : Nat} {sd sc sc2 : DS} (h : Two w0 w pd pc sd sc) (hst : Step w w' sc sc2) : Two w0 w' pd pc sd sc2 := (h.flip.stepd hst).flip

theorem Two.more {w0 w w' : World} {pd pc : Nat} {sd sc : DS} (h : Two w0 w pd pc sd sc) (hu : Upd (fun _ => False) w w') : Two w0 w' pd pc sd sc := h.stepd (Step.of_upd h.od.ins hu)

/-- The blocks of a list of files. -/
def ownFiles (v : Value) (l : List FV) (k : Nat) : Prop := v.ownBlock = some k ∨ k ∈ fvBlocks l

theorem FilesAt.keep {S : Nat → Prop} {w w' : World} {base : Nat} {v : Value} {l : List FV} (h : FilesAt w base v l) (hu : Upd S w w') (hn : ∀ k, ownFiles v l k → ¬ S k) : FilesAt w' base v l :=
  ⟨owns_upd h.row hu (fun k hk => hn k (.inl hk)), fun f hf => (h.data f hf).upd hu (fun k hk => hn k (.inr (mem_fvBlocks.2 ⟨f, hf, hk⟩))), h.low, h.nodup⟩

theorem FilesAt.own_low {w : World} {base : Nat} {v : Value} {l : List FV} (h : FilesAt w base v l) {k : Nat} (hk : ownFiles v l k) : base ≤ k :=
  hk.elim (fun h1 => (h.row.lt k h1).1) (fun h1 => h.low k h1)

theorem FilesAt.own_lt {w : World} {base : Nat} {v : Value} {l : List FV} (h : FilesAt w base v l) {k : Nat} (hk : ownFiles v l k) : k < w.heap.size :=
  hk.elim (fun h1 => (h.row.lt k h1).2) (fun h1 => by obtain ⟨f, hf, hb⟩ := mem_fvBlocks.1 h1; exact (h.data f hf).lt k hb)

theorem fileList_le {w : World} {s : DS} (hs : s.In w) : (fileList s).length ≤ 256 := by
  have h := congrArg List.length (fileList_names hs)
  have h2 := (sortNames_perm s.names).length_eq
  have h3 : s.names.length = s.recs.length := by simp [DS.names]
  have := hs.count
  simp at h
  omega

theorem files_small {w : World} {s : DS} (hs : s.In w) {l : List FV} (h : l.map FV.abs = fileList s) : (∀ f ∈ l, f.data.length ≤ 67108864) ∧ l.length ≤ 256 := by
  refine ⟨fun f hf => (fileList_small hs f.abs (by rw [← h]; exact List.mem_map_of_mem hf)).2, ?_⟩
  have := congrArg List.length h
  have h2 := fileList_le hs
  simp at this
  omega

end Go.Proofs.Ytohpgmeflmppaaa
