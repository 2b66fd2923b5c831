/-
  Plain law: a disk of empty files; what Create and Sweep make of it.
  ManifestSweeps' memory: a disk of empty files, a list of their names, boxes beside; texts that came in. No walk stands here.
-/
import Derived.Test.YtgaidmohdhaonaaGreatDoorST
import Derived.Test.YtgaidmohdhaonaaGreatDoorSE
import Derived.Test.YtgaidmohdhaonaaGreatDoorSU
import Derived.Test.YtgaidmohdhaonaaGreatDoorSB
import Derived.Test.YtgaidmohdhaonaaGreatDoorYR
namespace Go.Proofs.YtgaidmohdhaonaaGreatDoor
set_option linter.unusedVariables false
set_option linter.unusedSimpArgs false
set_option linter.unnecessarySimpa false
set_option linter.unusedSectionVars false
open Go Go.RowKit

def mkF (N : List ByteArray) : List FileA := N.map fun n => ⟨n, [], 0⟩
theorem mkF_names (N : List ByteArray) : (mkF N).map (·.name) = N := by unfold mkF; rw [List.map_map]; exact List.map_id N
theorem find_in : ∀ {N : List ByteArray} {n : ByteArray}, n ∈ N → findP (mkF N) n = some ⟨n, [], 0⟩
  | x :: N, n, h => by
    unfold findP mkF
    rw [List.map_cons]
    by_cases hx : x = n
    · subst hx
      rw [List.find?_cons_of_pos (by rw [beq_bytes]; simp)]
    · rw [List.find?_cons_of_neg (by rw [beq_bytes]; simpa using hx)]
      exact find_in ((List.mem_cons.1 h).resolve_left (fun e => hx e.symm))
theorem find_out {N : List ByteArray} {n : ByteArray} (h : n ∉ N) : findP (mkF N) n = none :=
  findP_none (fun f hf => by
    obtain ⟨x, hx, rfl⟩ := List.mem_map.1 hf
    exact fun e => h (by simp only at e; rw [← e]; exact hx))

/-- An unarmed disk of empty files of these names. -/
structure Em (a : DiskA) (N : List ByteArray) : Prop where
  fl : Fl 4096 a (mkF N)
  nd : N.Nodup
  ok : ∀ n ∈ N, nameOk n.data.toList = true

section
variable {a : DiskA} {N : List ByteArray} {n : ByteArray}
theorem Em.new (h : Em a N) (ho : nameOk n.data.toList = true) (hn : n ∉ N) (hl : N.length < 256) : (createP a n).1 = 0 ∧ Em (createP a n).2 (N ++ [n]) := by
  obtain ⟨h1, h2⟩ := h.fl.create ho (find_out hn) (by unfold mkF; rw [List.length_map]; exact hl)
  refine ⟨h1, by unfold mkF at h2 ⊢; rw [List.map_append]; exact h2, ?_, fun x hx => ?_⟩
  · refine List.nodup_append.2 ⟨h.nd, by simp, fun x hx y hy e => ?_⟩
    rw [List.mem_singleton] at hy
    subst hy; subst e
    exact hn hx
  · rcases List.mem_append.1 hx with hx | hx
    · exact h.ok x hx
    · rw [List.mem_singleton] at hx; subst hx; exact ho
theorem Em.create (h : Em a N) (hl : N.length < 256) : ((createP a n).1 = 0 ∧ Em (createP a n).2 (N ++ [n]) ∧ n ∉ N) ∨ ((createP a n).1 ≠ 0 ∧ Em (createP a n).2 N) := by
  by_cases ho : nameOk n.data.toList = true
  · by_cases hn : n ∈ N
    · right
      have e : createP a n = (41, a) := by
        unfold createP
        rw [lookP_up h.fl.down ho, if_neg (by simp), h.fl.files, find_in hn, if_pos (by rfl)]
      rw [e]
      exact ⟨(by decide : (41 : Int) ≠ 0), h⟩
    · left
      obtain ⟨h1, h2⟩ := h.new ho hn hl
      exact ⟨h1, h2, hn⟩
  · right
    have e : createP a n = (40, a) := by
      have hlk : lookP a n false = 40 := by
        unfold lookP lookRes
        rw [h.fl.down, (by simpa using ho : nameOk n.data.toList = false)]
        rfl
      unfold createP
      rw [hlk, if_pos (by decide)]
    rw [e]
    exact ⟨(by decide : (40 : Int) ≠ 0), h⟩
theorem Em.delete (h : Em a N) (hn : n ∈ N) : (deleteP a n).1 = 0 ∧ Em (deleteP a n).2 (N.filter fun x => decide (x ≠ n)) := by
  obtain ⟨h1, h2⟩ := h.fl.delete (h.ok n hn) (find_in hn)
  refine ⟨h1, ?_, h.nd.filter _, fun x hx => h.ok x (List.mem_filter.1 hx).1⟩
  have e : dropA (mkF N) n = mkF (N.filter fun x => decide (x ≠ n)) := by
    unfold dropA mkF
    rw [List.filter_map]
    rfl
  rw [← e]
  exact h2
theorem Em.there (h : Em a N) (hn : n ∈ N) : lookP a n true = 0 := by
  rw [lookP_up h.fl.down (h.ok n hn), h.fl.files, find_in hn, if_neg (by simp)]
theorem Em.gone (h : Em a N) (ho : nameOk n.data.toList = true) (hn : n ∉ N) : lookP a n true = 42 := by
  rw [lookP_up h.fl.down ho, h.fl.files, find_out hn, if_pos ⟨rfl, rfl⟩]
theorem Em.list (h : Em a N) (pre : ByteArray) : listP a pre = (sortNames N).filter (hasPre pre) := by
  unfold listP
  rw [h.fl.files, mkF_names]
theorem Em.all (h : Em a N) : (listP a ⟨#[]⟩).length = N.length := by
  rw [h.list, List.filter_eq_self.2 (fun n _ => by simp [hasPre, Lib.hasPrefix]), (sortNames_perm _).length_eq]

theorem sweepR_em (g : ByteArray → Bool) : ∀ (L gone : List ByteArray) (a : DiskA) (N : List ByteArray), Em a N → L.Nodup → (∀ f ∈ L, f ∈ N) →
    ∃ a' N', sweepR g L gone a = ((gone ++ L.filter g, 0), a') ∧ Em a' N' ∧ (∀ n, n ∈ N' ↔ n ∈ N ∧ ¬ (n ∈ L ∧ g n = true)) ∧ N'.length + (L.filter g).length = N.length
  | [], gone, a, N, h, _, _ => ⟨a, N, by simp [sweepR], h, fun n => by simp, by simp⟩
  | f :: L, gone, a, N, h, hd, hm => by
    obtain ⟨hfL, hdL⟩ := List.nodup_cons.1 hd
    rw [sweepR_cons]
    by_cases hg : g f = false
    · obtain ⟨a', N', h1, h2, h3, h4⟩ := sweepR_em g L gone a N h hdL (fun x hx => hm x (List.mem_cons_of_mem _ hx))
      have hfil : (f :: L).filter g = L.filter g := List.filter_cons_of_neg (by rw [hg]; simp)
      refine ⟨a', N', by rw [if_pos hg, h1, hfil], h2, fun n => ?_, by rw [hfil]; exact h4⟩
      rw [h3 n]
      refine and_congr_right (fun _ => not_congr ⟨fun e => ⟨List.mem_cons_of_mem _ e.1, e.2⟩, fun e => ⟨(List.mem_cons.1 e.1).resolve_left (fun e2 => by rw [e2, hg] at e; exact Bool.noConfusion e.2), e.2⟩⟩)
    · have hg' : g f = true := by simpa using hg
      obtain ⟨hd1, hd2⟩ := h.delete (hm f (List.mem_cons_self ..))
      obtain ⟨a', N', h1, h2, h3, h4⟩ := sweepR_em g L (gone ++ [f]) (deleteP a f).2 _ hd2 hdL (fun x hx => List.mem_filter.2 ⟨hm x (List.mem_cons_of_mem _ hx), by simp; rintro rfl; exact hfL hx⟩)
      have hfil : (f :: L).filter g = f :: L.filter g := List.filter_cons_of_pos hg'
      have hlen : (N.filter fun x => decide (x ≠ f)).length + 1 = N.length := by
        have hfN := hm f (List.mem_cons_self ..)
        have hnd := h.nd
        clear h1 h2 h3 h4 hd2 hm h
        induction N with
        | nil => cases hfN
        | cons x N ih =>
          obtain ⟨hx1, hx2⟩ := List.nodup_cons.1 hnd
          by_cases e : x = f
          · subst e
            rw [List.filter_cons_of_neg (by simp), List.filter_eq_self.2 (fun y hy => by simp; rintro rfl; exact hx1 hy)]
            rfl
          · rw [List.filter_cons_of_pos (by simpa using e), List.length_cons, List.length_cons, ih ((List.mem_cons.1 hfN).resolve_left (fun e2 => e e2.symm)) hx2]
      refine ⟨a', N', by rw [if_neg (by rw [hg']; decide), if_neg (by rw [hd1]; decide), h1, hfil, List.append_assoc]; rfl, h2, fun n => ?_, by rw [hfil, List.length_cons]; omega⟩
      rw [h3 n, List.mem_filter]
      constructor
      · rintro ⟨⟨e1, e2⟩, e3⟩
        refine ⟨e1, fun e4 => e3 ⟨(List.mem_cons.1 e4.1).resolve_left (by simpa using e2), e4.2⟩⟩
      · rintro ⟨e1, e2⟩
        exact ⟨⟨e1, by simp; rintro rfl; exact e2 ⟨List.mem_cons_self .., hg'⟩⟩, fun e3 => e2 ⟨List.mem_cons_of_mem _ e3.1, e3.2⟩⟩
end

theorem sort_strict {N : List ByteArray} (h : N.Nodup) : (sortNames N).Pairwise (fun a b => a.data.toList < b.data.toList) := by
  have h1 := sortNames_sorted N
  have h2 : (sortNames N).Nodup := (sortNames_perm N).nodup_iff.2 h
  refine (h1.and h2).imp ?_
  rintro a b ⟨h3, h4⟩
  simp only [leB, decide_eq_true_eq] at h3
  by_cases hlt : a.data.toList < b.data.toList
  · exact hlt
  · have h5 : b.data.toList ≤ a.data.toList := hlt
    exact absurd (WideShapes.bytes_inj (List.le_antisymm h3 h5)) h4

abbrev pB : ByteArray := { data := #[112, 46] }
abbrev pTmp : ByteArray := { data := #[112, 46, 77, 65, 78, 73, 70, 69, 83, 84, 46, 84, 77, 80] }
abbrev pSnap : ByteArray := { data := #[112, 46, 83, 78, 65, 80] }
abbrev p07 : ByteArray := { data := #[112, 46, 82, 85, 78, 45, 48, 55] }
def rnP (i : Nat) : ByteArray := runName pB ((i : Int) + 1)
def rnCheck (i : Nat) : Bool :=
  decide ((rnP i).data.toList ≠ pTmp.data.toList) && decide ((rnP i).data.toList ≠ pSnap.data.toList) && decide ((rnP i).data.toList ≠ p07.data.toList) && hasPre pB (rnP i) && decide (numOf pB (rnP i) = (i : Int) + 1) && nameOk (rnP i).data.toList && decide (pTmp.data.toList < (rnP i).data.toList)
theorem rn_all : (List.range 40).all rnCheck = true := by kernel_rfl
theorem rn_at {i : Nat} (hi : i < 40) : rnP i ≠ pTmp ∧ rnP i ≠ pSnap ∧ rnP i ≠ p07 ∧ hasPre pB (rnP i) = true ∧ isRunP pB (rnP i) = true ∧ nameOk (rnP i).data.toList = true ∧ pTmp.data.toList < (rnP i).data.toList := by
  have h := List.all_eq_true.1 rn_all i (List.mem_range.2 hi)
  simp only [rnCheck, Bool.and_eq_true, decide_eq_true_eq] at h
  obtain ⟨⟨⟨⟨⟨⟨h1, h2⟩, h3⟩, h4⟩, h5⟩, h6⟩, h7⟩ := h
  refine ⟨fun e => h1 (by rw [e]), fun e => h2 (by rw [e]), fun e => h3 (by rw [e]), h4, ?_, h6, h7⟩
  unfold isRunP
  rw [h5, decide_eq_true (by omega), decide_eq_true (by rfl)]
  rfl
theorem p_tmp : pB ++ tempB = pTmp := by kernel_rfl
theorem p_facts : nameOk pTmp.data.toList = true ∧ nameOk pSnap.data.toList = true ∧ nameOk p07.data.toList = true ∧ hasPre pB pTmp = true ∧ hasPre pB pSnap = true ∧ hasPre pB p07 = true := ⟨by kernel_rfl, by kernel_rfl, by kernel_rfl, by kernel_rfl, by kernel_rfl, by kernel_rfl⟩
theorem p_ne : pTmp ≠ pSnap ∧ pTmp ≠ p07 ∧ pSnap ≠ p07 := ⟨fun e => absurd (congrArg ByteArray.size e) (by decide +kernel), fun e => absurd (congrArg ByteArray.size e) (by decide +kernel), fun e => absurd (congrArg ByteArray.size e) (by decide +kernel)⟩
theorem snap_not : isRunP pB pSnap = false := by
  have h : numOf pB pSnap = 0 := by kernel_rfl
  unfold isRunP
  rw [h]; rfl
theorem p07_not : isRunP pB p07 = false := by
  have h : numOf pB p07 = 7 := by kernel_rfl
  unfold isRunP
  rw [h, decide_eq_false (p := runName pB 7 = p07) (fun e => absurd (congrArg ByteArray.size e) (by decide +kernel)), Bool.and_false]

/-- What ManifestSweeps asks. -/
theorem sweeps {a : DiskA} {N T Q : List ByteArray} {x : VerA} (hE : Em a N) (hN : N = T ++ Q ++ [pTmp, pSnap, p07]) (hT : ∀ t ∈ T, ∃ i, i < 40 ∧ t = rnP i) (hQ : ∀ q ∈ Q, hasPre pB q = false) (hx : checkA x = 0) :
    ∃ gone a' N', sweepP a pB x = ((gone, 0), a') ∧ Em a' N' ∧ N'.length + gone.length = N.length ∧ gone.length = (T.filter (fun t => !namedB pB x.runs t)).length + 1 ∧ gone[0]? = some pTmp ∧ gone.Pairwise (fun a b => a.data.toList < b.data.toList) ∧
      ∀ t ∈ T, nameOk t.data.toList = true ∧ (namedB pB x.runs t = true → t ∈ N') ∧ (namedB pB x.runs t = false → t ∉ N') := by
  obtain ⟨o1, o2, o3, f1, f2, f3⟩ := p_facts
  obtain ⟨e1, e2, e3⟩ := p_ne
  have hmem : ∀ n, n ∈ N ↔ n ∈ T ∨ n ∈ Q ∨ n = pTmp ∨ n = pSnap ∨ n = p07 := fun n => by
    rw [hN]; simp only [List.mem_append, List.mem_cons, List.not_mem_nil, or_false, or_assoc]
  have hL : listP a pB = (sortNames N).filter (hasPre pB) := hE.list pB
  obtain ⟨L, hLL⟩ : ∃ L, L = listP a pB := ⟨_, rfl⟩
  rw [← hLL] at hL
  have hLst : L.Pairwise (fun a b => a.data.toList < b.data.toList) := by rw [hL]; exact (sort_strict hE.nd).filter _
  have hLnd : L.Nodup := hLst.imp (fun h e => by rw [e] at h; exact absurd h (List.lt_irrefl _))
  have hLm : ∀ n, n ∈ L ↔ n ∈ N ∧ hasPre pB n = true := fun n => by rw [hL, List.mem_filter, (sortNames_perm N).mem_iff]
  have hask : askedP a pB = 0 := by
    unfold askedP
    rw [p_tmp, hE.there ((hmem pTmp).2 (.inr (.inr (.inl rfl)))), if_neg (by decide), if_neg (by decide)]
  obtain ⟨a', N', h1, h2, h3, h4⟩ := sweepR_em (goesP pB x.runs) L [] a N hE hLnd (fun f hf => ((hLm f).1 hf).1)
  have hsw : sweepP a pB x = ((L.filter (goesP pB x.runs), 0), a') := by
    unfold sweepP
    rw [hask, if_neg (by decide), if_neg (by rw [hx]; simp), ← hLL, h1, List.nil_append]
  have hg1 : goesP pB x.runs pTmp = true := by unfold goesP; rw [p_tmp, decide_eq_true rfl]; rfl
  have hgT : ∀ t ∈ T, goesP pB x.runs t = !namedB pB x.runs t := fun t ht => by
    obtain ⟨i, hi, rfl⟩ := hT t ht
    obtain ⟨q1, -, -, -, q5, -⟩ := rn_at hi
    unfold goesP
    rw [p_tmp, decide_eq_false q1, q5]
    rfl
  have hgS : goesP pB x.runs pSnap = false := by unfold goesP; rw [p_tmp, decide_eq_false (fun e => e1 e.symm), snap_not]; rfl
  have hg7 : goesP pB x.runs p07 = false := by unfold goesP; rw [p_tmp, decide_eq_false (fun e => e2 e.symm), p07_not]; rfl
  have hTL : ∀ t ∈ T, t ∈ L := fun t ht => by
    obtain ⟨i, hi, rfl⟩ := hT t ht
    exact (hLm _).2 ⟨(hmem _).2 (.inl ht), (rn_at hi).2.2.2.1⟩
  obtain ⟨G, hG⟩ : ∃ G, G = L.filter (goesP pB x.runs) := ⟨_, rfl⟩
  rw [← hG] at hsw h4
  have hGm : ∀ n, n ∈ G ↔ n = pTmp ∨ (n ∈ T ∧ namedB pB x.runs n = false) := fun n => by
    rw [hG, List.mem_filter, hLm, hmem]
    constructor
    · rintro ⟨⟨hn, hp⟩, hgo⟩
      rcases hn with hn | hn | hn | hn | hn
      · right; rw [hgT n hn] at hgo; exact ⟨hn, by simpa using hgo⟩
      · rw [hQ n hn] at hp; cases hp
      · exact .inl hn
      · rw [hn, hgS] at hgo; cases hgo
      · rw [hn, hg7] at hgo; cases hgo
    · rintro (rfl | ⟨hn, hb⟩)
      · exact ⟨⟨.inr (.inr (.inl rfl)), f1⟩, hg1⟩
      · exact ⟨⟨.inl hn, ((hLm n).1 (hTL n hn)).2⟩, by rw [hgT n hn, hb]; rfl⟩
  have hGst : G.Pairwise (fun a b => a.data.toList < b.data.toList) := by rw [hG]; exact hLst.filter _
  have hGnd : G.Nodup := by rw [hG]; exact hLnd.filter _
  have hTnd : T.Nodup := by
    have h := hE.nd
    rw [hN, List.append_assoc] at h
    exact (List.nodup_append.1 h).1
  have htmpT : pTmp ∉ T := fun e => by
    obtain ⟨i, hi, e2⟩ := hT _ e
    exact (rn_at hi).1 e2.symm
  have hperm : G.Perm (pTmp :: T.filter (fun t => !namedB pB x.runs t)) := by
    refine (List.perm_ext_iff_of_nodup hGnd ?_).2 (fun n => ?_)
    · exact List.nodup_cons.2 ⟨fun e => htmpT (List.mem_filter.1 e).1, hTnd.filter _⟩
    · rw [hGm, List.mem_cons, List.mem_filter]
      simp
  refine ⟨G, a', N', hsw, h2, h4, by rw [hperm.length_eq, List.length_cons], ?_, hGst, fun t ht => ?_⟩
  · have hin : pTmp ∈ G := (hGm pTmp).2 (.inl rfl)
    cases G with
    | nil => cases hin
    | cons y G =>
      by_cases hy : y = pTmp
      · rw [hy]; rfl
      · exfalso
        have h5 := (List.pairwise_cons.1 hGst).1 pTmp ((List.mem_cons.1 hin).resolve_left (fun e => hy e.symm))
        have h6 := ((hGm y).1 (List.mem_cons_self ..)).resolve_left hy
        obtain ⟨i, hi, rfl⟩ := hT y h6.1
        exact absurd (List.lt_trans h5 (rn_at hi).2.2.2.2.2.2) (List.lt_irrefl _)
  · obtain ⟨i, hi, rfl⟩ := hT t ht
    refine ⟨(rn_at hi).2.2.2.2.2.1, fun hb => (h3 _).2 ⟨(hmem _).2 (.inl ht), fun e => ?_⟩, fun hb e => ((h3 _).1 e).2 ⟨hTL _ ht, by rw [hgT _ ht, hb]; rfl⟩⟩
    rw [hgT _ ht, hb] at e
    exact Bool.noConfusion e.2

end Go.Proofs.YtgaidmohdhaonaaGreatDoor

namespace Go.Proofs.YtgaidmohdhaonaaGreatDoor
set_option linter.unusedVariables false
set_option linter.unusedSimpArgs false
set_option linter.unnecessarySimpa false
set_option linter.unusedSectionVars false
open Go Go.RowKit

/-- A list of texts that came in. -/
def StrsAt (w : World) (v : Value) (l : List ByteArray) : Prop :=
  ∃ ao cap, v = .slice ao l.length cap ∧ l.length ≤ cap ∧ cap ≤ 9223372036854775807 ∧ ∀ k (hk : k < l.length), ∃ b o, ao = some ⟨b, o, none⟩ ∧ b < w.heap.size ∧ w.cell? ⟨b, o + k, none⟩ = some (.string l[k])
theorem StrsAt.keep {w w' : World} {v : Value} {l : List ByteArray} (h : StrsAt w v l) (hu : Upd (fun _ => False) w w') : StrsAt w' v l := by
  obtain ⟨ao, cap, e, h1, h2, h3⟩ := h
  refine ⟨ao, cap, e, h1, h2, fun k hk => ?_⟩
  obtain ⟨b, o, ha, hb, hc⟩ := h3 k hk
  exact ⟨b, o, ha, Nat.lt_of_lt_of_le hb hu.size, hu.cell hb hc⟩

/-- A disk of empty files, a list of texts, boxes beside: all made since w. -/
structure SwA (w W : World) (p : Nat) (s : DS) (tv : Value) (T N : List ByteArray) (R : List (Nat × Obj)) : Prop where
  ins : s.In W
  pp : s.p = p
  low : ∀ k ∈ s.blocks, w.heap.size ≤ k
  upd : Upd (fun _ => False) w W
  em : Em s.abs N
  tr : Strs w W tv T
  tn : ∀ b, tv.ownBlock = some b → b ∉ s.blocks
  box : ∀ r ∈ R, W.heap[r.1]? = some r.2 ∧ w.heap.size ≤ r.1 ∧ r.1 ∉ s.blocks ∧ ¬ tv.ownBlock = some r.1

section
variable {w W W' : World} {p : Nat} {s s2 : DS} {tv : Value} {T N N' : List ByteArray} {R : List (Nat × Obj)}
theorem SwA.quiet (h : SwA w W p s tv T N R) (hu : Upd (fun _ => False) W W') : SwA w W' p s tv T N R :=
  ⟨h.ins.upd hu (fun _ _ e => e), h.pp, h.low, h.upd.trans hu (fun _ _ e => e), h.em, h.tr.upd hu (fun _ _ e => e), h.tn, fun r hr => ⟨hu.get (h.box r hr).1 (fun e => e), (h.box r hr).2⟩⟩
theorem SwA.step (h : SwA w W p s tv T N R) (hst : Step W W' s s2) (he : Em s2.abs N') : SwA w W' p s2 tv T N' R := by
  have hb : ∀ b, b < W.heap.size → b ∉ s.blocks → b ∉ s2.blocks := fun b h1 h2 e => (hst.foot b e).elim h2 (fun e => by omega)
  exact ⟨hst.ins, hst.p.trans h.pp, fun k hk => (hst.foot k hk).elim (h.low k) (fun e => Nat.le_trans h.upd.size e), h.upd.trans hst.upd (fun k hk e => by have := h.low k e; omega), he, h.tr.upd hst.upd (fun b e => h.tn b e), fun b e => hb b (h.tr.lt b e) (h.tn b e), fun r hr => by
    obtain ⟨b1, b2, b3, b4⟩ := h.box r hr
    exact ⟨hst.upd.get b1 b3, b2, hb r.1 (lt_of_heap b1) b3, b4⟩⟩
theorem SwA.push {ao : Option Addr} {n c : Nat} (h : SwA w W p s (.slice ao n c) T N R) (hn : n = T.length) (f : ByteArray) (hl : T.length ≤ 1000000) :
    ∃ ao' c' W', (Builtin.append_ #[73, 73] 73 #[.slice ao n c, .slice (some ⟨W.heap.size, 0, none⟩) 1 1]).run Tryz.prog (W.alloc (.cells #[.string f] 9)) = .ok (.slice ao' (n + 1) c') W' ∧ SwA w W' p s (.slice ao' (n + 1) c') (T ++ [f]) N R := by
  obtain ⟨ao', c', W', hrun, hs, hu, ho⟩ := h.tr.push hn h.upd.size f hl
  refine ⟨ao', c', W', hrun, h.ins.upd hu (fun b hb e => h.tn b e hb), h.pp, h.low, h.upd.trans hu (fun b hb e => by have := h.tr.2 b e; omega), h.em, hs, fun b e => ?_, fun r hr => ?_⟩
  · rcases ho b e with e | e
    · exact h.tn b e
    · exact fun e2 => by have := h.ins.lt b e2; omega
  · obtain ⟨b1, b2, b3, b4⟩ := h.box r hr
    refine ⟨hu.get b1 b4, b2, b3, fun e => ?_⟩
    rcases ho _ e with e | e
    · exact b4 e
    · have := lt_of_heap b1; omega
theorem SwA.add (h : SwA w W p s tv T N R) (o : Obj) : SwA w (W.alloc o) p s tv T N ((W.heap.size, o) :: R) := by
  have hu : Upd (fun _ => False) W (W.alloc o) := (Upd.refl _ _).alloc o
  refine ⟨(h.quiet hu).ins, h.pp, h.low, (h.quiet hu).upd, h.em, (h.quiet hu).tr, h.tn, fun r hr => ?_⟩
  rcases List.mem_cons.1 hr with rfl | hr
  · exact ⟨heap_alloc_new W o, h.upd.size, fun e => by have := h.ins.lt _ e; simp only at this; omega, fun e => by have := h.tr.lt _ e; simp only at this; omega⟩
  · exact (h.quiet hu).box r hr
theorem SwA.set {b : Nat} {o o' : Obj} {R' : List (Nat × Obj)} (h : SwA w W p s tv T N R) (hb : (b, o) ∈ R) (hu : Upd (fun k => k = b) W W') (ho : W'.heap[b]? = some o') (hR : ∀ r ∈ R', r ∈ R ∧ r.1 ≠ b) : SwA w W' p s tv T N ((b, o') :: R') := by
  obtain ⟨b1, b2, b3, b4⟩ := h.box _ hb
  simp only at b1 b2 b3 b4
  refine ⟨h.ins.upd hu (fun k hk e => b3 (e ▸ hk)), h.pp, h.low, h.upd.trans hu (fun k hk e => by omega), h.em, h.tr.upd hu (fun k e e2 => b4 (e2 ▸ e)), h.tn, fun r hr => ?_⟩
  rcases List.mem_cons.1 hr with rfl | hr
  · exact ⟨ho, b2, b3, b4⟩
  · obtain ⟨c1, c2, c3, c4⟩ := h.box r (hR r hr).1
    exact ⟨hu.get c1 (hR r hr).2, c2, c3, c4⟩
theorem SwA.sub {R' : List (Nat × Obj)} (h : SwA w W p s tv T N R) (hR : ∀ r ∈ R', r ∈ R) : SwA w W p s tv T N R' := ⟨h.ins, h.pp, h.low, h.upd, h.em, h.tr, h.tn, fun r hr => h.box r (hR r hr)⟩
end

theorem IntsAt.get {w W : World} {ao : Option Addr} {n c k : Nat} {xs : List Int} (h : IntsAt w (.slice ao n c) xs) (hu : Upd (fun _ => False) w W) (hk : k < xs.length) : ∃ g o, ao = some ⟨g, o, none⟩ ∧ g < W.heap.size ∧ W.cell? ⟨g, o + k, none⟩ = some (.int .i64 xs[k]) := by
  obtain ⟨ao', cap, e, -, h3⟩ := h
  injection e with e1 _ _
  subst e1
  obtain ⟨a, ha, hs, hc⟩ := h3 k hk
  obtain ⟨g, o, s⟩ := a
  simp only at hs hc
  subst hs
  have hb := block_lt (hc k hk)
  exact ⟨g, o, ha, Nat.lt_of_lt_of_le hb hu.size, hu.cell hb (hc k hk)⟩

theorem StrsAt.get {w W : World} {ao : Option Addr} {n c k : Nat} {xs : List ByteArray} (h : StrsAt w (.slice ao n c) xs) (hu : Upd (fun _ => False) w W) (hk : k < xs.length) : ∃ g o, ao = some ⟨g, o, none⟩ ∧ g < W.heap.size ∧ W.cell? ⟨g, o + k, none⟩ = some (.string xs[k]) := by
  obtain ⟨ao', cap, e, -, -, h3⟩ := h.keep hu
  injection e with e1 _ _
  subst e1
  exact h3 k hk

theorem qB_pre (s : ByteArray) : hasPre pB (({ data := #[113] } : ByteArray) ++ s) = false := by
  unfold hasPre Lib.hasPrefix
  rw [ByteArray.data_append, Array.toList_append]
  rfl

set_option maxRecDepth 100000 in
/-- Runs join a list of runs, wherever they lie. -/
theorem RunsOwn.app {W : World} {base : Nat} {v : Value} {L Ls : List MV} (h : RunsOwn W base v L) (a : Addr) (m c : Nat) (hm : Ls.length = m) (hc : ∀ j u, (Ls.flatMap MV.cells)[j]? = some u → W.cell? (a.add j) = some u) (hd : ∀ y ∈ Ls, DataIs W y.f y.m.first ∧ DataIs W y.l y.m.last) (hb : base ≤ W.heap.size) (hn : L.length + m ≤ 1000000) :
    ∃ ao cap w2, (Builtin.append_ #[23, 23] 23 #[v, .slice (some a) m c]).run Tryz.prog W = .ok (.slice ao (L.length + m) cap) w2 ∧ RunsOwn w2 base (.slice ao (L.length + m) cap) (L ++ Ls) ∧ Upd (fun k => v.ownBlock = some k) W w2 ∧ ∀ q, (Value.slice ao (L.length + m) cap).ownBlock = some q → v.ownBlock = some q ∨ W.heap.size ≤ q := by
  obtain ⟨i0, hi, hz0, hz1, hz2⟩ := info_parts Tryz.infoMeta
  have hlen : (Ls.flatMap MV.cells).length = m * 8 := by
    rw [← hm]
    clear hm hc hd hn
    induction Ls with
    | nil => rfl
    | cons y Ls ih => rw [List.flatMap_cons, List.length_append, ih]; simp [MV.cells]; omega
  have hone : ∀ u ∈ Ls.flatMap MV.cells, u.oneCell' = true := by
    intro u hu
    obtain ⟨y, hy, hu⟩ := List.mem_flatMap.1 hu
    obtain ⟨a1, c1, e1, -⟩ := (hd y hy).1.bat
    obtain ⟨a2, c2, e2, -⟩ := (hd y hy).2.bat
    simp only [MV.cells, List.mem_cons, List.not_mem_nil, or_false] at hu
    rcases hu with rfl | rfl | rfl | rfl | rfl | rfl | rfl | rfl <;> first | rfl | (rw [e1]; rfl) | (rw [e2]; rfl)
  obtain ⟨v', w2, hr, hown, hg, -, hat⟩ := run_append_own_at (P := Tryz.prog) W base 23 23 48 i0 _ 8 96 Tryz.underlying23 hi hz0 hz1 hz2 rfl (by decide) v L.length _ h.row a m c (Ls.flatMap MV.cells) hlen hc hone (by unfold maxLen; omega) (by omega) hb
  have hup : Upd (fun k => v.ownBlock = some k) W w2 := (Upd.refl _ _).grown hg (fun k hk _ => hk)
  have hT : ∀ k, v.ownBlock = some k → ∀ cur fr, W.heap[k]? ≠ some (.cells cur 5 fr) := by
    intro k hk cur fr hh
    obtain ⟨-, hh2⟩ := h.row
    rcases hh2 with ⟨rfl, -⟩ | ⟨g, cap, cur', rfl, -, hg', -⟩
    · cases hk
    · simp only [Value.ownBlock, Option.some.injEq] at hk
      subst hk
      rw [hg'] at hh
      injection hh with hh
      injection hh with _ hh
      exact absurd hh (by decide)
  have hro : RunsOwn w2 base v' (L ++ Ls) := by
    refine ⟨by rw [List.length_append, List.flatMap_append, hm]; exact hown, fun y hy => ?_⟩
    rcases List.mem_append.1 hy with hy | hy
    · exact ⟨(h.data y hy).1.keepT hup hT, (h.data y hy).2.keepT hup hT⟩
    · exact ⟨(hd y hy).1.keepT hup hT, (hd y hy).2.keepT hup hT⟩
  obtain ⟨ao, cap, hv'⟩ := hro.slice
  rw [List.length_append, hm] at hv'
  subst hv'
  exact ⟨ao, cap, w2, hr, hro, hup, fun q e => hat.elim (fun h => .inl (h ▸ e)) (fun h => .inr (by rw [h] at e; injection e with e; omega))⟩

set_option maxRecDepth 100000 in
/-- A list of runs joins an empty one. -/
theorem RunsOwn.copy {W : World} {base0 base ge n c2 : Nat} {a2 : Option Addr} {L : List MV} (h : RunsOwn W base0 (.slice a2 n c2) L) (hn : n = L.length) (hge : W.heap[ge]? = some (.cells #[] 48 (0, 0))) (hgb : base ≤ ge) (hb : base ≤ W.heap.size) (hl : L.length ≤ 1000) :
    ∃ ao cap w2, (Builtin.append_ #[23, 23] 23 #[.slice (some ⟨ge, 0, none⟩) 0 0, .slice a2 n c2]).run Tryz.prog W = .ok (.slice ao n cap) w2 ∧ RunsOwn w2 base (.slice ao n cap) L ∧ Upd (fun k => k = ge) W w2 ∧ ∀ q, (Value.slice ao n cap).ownBlock = some q → q = ge ∨ W.heap.size ≤ q := by
  subst hn
  have hem : RunsOwn W base (.slice (some ⟨ge, 0, none⟩) 0 0) [] := ⟨⟨rfl, .inr ⟨ge, 0, #[], rfl, hgb, hge, Nat.le_refl _, Nat.zero_le _, rfl, rfl⟩⟩, fun y hy => by cases hy⟩
  obtain ⟨i0, hi, hz0, hz1, hz2⟩ := info_parts Tryz.infoMeta
  obtain ⟨hll, hr⟩ := id h.row
  rcases hr with ⟨e, h0⟩ | ⟨g, cap, cur, e, hb', hg, h2, h3, h4, h5⟩
  · injection e with e1 e2 e3
    subst e1; subst e3
    have hL : L = [] := List.eq_nil_of_length_eq_zero h0
    subst hL
    refine ⟨some ⟨ge, 0, none⟩, 0, W, ?_, hem, Upd.refl _ _, fun q e => .inl (by injection e with e; exact e.symm)⟩
    simp [Builtin.append_, run_underlying Tryz.underlying23, sizeOf, typeInfo, hi, Builtin.lenOf, Builtin.firstCells, storeCells]
  · injection e with e1 e2 e3
    subst e1; subst e3
    obtain ⟨ao, cap', w2, hrun, hro, hu, ho⟩ := hem.app (Ls := L) ⟨g, 0, none⟩ L.length c2 rfl (fun j u hu => by
      rw [show (Addr.add ⟨g, 0, none⟩ j : Addr) = ⟨g, j, none⟩ from by simp [Addr.add_lit], cell_of_row _ _ j _ _ _ hg, ← Array.getElem?_toList]
      rw [← h5, List.getElem?_take] at hu
      split at hu
      · exact hu
      · cases hu) h.data hb (by simp; omega)
    simp only [List.length_nil, Nat.zero_add, List.nil_append] at hrun hro ho
    exact ⟨ao, cap', w2, hrun, hro, hu.mono (fun k _ e => by injection e with e; exact e.symm), fun q e => (ho q e).imp (fun e => by injection e with e; exact e.symm) id⟩

abbrev k22 : List UInt8 := [97, 0, 1, 0, 0, 127, 255, 255, 255, 255, 255, 255, 254, 127, 255, 255, 255, 255, 255, 255, 254, 5]
def verL (L : List MV) : VerA := ⟨1, 99, 99, 0, 1, [], L.map MV.m⟩
theorem verL_ok : checkA (verL []) = 0 := by kernel_rfl

end Go.Proofs.YtgaidmohdhaonaaGreatDoor
