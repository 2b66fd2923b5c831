/-
  Package stratalaw4's Lists, in memory, walked: marked, Keep.
  Package stratalaw4's Lists.Settle: what each round leaves. No walk stands here.
  Package stratalaw4's Lists, walked: Settle.
-/
import Derived.Test.YtohpgmeflmppaaaGreatQG
import Derived.Test.YtohpgmeflmppaaaGreatGG
import Derived.Deep.RegionLaw
import Derived.StillTailTactics
namespace Go.Proofs.YtohpgmeflmppaaaGreat
set_option linter.unusedVariables false
set_option linter.unusedSimpArgs false
set_option linter.unnecessarySimpa false
set_option linter.unusedSectionVars false
open Go Go.RowKit

/-- A list of files that was handed out, its copy. -/
structure KFile where
  v : Value
  u : Value
  fs : List FV
  gs : List FV

structure KF where
  p : Nat
  lv : Value
  wv : Value
  ls : List KFile

def KFile.kl (x : KFile) : KL := ⟨x.v, x.u, x.fs.length, x.fs.flatMap FV.cells, x.gs.flatMap FV.cells⟩
def KF.kp (F : KF) : KP := ⟨F.p, F.lv, F.wv, F.ls.map KFile.kl⟩
def KF.own (F : KF) (q : Nat) : Prop := F.kp.own q ∨ ∃ i, ∃ h : i < F.ls.length, q ∈ fvBlocks F.ls[i].fs ∨ q ∈ fvBlocks F.ls[i].gs

structure KF.In (w : World) (F : KF) : Prop where
  kp : F.kp.In 37 40 80 3 w
  fs : ∀ i (h : i < F.ls.length), FilesAt w 0 F.ls[i].v F.ls[i].fs
  gs : ∀ i (h : i < F.ls.length), FilesAt w 0 F.ls[i].u F.ls[i].gs
  eq : ∀ i (h : i < F.ls.length), F.ls[i].fs.map FV.abs = F.ls[i].gs.map FV.abs
  small : ∀ i (h : i < F.ls.length), F.ls[i].fs.length ≤ 256 ∧ ∀ f ∈ F.ls[i].fs, f.data.length ≤ 67108864
  dout : ∀ i (h : i < F.ls.length) q, q ∈ fvBlocks F.ls[i].fs ∨ q ∈ fvBlocks F.ls[i].gs → ¬ F.kp.own q
  dlab : ∃ lab : Nat → Nat, ∀ i (h : i < F.ls.length) q, q ∈ fvBlocks F.ls[i].fs → lab q = i

section
variable {w w' : World} {F : KF}

theorem KF.kpl : F.kp.ls.length = F.ls.length := by simp [KF.kp]
theorem KF.kpi {i : Nat} (h : i < F.ls.length) : F.kp.ls[i]'(by simpa [KF.kp] using h) = F.ls[i].kl := by simp [KF.kp]

theorem FilesAt.data_lt {base : Nat} {v : Value} {l : List FV} (h : FilesAt w base v l) {q : Nat} (hq : q ∈ fvBlocks l) : q < w.heap.size := by
  obtain ⟨f, hf, e⟩ := mem_fvBlocks.1 hq
  exact (h.data f hf).lt q e

theorem FilesAt.lower {base base' : Nat} {v : Value} {l : List FV} (h : FilesAt w base v l) (hb : base' ≤ base) : FilesAt w base' v l :=
  ⟨owns_lower h.row hb, h.data, fun k hk => Nat.le_trans hb (h.low k hk), h.nodup⟩

theorem KF.In.lt (h : F.In w) {q : Nat} (hq : F.own q) : q < w.heap.size := by
  rcases hq with hq | ⟨i, hi, hq | hq⟩
  · exact h.kp.lt hq
  · exact (h.fs i hi).data_lt hq
  · exact (h.gs i hi).data_lt hq

theorem KF.oV {i q : Nat} (hi : i < F.ls.length) (e : F.ls[i].v.ownBlock = some q) : F.kp.ownAt (3 + 2 * i) q :=
  KP.oV (by rw [KF.kpl]; exact hi) (by rw [KF.kpi hi]; exact e)
theorem KF.oU {i q : Nat} (hi : i < F.ls.length) (e : F.ls[i].u.ownBlock = some q) : F.kp.ownAt (4 + 2 * i) q :=
  KP.oU (by rw [KF.kpl]; exact hi) (by rw [KF.kpi hi]; exact e)

theorem KF.ownF {i q : Nat} (hi : i < F.ls.length) (e : ownFiles F.ls[i].v F.ls[i].fs q) : F.own q :=
  e.elim (fun e => .inl ⟨_, KF.oV hi e⟩) (fun e => .inr ⟨i, hi, .inl e⟩)
theorem KF.ownG {i q : Nat} (hi : i < F.ls.length) (e : ownFiles F.ls[i].u F.ls[i].gs q) : F.own q :=
  e.elim (fun e => .inl ⟨_, KF.oU hi e⟩) (fun e => .inr ⟨i, hi, .inr e⟩)

theorem KF.In.upd {S : Nat → Prop} (h : F.In w) (hu : Upd S w w') (hn : ∀ q, F.own q → ¬ S q) : F.In w' :=
  ⟨h.kp.upd hu (fun q hq => hn q (.inl hq)), fun i hi => (h.fs i hi).keep hu (fun q hq => hn q (KF.ownF hi hq)), fun i hi => (h.gs i hi).keep hu (fun q hq => hn q (KF.ownG hi hq)), h.eq, h.small, h.dout, h.dlab⟩

/-- What one more list leaves. -/
structure KFStep (w w' : World) (F F' : KF) (v : Value) (fs : List FV) : Prop where
  ins : F'.In w'
  p : F'.p = F.p
  ls : F'.ls.length = F.ls.length + 1
  upd : Upd (fun q => q = F.p ∨ F.lv.ownBlock = some q ∨ F.wv.ownBlock = some q) w w'
  foot : ∀ q, F'.own q → F.own q ∨ ownFiles v fs q ∨ w.heap.size ≤ q

theorem KF.In.kept (h : F.In w) {v u lv' wv' : Value} {fs gs : List FV} {w2 w3 w4 : World} (hv : FilesAt w 0 v fs) (hvo : ∀ q, ownFiles v fs q → ¬ F.own q) (hn : fs.length ≤ 256) (hsm : ∀ f ∈ fs, f.data.length ≤ 67108864)
    (r2 : SRow w2 40 1 lv' (F.ls.length + 1) (F.ls.map KFile.v ++ [v])) (u2 : Upd (fun q => F.lv.ownBlock = some q) w w2) (o2 : ∀ q, lv'.ownBlock = some q → F.lv.ownBlock = some q ∨ w.heap.size ≤ q)
    (u3 : Upd (fun _ => False) (w2.setCell ⟨F.p, 0, none⟩ lv') w3) (hu : FilesAt w3 w2.heap.size u gs) (heq : gs.map FV.abs = fs.map FV.abs)
    (r4 : SRow w4 40 1 wv' (F.ls.length + 1) (F.ls.map KFile.u ++ [u])) (u4 : Upd (fun q => F.wv.ownBlock = some q) w3 w4) (o4 : ∀ q, wv'.ownBlock = some q → F.wv.ownBlock = some q ∨ w3.heap.size ≤ q) :
    KFStep w (w4.setCell ⟨F.p, 1, none⟩ wv') F ⟨F.p, lv', wv', F.ls ++ [⟨v, u, fs, gs⟩]⟩ v fs := by
  have e1 : F.kp.ls.map KL.v = F.ls.map KFile.v := by simp [KF.kp, KFile.kl]
  have e2 : F.kp.ls.map KL.u = F.ls.map KFile.u := by simp [KF.kp, KFile.kl]
  have hgl : gs.length = fs.length := by simpa using congrArg List.length heq
  have hs2 := u2.size
  have hs3 : w2.heap.size ≤ w3.heap.size := by have := u3.size; simpa using this
  have hs4 := u4.size
  have hrow := SRow.of_owns hv.row
  have hrowu := SRow.of_owns hu.row
  have hb := h.kp.kept (v := v) (u := u) (lv' := lv') (wv' := wv') hrow (fun q e hq => hvo q (.inl e) (.inl hq)) (by omega) (Upd.refl (fun _ => False) w) (by rw [e1, KF.kpl]; exact r2) u2 o2 u3 (by rw [hgl] at hrowu; exact hrowu)
    (fun q e => by
      have h1 := (hu.row.lt q e).1
      exact ⟨by omega, fun e2 => by have := r2.lt q e2; omega⟩) (by rw [e2, KF.kpl]; exact r4) u4 o4
  have hkp : (⟨F.p, lv', wv', F.ls ++ [⟨v, u, fs, gs⟩]⟩ : KF).kp = ⟨F.kp.p, lv', wv', F.kp.ls ++ [⟨v, u, fs.length, fs.flatMap FV.cells, gs.flatMap FV.cells⟩]⟩ := by simp [KF.kp, KFile.kl]
  have hU := hb.upd
  have hS : ∀ q, (q = F.kp.p ∨ F.kp.lv.ownBlock = some q ∨ F.kp.wv.ownBlock = some q) → F.kp.own q := fun q e => by
    rcases e with e | e | e
    · subst e; exact ⟨_, KP.oP⟩
    · exact ⟨_, KP.oL e⟩
    · exact ⟨_, KP.oW e⟩
  have hfo : ∀ i (hi : i < F.ls.length) q, ownFiles F.ls[i].v F.ls[i].fs q → ¬ (q = F.kp.p ∨ F.kp.lv.ownBlock = some q ∨ F.kp.wv.ownBlock = some q) := fun i hi q e e2 => by
    rcases e with e | e
    · have h9 := KF.oV hi e
      rcases e2 with e2 | e2 | e2
      · subst e2; have := h.kp.one KP.oP h9; omega
      · have := h.kp.one (KP.oL e2) h9; omega
      · have := h.kp.one (KP.oW e2) h9; omega
    · exact h.dout i hi q (.inl e) (hS q e2)
  have hgo : ∀ i (hi : i < F.ls.length) q, ownFiles F.ls[i].u F.ls[i].gs q → ¬ (q = F.kp.p ∨ F.kp.lv.ownBlock = some q ∨ F.kp.wv.ownBlock = some q) := fun i hi q e e2 => by
    rcases e with e | e
    · have h9 := KF.oU hi e
      rcases e2 with e2 | e2 | e2
      · subst e2; have := h.kp.one KP.oP h9; omega
      · have := h.kp.one (KP.oL e2) h9; omega
      · have := h.kp.one (KP.oW e2) h9; omega
    · exact h.dout i hi q (.inr e) (hS q e2)
  have hunew : ∀ q, ownFiles u gs q → w2.heap.size ≤ q ∧ q < w3.heap.size := fun q e => ⟨hu.own_low e, hu.own_lt e⟩
  have hu3' : Upd (fun q => q = F.p ∨ F.wv.ownBlock = some q) w3 (w4.setCell ⟨F.p, 1, none⟩ wv') := (u4.mono (T := fun q => q = F.p ∨ F.wv.ownBlock = some q) (fun _ _ e => .inr e)).setCell (p := ⟨F.p, 1, none⟩) (fun _ => .inl rfl) _
  have hplt := lt_of_heap h.kp.top
  have hnewF : FilesAt (w4.setCell ⟨F.p, 1, none⟩ wv') 0 u gs := (hu.keep hu3' (fun q hq e => by
    have h1 := (hunew q hq).1
    rcases e with rfl | e
    · have : F.p < w.heap.size := hplt; omega
    · have := h.kp.lt ⟨_, KP.oW (show F.kp.wv.ownBlock = some q from e)⟩; omega)).lower (Nat.zero_le _)
  have hownN : ∀ q, (⟨F.p, lv', wv', F.ls ++ [⟨v, u, fs, gs⟩]⟩ : KF).kp.own q → F.kp.own q ∨ v.ownBlock = some q ∨ u.ownBlock = some q ∨ lv'.ownBlock = some q ∨ wv'.ownBlock = some q := by
    rintro q ⟨L, hq⟩
    rw [hkp] at hq
    rcases hq with ⟨rfl, hq⟩ | ⟨rfl, hq⟩ | ⟨rfl, hq⟩ | ⟨i, hi, hq⟩
    · exact .inl ⟨_, .inl ⟨rfl, hq⟩⟩
    · exact .inr (.inr (.inr (.inl hq)))
    · exact .inr (.inr (.inr (.inr hq)))
    · by_cases e : i < F.kp.ls.length
      · have he : (F.kp.ls ++ [(⟨v, u, fs.length, fs.flatMap FV.cells, gs.flatMap FV.cells⟩ : KL)])[i]'hi = F.kp.ls[i] := List.getElem_append_left e
        have hq' : (L = 3 + 2 * i ∧ ((F.kp.ls ++ [(⟨v, u, fs.length, fs.flatMap FV.cells, gs.flatMap FV.cells⟩ : KL)])[i]'hi).v.ownBlock = some q) ∨ (L = 4 + 2 * i ∧ ((F.kp.ls ++ [(⟨v, u, fs.length, fs.flatMap FV.cells, gs.flatMap FV.cells⟩ : KL)])[i]'hi).u.ownBlock = some q) := hq
        rw [he] at hq'
        exact .inl ⟨_, .inr (.inr (.inr ⟨i, e, hq'⟩))⟩
      · have hi2 : i < F.kp.ls.length + 1 := by simpa using hi
        obtain rfl : i = F.kp.ls.length := by omega
        have he : (F.kp.ls ++ [(⟨v, u, fs.length, fs.flatMap FV.cells, gs.flatMap FV.cells⟩ : KL)])[F.kp.ls.length]'hi = ⟨v, u, fs.length, fs.flatMap FV.cells, gs.flatMap FV.cells⟩ := by simp
        have hq' : (L = 3 + 2 * F.kp.ls.length ∧ ((F.kp.ls ++ [(⟨v, u, fs.length, fs.flatMap FV.cells, gs.flatMap FV.cells⟩ : KL)])[F.kp.ls.length]'hi).v.ownBlock = some q) ∨ (L = 4 + 2 * F.kp.ls.length ∧ ((F.kp.ls ++ [(⟨v, u, fs.length, fs.flatMap FV.cells, gs.flatMap FV.cells⟩ : KL)])[F.kp.ls.length]'hi).u.ownBlock = some q) := hq
        rw [he] at hq'
        exact hq'.elim (fun e => .inr (.inl e.2)) (fun e => .inr (.inr (.inl e.2)))
  have hnd := hv.nodup
  rw [List.nodup_append] at hnd
  have hndu := hu.nodup
  rw [List.nodup_append] at hndu
  have cases1 : ∀ {P : KFile → Prop}, (∀ i (hi : i < F.ls.length), P F.ls[i]) → P ⟨v, u, fs, gs⟩ → ∀ i (hi : i < (F.ls ++ [(⟨v, u, fs, gs⟩ : KFile)]).length), P (F.ls ++ [(⟨v, u, fs, gs⟩ : KFile)])[i] := by
    intro P h1 h2 i hi
    by_cases e : i < F.ls.length
    · rw [List.getElem_append_left e]; exact h1 i e
    · have hi2 : i < F.ls.length + 1 := by simpa using hi
      obtain rfl : i = F.ls.length := by omega
      simpa using h2
  obtain ⟨lab, hlab⟩ := h.dlab
  refine ⟨⟨by rw [hkp]; exact hb.ins, ?_, ?_, ?_, ?_, ?_, ⟨fun q => if q ∈ fvBlocks fs then F.ls.length else lab q, ?_⟩⟩, rfl, by simp, hU, ?_⟩
  · exact cases1 (P := fun x => FilesAt (w4.setCell ⟨F.p, 1, none⟩ wv') 0 x.v x.fs) (fun i hi => (h.fs i hi).keep hU (hfo i hi)) (hv.keep hU (fun q hq e => hvo q hq (.inl (hS q e))))
  · exact cases1 (P := fun x => FilesAt (w4.setCell ⟨F.p, 1, none⟩ wv') 0 x.u x.gs) (fun i hi => (h.gs i hi).keep hU (hgo i hi)) hnewF
  · exact cases1 (P := fun x => x.fs.map FV.abs = x.gs.map FV.abs) h.eq heq.symm
  · exact cases1 (P := fun x => x.fs.length ≤ 256 ∧ ∀ f ∈ x.fs, f.data.length ≤ 67108864) h.small ⟨hn, hsm⟩
  · refine cases1 (P := fun x => ∀ q, q ∈ fvBlocks x.fs ∨ q ∈ fvBlocks x.gs → ¬ (⟨F.p, lv', wv', F.ls ++ [⟨v, u, fs, gs⟩]⟩ : KF).kp.own q) (fun i hi q hq hown => ?_) (fun q hq hown => ?_)
    · have hlt : q < w.heap.size := hq.elim (h.fs i hi).data_lt (h.gs i hi).data_lt
      have hFo : F.own q := .inr ⟨i, hi, hq⟩
      rcases hownN q hown with e | e | e | e | e
      · exact h.dout i hi q hq e
      · exact hvo q (.inl e) hFo
      · have := (hunew q (.inl e)).1; omega
      · exact (o2 q e).elim (fun e => h.dout i hi q hq ⟨_, KP.oL (show F.kp.lv.ownBlock = some q from e)⟩) (fun e => by omega)
      · exact (o4 q e).elim (fun e => h.dout i hi q hq ⟨_, KP.oW (show F.kp.wv.ownBlock = some q from e)⟩) (fun e => by omega)
    · rcases hq with hq | hq
      · have hlt : q < w.heap.size := hv.data_lt hq
        rcases hownN q hown with e | e | e | e | e
        · exact hvo q (.inr hq) (.inl e)
        · exact hnd.2.2 q (by simp [e]) q hq rfl
        · have := (hunew q (.inl e)).1; omega
        · exact (o2 q e).elim (fun e => hvo q (.inr hq) (.inl ⟨_, KP.oL (show F.kp.lv.ownBlock = some q from e)⟩)) (fun e => by omega)
        · exact (o4 q e).elim (fun e => hvo q (.inr hq) (.inl ⟨_, KP.oW (show F.kp.wv.ownBlock = some q from e)⟩)) (fun e => by omega)
      · obtain ⟨h1, h2⟩ := hunew q (.inr hq)
        rcases hownN q hown with e | e | e | e | e
        · have := h.kp.lt e; omega
        · have := (hv.row.lt q e).2; omega
        · exact hndu.2.2 q (by simp [e]) q hq rfl
        · have := r2.lt q e; omega
        · exact (o4 q e).elim (fun e => by have := h.kp.lt ⟨_, KP.oW (show F.kp.wv.ownBlock = some q from e)⟩; omega) (fun e => by omega)
  · intro i hi q hq
    show (if q ∈ fvBlocks fs then F.ls.length else lab q) = i
    have hq' : q ∈ fvBlocks ((F.ls ++ [(⟨v, u, fs, gs⟩ : KFile)])[i]'hi).fs := hq
    by_cases e : i < F.ls.length
    · rw [List.getElem_append_left e] at hq'
      rw [if_neg (fun e2 => hvo q (.inr e2) (.inr ⟨i, e, .inl hq'⟩))]
      exact hlab i e q hq'
    · have hi2 : i < F.ls.length + 1 := by have h9 : i < (F.ls ++ [(⟨v, u, fs, gs⟩ : KFile)]).length := hi; simpa using h9
      obtain rfl : i = F.ls.length := by omega
      rw [List.getElem_append_right (Nat.le_refl _)] at hq'
      simp only [Nat.sub_self, List.getElem_cons_zero] at hq'
      rw [if_pos hq']
  · intro q hq
    rcases hq with hq | ⟨i, hi, hq⟩
    · rcases hownN q hq with e | e | e | e | e
      · exact .inl (.inl e)
      · exact .inr (.inl (.inl e))
      · exact .inr (.inr (by have := (hunew q (.inl e)).1; omega))
      · exact (o2 q e).elim (fun e => .inl (.inl ⟨_, KP.oL (show F.kp.lv.ownBlock = some q from e)⟩)) (fun e => .inr (.inr e))
      · exact (o4 q e).elim (fun e => .inl (.inl ⟨_, KP.oW (show F.kp.wv.ownBlock = some q from e)⟩)) (fun e => .inr (.inr (by omega)))
    · have hq' : q ∈ fvBlocks ((F.ls ++ [(⟨v, u, fs, gs⟩ : KFile)])[i]'hi).fs ∨ q ∈ fvBlocks ((F.ls ++ [(⟨v, u, fs, gs⟩ : KFile)])[i]'hi).gs := hq
      by_cases e : i < F.ls.length
      · rw [List.getElem_append_left e] at hq'
        exact .inl (.inr ⟨i, e, hq'⟩)
      · have hi2 : i < F.ls.length + 1 := by have h9 : i < (F.ls ++ [(⟨v, u, fs, gs⟩ : KFile)]).length := hi; simpa using h9
        obtain rfl : i = F.ls.length := by omega
        rw [List.getElem_append_right (Nat.le_refl _)] at hq'
        simp only [Nat.sub_self, List.getElem_cons_zero] at hq'
        exact hq'.elim (fun e => .inr (.inl (.inr e))) (fun e => .inr (.inr (by have := (hunew q (.inr e)).1; omega)))
end

/-- The mark of the i-th list. -/
def MF (i : Nat) : List Value := [.string ByteArray.empty, .slice none 0 0, .int .i64 (-100 - (i : Int))]

set_option maxRecDepth 100000 in
set_option maxHeartbeats 800000 in
theorem marked_any {w : World} {v : Value} {m : Int} (h : FullG w v [.string ByteArray.empty, .slice none 0 0, .int .i64 m]) :
    Calls Tryz.prog 48 #[v, .int .i64 m] w fun e w' => e = .returned (.bool true) ∧ Drawn w w' := by
  obtain ⟨ao, n, c, rfl, hnc, hc, hf⟩ := h
  have HF := hid hf
  clear hf
  go_enter Tryz.func48, Tryz.ntmps48
  go_wp2
  go_loopw [5] (fun i wr => ∃ k : Nat, k ≤ n ∧ i = .int .i64 k ∧ Drawn w wr) (fun i _ => n - (intOf i).toNat)
  case atStart => exact ⟨0, Nat.zero_le _, rfl, ⟨Upd.refl _ _, rfl⟩⟩
  case round =>
    obtain ⟨k, hk, rfl, hdr⟩ := hrel
    have HDR := hid hdr
    by_cases hlt : k < n
    · obtain ⟨g, o, rfl, hg, hcell⟩ := HF.out k hlt
      have d0 : wr.cell? ⟨g, o + k * 3, none⟩ = some (.string ByteArray.empty) := by rw [hdr.cell]; have h0 := hcell 0 (by simp); simpa using h0
      have d1 : wr.cell? ⟨g, o + k * 3 + 1, none⟩ = some (.slice none 0 0) := by rw [hdr.cell]; have h0 := hcell 1 (by simp); simpa [Nat.add_assoc] using h0
      have d2 : wr.cell? ⟨g, o + k * 3 + 2, none⟩ = some (.int .i64 m) := by rw [hdr.cell]; have h0 := hcell 2 (by simp); simpa [Nat.add_assoc] using h0
      have hgr : g < wr.heap.size := by rw [hdr.2]; exact hg
      clear hdr hcell
      go_wp2
      go_roundw
      case rel => exact ⟨k + 1, by omega, by go_num, HDR.out⟩
      case measure => simp [intOf]; omega
    · obtain rfl : k = n := by omega
      clear hdr
      go_wp2
      go_ret
      exact ⟨rfl, HDR.out⟩

set_option maxRecDepth 100000 in
set_option maxHeartbeats 1600000 in
theorem keepF_any {w : World} {F : KF} {v : Value} {fs : List FV} (hF : F.In w) (hv : FilesAt w 0 v fs) (hvo : ∀ q, ownFiles v fs q → ¬ F.own q) (hn : fs.length ≤ 256) (hsm : ∀ f ∈ fs, f.data.length ≤ 67108864) (hN : F.ls.length ≤ 1000000) :
    Calls Tryz.prog 19 #[.pointer (some ⟨F.p, 0, none⟩), v] w fun e w' => e = .returned (.tuple #[]) ∧ ∃ F', KFStep w w' F F' v fs := by
  have e1 : F.kp.ls.map KL.v = F.ls.map KFile.v := by simp [KF.kp, KFile.kl]
  have e2 : F.kp.ls.map KL.u = F.ls.map KFile.u := by simp [KF.kp, KFile.kl]
  have hrL : SRow w 40 1 F.lv F.ls.length (F.ls.map KFile.v) := by have h := hF.kp.rowL; rw [e1, KF.kpl] at h; exact h
  have hrW : SRow w 40 1 F.wv F.ls.length (F.ls.map KFile.u) := by have h := hF.kp.rowW; rw [e2, KF.kpl] at h; exact h
  have hvr := SRow.of_owns hv.row
  obtain ⟨lv', w2, hrun2, r2, u2, o2, -⟩ := rowFiless.push (w := w) (v := F.lv) (M := [v]) hrL rfl (fun x hx => by simp at hx; subst hx; exact SRow.one hvr) (by omega) 35
  have htop : w.heap[F.p]? = some (.cells #[F.lv, F.wv] 37 (0, 0)) := hF.kp.top
  have hp := lt_of_heap htop
  have pl : ¬ F.lv.ownBlock = some F.p := fun e => by have := hF.kp.one (KP.oP (k := F.kp)) (KP.oL (k := F.kp) e); omega
  have pw : ¬ F.wv.ownBlock = some F.p := fun e => by have := hF.kp.one (KP.oP (k := F.kp)) (KP.oW (k := F.kp) e); omega
  have lw : ∀ q, F.wv.ownBlock = some q → ¬ F.lv.ownBlock = some q := fun q e1 e2 => by have := hF.kp.one (KP.oL (k := F.kp) e2) (KP.oW (k := F.kp) e1); omega
  have t2 := u2.get htop pl
  have t3 := heap_setCell_at w2 F.p 0 _ _ lv' t2
  have f0 : w2.frozen? ⟨F.p, 0, none⟩ = false := frozen_of_row _ _ _ _ _ t2
  obtain ⟨la, lc, hls, hl1, hl2, -⟩ := SRow.slice hrL
  obtain ⟨wa, wc, hws, hw1, hw2, -⟩ := SRow.slice hrW
  obtain ⟨la2, lc2, hls2, -, -, -⟩ := SRow.slice r2
  obtain ⟨va, vc, hvs, -, -, -⟩ := SRow.slice hvr
  have c0 : w.cell? ⟨F.p, 0, none⟩ = some (.slice la F.ls.length lc) := by rw [cell_of_row w _ 0 _ _ _ htop, ← hls]; rfl
  have d0 : w2.cell? ⟨F.p, 0, none⟩ = some (.slice la F.ls.length lc) := by rw [cell_of_row _ _ 0 _ _ _ t2, ← hls]; rfl
  have c1 : (w2.setCell ⟨F.p, 0, none⟩ lv').cell? ⟨F.p, 1, none⟩ = some (.slice wa F.ls.length wc) := by rw [cell_of_row _ _ 1 _ _ _ t3, ← hws]; rfl
  have hp2 : F.p < w2.heap.size := lt_of_heap t2
  have hu23 : Upd (fun q => q = F.p ∨ F.lv.ownBlock = some q) w (w2.setCell ⟨F.p, 0, none⟩ lv').drew := ((u2.mono (T := fun q => q = F.p ∨ F.lv.ownBlock = some q) (fun _ _ e => .inr e)).setCell (p := ⟨F.p, 0, none⟩) (fun _ => .inl rfl) _).drew
  have hv3 : FilesAt (w2.setCell ⟨F.p, 0, none⟩ lv').drew 0 v fs := hv.keep hu23 (fun q hq e => by
    rcases e with rfl | e
    · exact hvo _ hq (.inl ⟨_, KP.oP (k := F.kp)⟩)
    · exact hvo _ hq (.inl ⟨_, KP.oL (k := F.kp) e⟩))
  obtain ⟨N2, hN2⟩ : ∃ N2, N2 = F.ls.length + 1 := ⟨_, rfl⟩
  have hcop : Calls Tryz.prog 43 #[v] (w2.setCell ⟨F.p, 0, none⟩ lv').drew fun e w3 => ∃ ua un uc wa4 wc4 w4, e = .returned (.slice ua un uc) ∧ w3.cell? ⟨F.p, 1, none⟩ = some (.slice wa F.ls.length wc) ∧ F.p < w3.heap.size ∧
      (Builtin.append_ #[35, 35] 35 #[.slice wa F.ls.length wc, .slice (some ⟨w3.heap.size, 0, none⟩) 1 1]).run Tryz.prog (w3.alloc (.cells #[.slice ua un uc] 40)) = .ok (.slice wa4 N2 wc4) w4 ∧
      w4.cell? ⟨F.p, 1, none⟩ = some (.slice wa F.ls.length wc) ∧ w4.frozen? ⟨F.p, 1, none⟩ = false ∧ F.p < w4.heap.size ∧ ∃ F', KFStep w (w4.setCell ⟨F.p, 1, none⟩ (.slice wa4 N2 wc4)) F F' v fs := by
    refine (copied_any hv3 hsm hn).mono ?_
    rintro e w3 ⟨u, gs, rfl, hu, heq, hu3⟩
    have hu3b : Upd (fun _ => False) (w2.setCell ⟨F.p, 0, none⟩ lv') w3 := ((Upd.refl (fun _ => False) _).drew).trans hu3 (fun _ _ e => e)
    have hur := SRow.of_owns hu.row
    have hrW3 : SRow w3 40 1 F.wv F.ls.length (F.ls.map KFile.u) := SRow.upd (SRow.upd (SRow.upd hrW u2 (fun q e => lw q e)) (Upd.cell_only w2 F.p 0 lv') (fun q e e2 => pw (e2 ▸ e))) hu3b (fun _ _ e => e)
    have t3' := hu3b.get t3 (fun e => e)
    obtain ⟨wv', w4, hrun4, r4, u4, o4, -⟩ := rowFiless.push (w := w3) (M := [u]) hrW3 rfl (fun x hx => by simp at hx; subst hx; exact SRow.one hur) (by omega) 35
    have t4 := u4.get t3' pw
    have hfin := hF.kept hv hvo hn hsm r2 u2 o2 hu3b (by have h9 : ((w2.setCell ⟨F.p, 0, none⟩ lv').drew).heap.size = w2.heap.size := by show (w2.setCell ⟨F.p, 0, none⟩ lv').heap.size = _; simp
                                                         rw [h9] at hu; exact hu) heq r4 u4 o4
    obtain ⟨ua, uc, hus, -, -, -⟩ := SRow.slice hur
    obtain ⟨wa2, wc2, hws2, -, -, -⟩ := SRow.slice r4
    rw [hus, hws, hws2, ← hN2] at hrun4
    rw [hws2, ← hN2] at hfin
    exact ⟨ua, _, uc, wa2, wc2, w4, by rw [hus], by rw [cell_of_row _ _ 1 _ _ _ t3', ← hws]; rfl, lt_of_heap t3', hrun4, by rw [cell_of_row _ _ 1 _ _ _ t4, ← hws]; rfl, frozen_of_row _ _ _ _ _ t4, lt_of_heap t4, _, hfin⟩
  rw [hls2, ← hN2] at hrun2 hcop c1
  rw [hls] at hrun2
  rw [hvs] at hrun2 hcop ⊢
  have hrun2' : (Builtin.append_ #[35, 35] 35 #[.slice la F.ls.length lc, .slice (some ⟨w.heap.size, 0, none⟩) 1 1]).run Tryz.prog (w.alloc (.cells #[.slice va fs.length vc] 40)) = .ok (.slice la2 N2 lc2) w2 := hrun2
  obtain ⟨p, hpp⟩ : ∃ p, p = F.p := ⟨_, rfl⟩
  obtain ⟨N, hNN⟩ : ∃ N, N = F.ls.length := ⟨_, rfl⟩
  obtain ⟨n, hnn⟩ : ∃ n, n = fs.length := ⟨_, rfl⟩
  rw [← hpp] at c0 d0 c1 f0 hp hp2 hcop ⊢
  rw [← hNN] at c0 d0 c1 hcop hrun2' hl1 hw1 hN
  rw [← hnn] at hrun2' hcop hn ⊢
  obtain ⟨w3, hw3⟩ : ∃ w3, w3 = w2.setCell ⟨p, 0, none⟩ (.slice la2 N2 lc2) := ⟨_, rfl⟩
  have hp3 : p < w3.heap.size := by rw [hw3]; simpa using hp2
  rw [← hw3] at c1 hcop
  have HR2 := hid hrun2'; have HCOP := hid hcop; have HW3 := hid hw3
  clear hrun2 hrun2' hcop hw3 hrL hrW hvr r2 u2 o2 htop pl pw lw t2 t3 hls hws hls2 hvs hu23 hv3 hN2 hpp hNN hnn hF hv hvo hsm e1 e2
  go_enter Tryz.func19, Tryz.ntmps19
  go_upto_region 1 with (at_builtin; refine wpList_append_run rfl _ _ _ rfl rfl rfl HR2.out ?_)
  rw [← HW3.out]
  go_region_law (first | (go_simp; go_at_call 43; refine HCOP.out.mono ?_; rintro e w5 ⟨ua, un, uc, wa4, wc4, w4, rfl, t1, t2, hr, t3, t4, t5, hF⟩) | (refine step_append_eq rfl (.tmp 18) (.tmp 21) 35 rfl rfl rfl hr ?_))
  all_goals
    go_end0
    exact ⟨rfl, hF⟩

end Go.Proofs.YtohpgmeflmppaaaGreat

namespace Go.Proofs.YtohpgmeflmppaaaGreat
set_option linter.unusedVariables false
set_option linter.unusedSimpArgs false
set_option linter.unnecessarySimpa false
set_option linter.unusedSectionVars false
open Go Go.RowKit

/-- The lists of bytes and their copies hold the same bytes. -/
def SameB (b : KP) : Prop := ∀ x ∈ b.ls, ∃ bs : List UInt8, x.xs = bs.map byteV ∧ x.ys = bs.map byteV

/-- The first i lists of files are marks, and c elements of the next one; their bytes have joined the book. -/
structure LSt (w0 wr : World) (F : KF) (b b' : KP) (i c : Nat) : Prop where
  done : ∀ t (h : t < F.ls.length), t < i → SRow wr 80 3 F.ls[t].v F.ls[t].fs.length (rep F.ls[t].fs.length (MF t))
  cur : ∀ h : i < F.ls.length, SRow wr 80 3 F.ls[i].v F.ls[i].fs.length (rep c (MF i) ++ (F.ls[i].fs.flatMap FV.cells).drop (c * 3))
  upd : Upd (fun q => (∃ t, ∃ h : t < F.ls.length, (t < i ∨ (t = i ∧ 0 < c)) ∧ F.ls[t].v.ownBlock = some q) ∨ b.own q) w0 wr
  book : b'.B wr
  bp : b'.p = b.p
  same : SameB b'
  blen : b'.ls.length ≤ b.ls.length + 256 * i + c
  bown : ∀ q, b'.own q → b.own q ∨ (∃ t, ∃ h : t < F.ls.length, t < i ∧ q ∈ fvBlocks F.ls[t].fs) ∨ (∃ h : i < F.ls.length, q ∈ fvBlocks (F.ls[i].fs.take c)) ∨ w0.heap.size ≤ q
  blv : ∀ q, b'.lv.ownBlock = some q ∨ b'.wv.ownBlock = some q → b.own q ∨ w0.heap.size ≤ q

theorem cells_length (l : List FV) : (l.flatMap FV.cells).length = l.length * 3 := by
  induction l with
  | nil => rfl
  | cons a r ih => rw [List.flatMap_cons, List.length_append, ih]; simp [FV.cells]; omega

theorem cells_drop (l : List FV) (c : Nat) (h : c < l.length) : (l.flatMap FV.cells).drop (c * 3) = l[c].cells ++ (l.flatMap FV.cells).drop ((c + 1) * 3) := by
  induction l generalizing c with
  | nil => simp at h
  | cons a r ih =>
    cases c with
    | zero =>
      rw [List.flatMap_cons]
      simp [FV.cells]
    | succ c =>
      have h' : c < r.length := by simpa using h
      rw [List.flatMap_cons, List.getElem_cons_succ]
      have e1 : (c + 1) * 3 = a.cells.length + c * 3 := by simp [FV.cells]; omega
      have e2 : (c + 1 + 1) * 3 = a.cells.length + (c + 1) * 3 := by simp [FV.cells]; omega
      rw [e1, e2, List.drop_length_add_append, List.drop_length_add_append]
      exact ih c h'

theorem MF_length (i : Nat) : (MF i).length = 3 := rfl

/-- Three cells in a row are written. -/
theorem set3l {A B : List Value} {x y z x' y' z' : Value} {m : Nat} (hm : A.length = m) : (((A ++ (x :: y :: z :: B)).set m x').set (m + 1) y').set (m + 2) z' = A ++ [x', y', z'] ++ B := by
  subst hm
  rw [List.set_append_right _ _ (Nat.le_refl _), List.set_append_right _ _ (by omega), List.set_append_right _ _ (by omega)]
  simp

theorem mem_take_fv {l : List FV} {c q : Nat} (h : q ∈ fvBlocks (l.take c)) : q ∈ fvBlocks l := by
  obtain ⟨f, hf, e⟩ := mem_fvBlocks.1 h
  exact mem_fvBlocks.2 ⟨f, List.mem_of_mem_take hf, e⟩

theorem take_away {l : List FV} {c q : Nat} (hc : c < l.length) (hn : (fvBlocks l).Nodup) (h : l[c].dv.ownBlock = some q) : q ∉ fvBlocks (l.take c) := by
  intro h2
  have e : fvBlocks l = fvBlocks (l.take c) ++ (l[c].dv.ownBlock.toList ++ fvBlocks (l.drop (c + 1))) := by
    have h3 : l = l.take c ++ l[c] :: l.drop (c + 1) := by rw [← List.drop_eq_getElem_cons hc, List.take_append_drop]
    have h4 : fvBlocks (l.take c ++ l[c] :: l.drop (c + 1)) = fvBlocks (l.take c) ++ (l[c].dv.ownBlock.toList ++ fvBlocks (l.drop (c + 1))) := by unfold fvBlocks; rw [List.flatMap_append, List.flatMap_cons]
    rw [← h4, ← h3]
  rw [e, List.nodup_append] at hn
  exact hn.2.2 q h2 q (by simp [h]) rfl

section
variable {w0 wr w' : World} {F : KF} {b b' : KP} {i c : Nat}

theorem LSt.start (hF : F.In w0) (hb : b.B w0) (hs : SameB b) : LSt w0 w0 F b b 0 0 :=
  ⟨fun t _ h => by omega, fun h => by simpa [rep] using SRow.of_owns (hF.fs 0 h).row, Upd.refl _ _, hb, rfl, hs, by omega, fun q h => .inl h, fun q h => .inl (h.elim (fun e => ⟨_, KP.oL e⟩) (fun e => ⟨_, KP.oW e⟩))⟩

theorem LSt.keep (h : LSt w0 wr F b b' i c) (hF : F.In w0) (hu : Upd (fun _ => False) wr w') : LSt w0 w' F b b' i c :=
  ⟨fun t ht hl => (h.done t ht hl).upd hu (fun _ _ e => e), fun ht => (h.cur ht).upd hu (fun _ _ e => e), h.upd.trans hu (fun _ _ e => e.elim), h.book.upd hu (fun _ _ e => e), h.bp, h.same, h.blen, h.bown, h.blv⟩

/-- What lies in no list's block that was written, and in none of the book's: as it was. -/
theorem LSt.away (h : LSt w0 wr F b b' i c) (hF : F.In w0) (hbF : ∀ q, F.own q → ¬ b.own q) {q : Nat} (hq : F.own q) (hv : ∀ t (ht : t < F.ls.length), F.ls[t].v.ownBlock = some q → i < t ∨ (t = i ∧ c = 0)) : ¬ ((∃ t, ∃ h : t < F.ls.length, (t < i ∨ (t = i ∧ 0 < c)) ∧ F.ls[t].v.ownBlock = some q) ∨ b.own q) := by
  rintro (⟨t, ht, h1, h2⟩ | e)
  · have := hv t ht h2; omega
  · exact hbF q hq e

theorem KF.In.vv (hF : F.In w0) {t q : Nat} (hi : i < F.ls.length) (ht : t < F.ls.length) (e1 : F.ls[i].v.ownBlock = some q) (e2 : F.ls[t].v.ownBlock = some q) : i = t := by
  have := hF.kp.one (KF.oV hi e1) (KF.oV ht e2)
  omega

theorem LSt.files (h : LSt w0 wr F b b' i 0) (hF : F.In w0) (hbF : ∀ q, F.own q → ¬ b.own q) (hi : i < F.ls.length) : FilesAt wr 0 F.ls[i].v F.ls[i].fs ∧ FilesAt wr 0 F.ls[i].u F.ls[i].gs := by
  refine ⟨(hF.fs i hi).keep h.upd (fun q hq => h.away hF hbF (KF.ownF hi hq) (fun t ht e => ?_)), (hF.gs i hi).keep h.upd (fun q hq => h.away hF hbF (KF.ownG hi hq) (fun t ht e => ?_))⟩
  · rcases hq with hq | hq
    · exact .inr ⟨(hF.vv hi ht hq e).symm, rfl⟩
    · exact absurd ⟨_, KF.oV ht e⟩ (hF.dout i hi q (.inl hq))
  · rcases hq with hq | hq
    · have := hF.kp.one (KF.oU hi hq) (KF.oV ht e); omega
    · exact absurd ⟨_, KF.oV ht e⟩ (hF.dout i hi q (.inr hq))

theorem LSt.data (h : LSt w0 wr F b b' i c) (hF : F.In w0) (hbF : ∀ q, F.own q → ¬ b.own q) (hi : i < F.ls.length) (hc : c < F.ls[i].fs.length) :
    DataIs wr F.ls[i].fs[c].dv F.ls[i].fs[c].data ∧ ∀ q, F.ls[i].fs[c].dv.ownBlock = some q → ¬ b'.own q ∧ q < w0.heap.size := by
  have hmem := List.getElem_mem hc
  have hq2 : ∀ q, F.ls[i].fs[c].dv.ownBlock = some q → q ∈ fvBlocks F.ls[i].fs := fun q e => mem_fvBlocks.2 ⟨_, hmem, e⟩
  refine ⟨((hF.fs i hi).data _ hmem).upd h.upd (fun q hq => h.away hF hbF (.inr ⟨i, hi, .inl (hq2 q hq)⟩) (fun t ht e => ?_)), fun q e => ⟨fun hb => ?_, (hF.fs i hi).data_lt (hq2 q e)⟩⟩
  · exact absurd ⟨_, KF.oV ht e⟩ (hF.dout i hi q (.inl (hq2 q hq)))
  · have hlt := (hF.fs i hi).data_lt (hq2 q e)
    obtain ⟨lab, hlab⟩ := hF.dlab
    rcases h.bown q hb with h1 | ⟨t, ht, h1, h2⟩ | ⟨_, h2⟩ | h1
    · exact hbF q (.inr ⟨i, hi, .inl (hq2 q e)⟩) h1
    · have e1 := hlab t ht q h2
      have e2 := hlab i hi q (hq2 q e)
      omega
    · have hn := (hF.fs i hi).nodup
      rw [List.nodup_append] at hn
      exact take_away hc hn.2.1 e h2
    · omega

theorem take_succ_fv {l : List FV} {c q : Nat} (hc : c < l.length) (h : q ∈ fvBlocks (l.take c) ∨ l[c].dv.ownBlock = some q) : q ∈ fvBlocks (l.take (c + 1)) := by
  rw [List.take_succ_eq_append_getElem hc]
  rcases h with h | h
  · obtain ⟨f, hf, e⟩ := mem_fvBlocks.1 h
    exact mem_fvBlocks.2 ⟨f, List.mem_append_left _ hf, e⟩
  · exact mem_fvBlocks.2 ⟨_, List.mem_append_right _ (List.mem_singleton.2 rfl), h⟩

/-- The bytes have joined the book. -/
structure LSk (w0 w1 : World) (F : KF) (b b' b'' : KP) (i c : Nat) : Prop where
  done : ∀ t (h : t < F.ls.length), t < i → SRow w1 80 3 F.ls[t].v F.ls[t].fs.length (rep F.ls[t].fs.length (MF t))
  cur : ∀ h : i < F.ls.length, SRow w1 80 3 F.ls[i].v F.ls[i].fs.length (rep c (MF i) ++ (F.ls[i].fs.flatMap FV.cells).drop (c * 3))
  upd : Upd (fun q => (∃ t, ∃ h : t < F.ls.length, (t < i ∨ (t = i ∧ 0 < c)) ∧ F.ls[t].v.ownBlock = some q) ∨ b.own q) w0 w1
  book : b''.B w1
  bp : b''.p = b.p
  same : SameB b''
  blen : b''.ls.length ≤ b.ls.length + 256 * i + (c + 1)
  bown : ∀ q, b''.own q → b.own q ∨ (∃ t, ∃ h : t < F.ls.length, t < i ∧ q ∈ fvBlocks F.ls[t].fs) ∨ (∃ h : i < F.ls.length, q ∈ fvBlocks (F.ls[i].fs.take (c + 1))) ∨ w0.heap.size ≤ q
  blv : ∀ q, b''.lv.ownBlock = some q ∨ b''.wv.ownBlock = some q → b.own q ∨ w0.heap.size ≤ q

theorem LSt.kept {b'' : KP} (h : LSt w0 wr F b b' i c) (hF : F.In w0) (hb0 : b.B w0) (hbF : ∀ q, F.own q → ¬ b.own q) (hi : i < F.ls.length) (hc : c < F.ls[i].fs.length) (hk : KStepB wr w' b' b'' F.ls[i].fs[c].dv F.ls[i].fs[c].data.length (F.ls[i].fs[c].data.map byteV)) : LSk w0 w' F b b' b'' i c := by
  have hS : ∀ q, q < w0.heap.size → (q = b'.p ∨ b'.lv.ownBlock = some q ∨ b'.wv.ownBlock = some q) → b.own q := fun q hq e => by
    rcases e with e | e | e
    · exact ⟨0, .inl ⟨rfl, by rw [e, h.bp]⟩⟩
    · exact (h.blv q (.inl e)).resolve_right (by omega)
    · exact (h.blv q (.inr e)).resolve_right (by omega)
  have hvn : ∀ t (ht : t < F.ls.length) q, F.ls[t].v.ownBlock = some q → ¬ (q = b'.p ∨ b'.lv.ownBlock = some q ∨ b'.wv.ownBlock = some q) := fun t ht q e e2 => by
    have h1 : F.own q := .inl ⟨_, KF.oV ht e⟩
    exact hbF q h1 (hS q (hF.lt h1) e2)
  refine ⟨fun t ht hl => (h.done t ht hl).upd hk.1.upd (hvn t ht), fun ht => (h.cur ht).upd hk.1.upd (hvn i ht), h.upd.trans hk.1.upd (fun q hq e => .inr (hS q hq e)), hk.1.ins, hk.1.p.trans h.bp, ?_, ?_, fun q hq => ?_, fun q hq => ?_⟩
  · obtain ⟨u, e⟩ := hk.2
    intro x hx
    rw [e] at hx
    rcases List.mem_append.1 hx with hx | hx
    · exact h.same x hx
    · obtain rfl := List.mem_singleton.1 hx
      exact ⟨_, rfl, rfl⟩
  · obtain ⟨u, e⟩ := hk.2
    rw [e]
    have := h.blen
    simp
    omega
  · rcases hk.1.foot q hq with e | e | e
    · rcases h.bown q e with h1 | h1 | ⟨h1, h2⟩ | h1
      · exact .inl h1
      · exact .inr (.inl h1)
      · exact .inr (.inr (.inl ⟨h1, take_succ_fv hc (.inl h2)⟩))
      · exact .inr (.inr (.inr h1))
    · exact .inr (.inr (.inl ⟨hi, take_succ_fv hc (.inr e)⟩))
    · exact .inr (.inr (.inr (Nat.le_trans h.upd.size e)))
  · have hs := h.upd.size
    rcases hq with e | e
    · exact (hk.1.lo q e).elim (fun e => h.blv q (.inl e)) (fun e => .inr (by omega))
    · exact (hk.1.wo q e).elim (fun e => h.blv q (.inr e)) (fun e => .inr (by omega))

theorem SRow.set3 {w : World} {E : TypeId} {v : Value} {n c : Nat} {A B : List Value} {x y z : Value} (h : SRow w E 3 v n (A ++ (x :: y :: z :: B))) (hA : A.length = c * 3) (hc : c < n) (x' y' z' : Value) :
    ∃ g cap, v = .slice (some ⟨g, 0, none⟩) n cap ∧ n ≤ cap ∧ cap ≤ 9223372036854775807 ∧ g < w.heap.size ∧ (∃ o, w.cell? ⟨g, c * 3, none⟩ = some o) ∧ w.frozen? ⟨g, c * 3, none⟩ = false ∧
      (∃ o, (w.setCell ⟨g, c * 3, none⟩ x').cell? ⟨g, c * 3 + 1, none⟩ = some o) ∧ (w.setCell ⟨g, c * 3, none⟩ x').frozen? ⟨g, c * 3 + 1, none⟩ = false ∧
      (∃ o, ((w.setCell ⟨g, c * 3, none⟩ x').setCell ⟨g, c * 3 + 1, none⟩ y').cell? ⟨g, c * 3 + 2, none⟩ = some o) ∧ ((w.setCell ⟨g, c * 3, none⟩ x').setCell ⟨g, c * 3 + 1, none⟩ y').frozen? ⟨g, c * 3 + 2, none⟩ = false ∧
      SRow (((w.setCell ⟨g, c * 3, none⟩ x').setCell ⟨g, c * 3 + 1, none⟩ y').setCell ⟨g, c * 3 + 2, none⟩ z') E 3 v n (A ++ [x', y', z'] ++ B) := by
  obtain ⟨g, cap, o0, hv, h0, a1, a2, a3, a4, a5⟩ := SRow.set (m := c * 3) (u := x') h (by omega)
  obtain ⟨g1, cap1, o1, hv1, h1, b1, b2, -, -, -⟩ := SRow.set (m := c * 3 + 1) (u := y') h0 (by omega)
  rw [hv] at hv1
  injection hv1 with e _ _; injection e with e; injection e with e; subst e
  obtain ⟨g2, cap2, o2, hv2, h2, d1, d2, -, -, -⟩ := SRow.set (m := c * 3 + 2) (u := z') h1 (by omega)
  rw [hv] at hv2
  injection hv2 with e _ _; injection e with e; injection e with e; subst e
  rw [set3l hA] at h2
  exact ⟨g, cap, hv, a4, a5, a3, ⟨_, a1⟩, a2, ⟨_, b1⟩, b2, ⟨_, d1⟩, d2, h2⟩

/-- The element is marked. -/
theorem LSk.next {b'' : KP} {w1 w3 : World} (k : LSk w0 w1 F b b' b'' i c) (hF : F.In w0) (hbF : ∀ q, F.own q → ¬ b.own q) (hi : i < F.ls.length) (hu : Upd (fun q => F.ls[i].v.ownBlock = some q) w1 w3)
    (hr : SRow w3 80 3 F.ls[i].v F.ls[i].fs.length (rep (c + 1) (MF i) ++ (F.ls[i].fs.flatMap FV.cells).drop ((c + 1) * 3))) : LSt w0 w3 F b b'' i (c + 1) := by
  refine ⟨fun t ht hl => (k.done t ht hl).upd hu (fun q e1 e2 => by have := hF.vv hi ht e2 e1; omega), fun _ => hr, ?_, k.book.upd hu (fun q hq e => ?_), k.bp, k.same, k.blen, k.bown, k.blv⟩
  · refine Upd.trans (k.upd.mono (fun q _ e => e.imp (fun ⟨t, ht, h1, h2⟩ => ⟨t, ht, h1.imp id (fun h => ⟨h.1, by omega⟩), h2⟩) id)) hu (fun q _ e => .inl ⟨i, hi, .inr ⟨rfl, by omega⟩, e⟩)
  · have h1 : F.own q := .inl ⟨_, KF.oV hi e⟩
    rcases k.bown q hq with h2 | ⟨t, ht, _, h2⟩ | ⟨_, h2⟩ | h2
    · exact hbF q h1 h2
    · exact hF.dout t ht q (.inl h2) ⟨_, KF.oV hi e⟩
    · exact hF.dout i hi q (.inl (mem_take_fv h2)) ⟨_, KF.oV hi e⟩
    · have := hF.lt h1; omega

/-- One list is full. -/
theorem LSt.next (h : LSt w0 wr F b b' i c) (hF : F.In w0) (hbF : ∀ q, F.own q → ¬ b.own q) (hi : i < F.ls.length) (hc : c = F.ls[i].fs.length) : LSt w0 wr F b b' (i + 1) 0 := by
  have hn := (hF.small i hi).1
  refine ⟨fun t ht hl => ?_, fun ht => ?_, h.upd.mono (fun q _ e => e.imp (fun ⟨t, ht, h1, h2⟩ => ⟨t, ht, .inl (by omega), h2⟩) id), h.book, h.bp, h.same, by have := h.blen; omega, fun q hq => ?_, h.blv⟩
  · by_cases e : t = i
    · subst e
      have h1 := h.cur hi
      subst hc
      rw [List.drop_eq_nil_of_le (by rw [cells_length]; exact Nat.le_refl _), List.append_nil] at h1
      exact h1
    · exact h.done t ht (by omega)
  · have h1 := SRow.of_owns (hF.fs (i + 1) ht).row
    have h2 := h1.upd h.upd (fun q e => h.away hF hbF (.inl ⟨_, KF.oV ht e⟩) (fun t ht2 e2 => by have := hF.vv ht ht2 e e2; omega))
    simpa [rep] using h2
  · rcases h.bown q hq with h2 | ⟨t, ht, h1, h2⟩ | ⟨h1, h2⟩ | h2
    · exact .inl h2
    · exact .inr (.inl ⟨t, ht, by omega, h2⟩)
    · exact .inr (.inl ⟨i, hi, by omega, mem_take_fv h2⟩)
    · exact .inr (.inr (.inr h2))

/-- The lists, all marks. -/
def KF.marks (F : KF) : KP := ⟨F.p, F.lv, F.wv, F.kp.ls.mapIdx fun t x => { x with xs := rep x.n (MF t) }⟩

theorem KF.marks_len : F.marks.ls.length = F.ls.length := by simp [KF.marks, KF.kp]
theorem KF.marks_at {t : Nat} (h : t < F.marks.ls.length) (h' : t < F.ls.length) : F.marks.ls[t] = ⟨F.ls[t].v, F.ls[t].u, F.ls[t].fs.length, rep F.ls[t].fs.length (MF t), F.ls[t].gs.flatMap FV.cells⟩ := by
  simp [KF.marks, KF.kp, KFile.kl]

theorem KF.marks_own {L q : Nat} (h : F.marks.ownAt L q) : F.kp.ownAt L q := by
  rcases h with h | h | h | ⟨t, ht, h⟩
  · exact .inl h
  · exact .inr (.inl h)
  · exact .inr (.inr (.inl h))
  · have ht' : t < F.ls.length := by rw [KF.marks_len] at ht; exact ht
    rw [KF.marks_at ht ht'] at h
    refine .inr (.inr (.inr ⟨t, by rw [KF.kpl]; exact ht', ?_⟩))
    rw [KF.kpi ht']
    exact h

theorem LSt.full (h : LSt w0 wr F b b' F.ls.length 0) (hF : F.In w0) (hbF : ∀ q, F.own q → ¬ b.own q) : F.marks.In 37 40 80 3 wr ∧ Marked 80 3 wr wr F.marks MF F.marks.ls.length := by
  have hd : ∀ t (ht : t < F.marks.ls.length), SRow wr 80 3 F.marks.ls[t].v F.marks.ls[t].n (rep F.marks.ls[t].n (MF t)) := fun t ht => by
    have ht' : t < F.ls.length := by rw [KF.marks_len] at ht; exact ht
    rw [KF.marks_at ht ht']
    exact h.done t ht' ht'
  have hout : ∀ q, F.own q → (∀ t (ht : t < F.ls.length), ¬ F.ls[t].v.ownBlock = some q) → ¬ ((∃ t, ∃ h : t < F.ls.length, (t < F.ls.length ∨ (t = F.ls.length ∧ 0 < 0)) ∧ F.ls[t].v.ownBlock = some q) ∨ b.own q) := by
    rintro q hq h1 (⟨t, ht, -, e⟩ | e)
    · exact h1 t ht e
    · exact hbF q hq e
  obtain ⟨lab, hlab⟩ := hF.kp.lab
  have e1 : F.marks.ls.map KL.v = F.kp.ls.map KL.v := by
    apply List.ext_getElem?
    intro t
    by_cases ht : t < F.ls.length
    · have ht2 : t < F.marks.ls.length := by rw [KF.marks_len]; exact ht
      have ht3 : t < F.kp.ls.length := by rw [KF.kpl]; exact ht
      rw [List.getElem?_map, List.getElem?_map, List.getElem?_eq_getElem ht2, List.getElem?_eq_getElem ht3, KF.marks_at ht2 ht, KF.kpi ht]
      rfl
    · rw [List.getElem?_eq_none (by rw [List.length_map, KF.marks_len]; omega), List.getElem?_eq_none (by rw [List.length_map, KF.kpl]; omega)]
  have e2 : F.marks.ls.map KL.u = F.kp.ls.map KL.u := by
    apply List.ext_getElem?
    intro t
    by_cases ht : t < F.ls.length
    · have ht2 : t < F.marks.ls.length := by rw [KF.marks_len]; exact ht
      have ht3 : t < F.kp.ls.length := by rw [KF.kpl]; exact ht
      rw [List.getElem?_map, List.getElem?_map, List.getElem?_eq_getElem ht2, List.getElem?_eq_getElem ht3, KF.marks_at ht2 ht, KF.kpi ht]
      rfl
    · rw [List.getElem?_eq_none (by rw [List.length_map, KF.marks_len]; omega), List.getElem?_eq_none (by rw [List.length_map, KF.kpl]; omega)]
  refine ⟨⟨?_, ?_, ?_, fun t ht => ?_, fun t ht => ?_, fun t ht => ?_, ⟨lab, fun L q hq => hlab L q (KF.marks_own hq)⟩⟩, ⟨fun t ht _ => hd t ht, fun t ht hle => by omega, Upd.refl _ _⟩⟩
  · exact h.upd.get hF.kp.top (hout _ (.inl ⟨_, KP.oP⟩) (fun t ht e => by have := hF.kp.one KP.oP (KF.oV ht e); omega))
  · rw [e1, KF.marks_len, ← KF.kpl]
    exact hF.kp.rowL.upd h.upd (fun q hq => hout q (.inl ⟨_, KP.oL hq⟩) (fun t ht e => by have := hF.kp.one (KP.oL hq) (KF.oV ht e); omega))
  · rw [e2, KF.marks_len, ← KF.kpl]
    exact hF.kp.rowW.upd h.upd (fun q hq => hout q (.inl ⟨_, KP.oW hq⟩) (fun t ht e => by have := hF.kp.one (KP.oW hq) (KF.oV ht e); omega))
  · have ht' : t < F.ls.length := by rw [KF.marks_len] at ht; exact ht
    rw [KF.marks_at ht ht']
    exact h.done t ht' ht'
  · have ht' : t < F.ls.length := by rw [KF.marks_len] at ht; exact ht
    rw [KF.marks_at ht ht']
    have hu := hF.kp.us t (by rw [KF.kpl]; exact ht')
    rw [KF.kpi ht'] at hu
    exact hu.upd h.upd (fun q hq => hout q (.inl ⟨_, KF.oU ht' hq⟩) (fun t2 ht2 e => by have := hF.kp.one (KF.oU ht' hq) (KF.oV ht2 e); omega))
  · have ht' : t < F.ls.length := by rw [KF.marks_len] at ht; exact ht
    rw [KF.marks_at ht ht']
    have := (hF.small t ht').1
    show F.ls[t].fs.length ≤ 1000000000
    omega

/-- Behind it: the book that took all bytes. -/
structure LEnd (w0 w' : World) (F : KF) (b b' : KP) : Prop where
  book : b'.B w'
  same : SameB b'
  p : b'.p = b.p
  few : b'.ls.length ≤ b.ls.length + 256 * F.ls.length
  foot : ∀ q, b'.own q → b.own q ∨ F.own q ∨ w0.heap.size ≤ q
  upd : Upd (fun q => F.own q ∨ b.own q) w0 w'

theorem LSt.fin (h : LSt w0 wr F b b' F.ls.length 0) (hF : F.In w0) (hbF : ∀ q, F.own q → ¬ b.own q) (hu : Upd F.marks.vown wr w') : LEnd w0 w' F b b' := by
  have hv : ∀ q, F.marks.vown q → F.kp.own q := fun q e => by
    obtain ⟨t, ht, e⟩ := e
    exact ⟨_, KF.marks_own (KP.oV ht e)⟩
  refine ⟨h.book.upd hu (fun q hq e => ?_), h.same, h.bp, by have := h.blen; omega, fun q hq => ?_, ?_⟩
  · rcases h.bown q hq with h2 | ⟨t, ht, _, h2⟩ | ⟨h1, _⟩ | h2
    · exact hbF q (.inl (hv q e)) h2
    · exact hF.dout t ht q (.inl h2) (hv q e)
    · omega
    · have := hF.kp.lt (hv q e); omega
  · rcases h.bown q hq with h2 | ⟨t, ht, _, h2⟩ | ⟨h1, _⟩ | h2
    · exact .inl h2
    · exact .inr (.inl (.inr ⟨t, ht, .inl h2⟩))
    · omega
    · exact .inr (.inr h2)
  · refine Upd.trans (h.upd.mono (fun q _ e => ?_)) hu (fun q _ e => .inl (.inl (hv q e)))
    exact e.elim (fun ⟨t, ht, _, e⟩ => .inl (.inl ⟨_, KF.oV ht e⟩)) .inr
end

end Go.Proofs.YtohpgmeflmppaaaGreat

namespace Go.Proofs.YtohpgmeflmppaaaGreat
set_option linter.unusedVariables false
set_option linter.unusedSimpArgs false
set_option linter.unnecessarySimpa false
set_option linter.unusedSectionVars false
open Go Go.RowKit

theorem cellsOf_at {A B : List Value} {f : FV} {m : Nat} (hA : A.length = m) : (A ++ (f.cells ++ B))[m + 1]? = some f.dv := by
  subst hA
  rw [List.getElem?_append_right (by omega)]
  simp [FV.cells]

set_option maxRecDepth 100000 in
set_option maxHeartbeats 12800000 in
theorem settleF_any {w : World} {F : KF} {b : KP} (hF : F.In w) (hb : b.B w) (hs : SameB b) (hbF : ∀ q, F.own q → ¬ b.own q) (hN : b.ls.length + 256 * F.ls.length ≤ 1000000) :
    Calls Tryz.prog 24 #[.pointer (some ⟨F.p, 0, none⟩), .pointer (some ⟨b.p, 0, none⟩)] w fun e w' => e = .returned (.bool true) ∧ ∃ b', LEnd w w' F b b' := by
  obtain ⟨la, lc, hlv, hl1, hl2, hla⟩ := SRow.slice hF.kp.rowL
  obtain ⟨wa, wc, hws, hw1, hw2, hwa⟩ := SRow.slice hF.kp.rowW
  rw [KF.kpl] at hlv hl1 hws hw1
  have HFI := hid hF; have HBF := hid hbF; have HB0 := hid hb; have HS0 := hid hs
  obtain ⟨N, hNN⟩ : ∃ N, N = F.ls.length := ⟨_, rfl⟩
  have HN := hid hNN
  rw [← hNN] at hl1 hw1 hN
  -- what lies on top, whatever was written into the lists and the book
  have HTOP := hid (show ∀ (i c : Nat) (wr : World), Upd (fun q => (∃ t, ∃ h : t < F.ls.length, (t < i ∨ (t = i ∧ 0 < c)) ∧ F.ls[t].v.ownBlock = some q) ∨ b.own q) w wr → wr.cell? ⟨F.p, 0, none⟩ = some (.slice la N lc) ∧ wr.cell? ⟨F.p, 1, none⟩ = some (.slice wa N wc) ∧ F.p < wr.heap.size ∧
      ∀ j (hj : j < F.ls.length), (∃ ga, la = some ⟨ga, 0, none⟩ ∧ ga < wr.heap.size ∧ wr.cell? ⟨ga, j, none⟩ = some F.ls[j].v) ∧ ∃ gw, wa = some ⟨gw, 0, none⟩ ∧ gw < wr.heap.size ∧ wr.cell? ⟨gw, j, none⟩ = some F.ls[j].u from fun i c wr h => by
    have hout : ∀ q, F.kp.own q → (∀ t (ht : t < F.ls.length), ¬ F.ls[t].v.ownBlock = some q) → ¬ ((∃ t, ∃ h : t < F.ls.length, (t < i ∨ (t = i ∧ 0 < c)) ∧ F.ls[t].v.ownBlock = some q) ∨ b.own q) := by
      rintro q hq h1 (⟨t, ht, -, e⟩ | e)
      · exact h1 t ht e
      · exact hbF q (.inl hq) e
    have t1 := h.get hF.kp.top (hout _ ⟨_, KP.oP⟩ (fun t ht e => by have := hF.kp.one KP.oP (KF.oV ht e); omega))
    have t2 := hF.kp.rowL.upd h (fun q hq => hout q ⟨_, KP.oL hq⟩ (fun t ht e => by have := hF.kp.one (KP.oL hq) (KF.oV ht e); omega))
    have t3 := hF.kp.rowW.upd h (fun q hq => hout q ⟨_, KP.oW hq⟩ (fun t ht e => by have := hF.kp.one (KP.oW hq) (KF.oV ht e); omega))
    refine ⟨?_, ?_, lt_of_heap t1, fun j hj => ⟨?_, ?_⟩⟩
    · have h9 := cell_of_row wr F.kp.p 0 _ _ _ t1
      rw [show F.p = F.kp.p from rfl, h9, hNN, ← hlv]; rfl
    · have h9 := cell_of_row wr F.kp.p 1 _ _ _ t1
      rw [show F.p = F.kp.p from rfl, h9, hNN, ← hws]; rfl
    · obtain ⟨g, c', e, e1, e2⟩ := t2.cell (k := j) (u := F.ls[j].v) (by rw [List.getElem?_map, List.getElem?_eq_getElem (by rw [KF.kpl]; exact hj), KF.kpi hj]; rfl)
      rw [hlv] at e
      injection e with e _ _
      exact ⟨g, e, e1, e2⟩
    · obtain ⟨g, c', e, e1, e2⟩ := t3.cell (k := j) (u := F.ls[j].u) (by rw [List.getElem?_map, List.getElem?_eq_getElem (by rw [KF.kpl]; exact hj), KF.kpi hj]; rfl)
      rw [hws] at e
      injection e with e _ _
      exact ⟨g, e, e1, e2⟩)
  have HL0 := hid (LSt.start hF hb hs)
  have HBN := hid hN
  clear hF hbF hb hs hlv hws hla hwa hNN
  go_enter Tryz.func24, Tryz.ntmps24
  go_wp2
  go_loopw [5] (fun i wr => ∃ j : Nat, j ≤ N ∧ i = .int .i64 j ∧ ∃ b', LSt w wr F b b' j 0) (fun i _ => N - (intOf i).toNat)
  case atStart => exact ⟨0, Nat.zero_le _, rfl, b, HL0.out⟩
  case round =>
    obtain ⟨j, hj, rfl, b', hst⟩ := hrel
    have HST := hid hst
    obtain ⟨c0, c1, hp, hcell⟩ := HTOP.out _ _ _ hst.upd
    by_cases hlt : j < N
    · have hlt' : j < F.ls.length := by have := HN.out; omega
      obtain ⟨⟨ga, rfl, hg, d0⟩, ⟨gw, rfl, hgw, d1⟩⟩ := hcell j hlt'
      obtain ⟨hf1, hf2⟩ := hst.files HFI.out HBF.out hlt'
      have hsm := HFI.out.small j hlt'
      obtain ⟨v, hv⟩ : ∃ v, v = F.ls[j].v := ⟨_, rfl⟩
      obtain ⟨u, hu⟩ : ∃ u, u = F.ls[j].u := ⟨_, rfl⟩
      obtain ⟨n, hn⟩ : ∃ n, n = F.ls[j].fs.length := ⟨_, rfl⟩
      have HV := hid hv; have HNE := hid hn
      have hgn : F.ls[j].gs.length = n := by have h := congrArg List.length (HFI.out.eq j hlt'); rw [List.length_map, List.length_map] at h; omega
      rw [← hv] at d0 hf1
      rw [← hu] at d1 hf2
      obtain ⟨va, vc, hvs, hv1, hv2, -⟩ := (SRow.of_owns hf1.row).slice
      obtain ⟨ua, uc, hus, hu1, hu2, -⟩ := (SRow.of_owns hf2.row).slice
      rw [← hn] at hvs hv1
      rw [hgn] at hus hu1
      have hn256 : n ≤ 256 := by rw [hn]; exact hsm.1
      have hsf : ∀ V, Upd (fun _ => False) wr V → Calls Tryz.prog 17 #[v, u] V fun e w' => e = .returned (.bool true) ∧ Upd (fun _ => False) V w' := fun V hV => by
        refine (sameFiles_any (hf1.keep hV (fun _ _ e => e)) (hf2.keep hV (fun _ _ e => e))).mono ?_
        rintro e V' ⟨bb, rfl, hb, hu⟩
        exact ⟨by rw [hb.2 (HFI.out.eq j hlt')], hu⟩
      rw [hvs] at d0 hsf
      rw [hus] at d1 hsf
      have HSF := hid hsf; have HVS := hid hvs
      have HP2 := hid (show ∀ V, Upd (fun _ => False) wr V → V.cell? ⟨F.p, 0, none⟩ = some (.slice (some ⟨ga, 0, none⟩) N lc) ∧ V.cell? ⟨F.p, 1, none⟩ = some (.slice (some ⟨gw, 0, none⟩) N wc) ∧ V.cell? ⟨ga, j, none⟩ = some (.slice va n vc) ∧ V.cell? ⟨gw, j, none⟩ = some (.slice ua n uc) from fun V hV => ⟨(World.cell?_of_block (a := ⟨F.p, 0, none⟩) (hV.block _ hp (fun e => e))).trans c0, (World.cell?_of_block (a := ⟨F.p, 1, none⟩) (hV.block _ hp (fun e => e))).trans c1, (World.cell?_of_block (a := ⟨ga, j, none⟩) (hV.block _ hg (fun e => e))).trans d0, (World.cell?_of_block (a := ⟨gw, j, none⟩) (hV.block _ hgw (fun e => e))).trans d1⟩)
      have hcur := hid (show Upd (fun _ => False) wr wr.drew from (Upd.refl _ wr).drew)
      clear hst hcell hf1 hf2 hv hu hn hvs hus hsf hgn hsm
      go_upto_region 4 with fail
      go_region_held3 (fun V => V.cell? ⟨F.p, 0, none⟩ = some (.slice (some ⟨ga, 0, none⟩) N lc) ∧ V.cell? ⟨F.p, 1, none⟩ = some (.slice (some ⟨gw, 0, none⟩) N wc) ∧ V.cell? ⟨ga, j, none⟩ = some (.slice va n vc) ∧ V.cell? ⟨gw, j, none⟩ = some (.slice ua n uc))
        (first | exact HP2.out _ hcur.out | exact (HP2.out _ hcur.out).1 | exact (HP2.out _ hcur.out).2.1 | exact (HP2.out _ hcur.out).2.2 | exact (HP2.out _ hcur.out).2.2.1 | exact (HP2.out _ hcur.out).2.2.2 | go_keep)
        (first
          | (go_at_call 17; refine (HSF.out _ hcur.out).mono ?_; rintro e w3 ⟨rfl, h3⟩; have hcur := hid (hcur.out.trans h3 (fun _ _ e => e)); clear h3)
          | fail)
      all_goals
       have HST5 := hid (HST.out.keep HFI.out hcur.out)
       obtain ⟨c0', c1', hp', hcell'⟩ := HTOP.out _ _ _ HST5.out.upd
       obtain ⟨⟨ga', ea, hg', d0'⟩, -⟩ := hcell' j hlt'
       injection ea with ea; injection ea with ea; subst ea
       rw [← HV.out, HVS.out] at d0'
       clear c0 c1 hp hg hgw d0 d1 hcell'
       go_wp2
       go_loopw [6] (fun i wr => ∃ c : Nat, c ≤ n ∧ i = .int .i64 c ∧ ∃ b', LSt w wr F b b' j c) (fun i _ => n - (intOf i).toNat)
       case atStart => exact ⟨0, Nat.zero_le _, rfl, b', HST5.out⟩
       case round =>
         clear c0' c1' hp' hg' d0'
         obtain ⟨c, hc, rfl, b2, hst⟩ := hrel
         have HS2 := hid hst
         obtain ⟨c0, c1, hp, hcell⟩ := HTOP.out _ _ _ hst.upd
         obtain ⟨⟨ga', ea, hg, d0⟩, -⟩ := hcell j hlt'
         injection ea with ea; injection ea with ea; subst ea
         rw [← HV.out, HVS.out] at d0
         by_cases hltc : c < n
         · have hc' : c < F.ls[j].fs.length := by rw [← HNE.out]; exact hltc
           obtain ⟨hda, hdo⟩ := hst.data HFI.out HBF.out hlt' hc'
           have hrow := hst.cur hlt'
           rw [cells_drop _ _ hc'] at hrow
           have hA : (rep c (MF j)).length = c * 3 := by rw [rep_length, MF_length]
           obtain ⟨gv, cv, ev, hgv, d2⟩ := hrow.cell (cellsOf_at hA)
           rw [← HV.out, HVS.out] at ev
           injection ev with ev ev2 ev3
           subst ev ev3
           clear ev2
           have hdl := (HFI.out.small j hlt').2 _ (List.getElem_mem hc')
           have hblen := hst.blen
           have hn256' := (HFI.out.small j hlt').1
           have hkeep := keepB_any (k := b2) hst.book hda (fun q e => (hdo q e).1) (by omega) (by have h1 := HBN.out; have h2 := HN.out; have h3 : 256 * (j + 1) ≤ 256 * N := Nat.mul_le_mul_left _ (by omega); omega)
           obtain ⟨fa, fc, hfs, -, -, -⟩ := (SRow.of_data hda).slice
           have HKS := hid (show ∀ w6 b3, KStepB wr w6 b2 b3 F.ls[j].fs[c].dv F.ls[j].fs[c].data.length (F.ls[j].fs[c].data.map byteV) → LSk w w6 F b b2 b3 j c from fun w6 b3 hk => HS2.out.kept HFI.out HB0.out HBF.out hlt' hc' hk)
           rw [hfs] at d2 hkeep
           rw [hfs] at HKS
           rw [hst.bp] at hkeep
           have HKE := hid hkeep
           generalize F.ls[j].fs[c].data.length = dn at d2 HKE HKS
           generalize List.map byteV F.ls[j].fs[c].data = dx at HKE HKS
           clear hst hcell hda hdo hrow hdl hfs hkeep hblen
           go_wp2_with fail
           refine HKE.out.mono ?_
           rintro e w6 ⟨rfl, b3, hk⟩
           have HK6 := hid (HKS.out _ _ hk)
           obtain ⟨c0', c1', hp', hcell'⟩ := HTOP.out _ _ _ HK6.out.upd
           obtain ⟨⟨ga', ea, hg', d0'⟩, -⟩ := hcell' j hlt'
           injection ea with ea; injection ea with ea; subst ea
           rw [← HV.out, HVS.out] at d0'
           have hcur := HK6.out.cur hlt'
           rw [cells_drop _ _ hc'] at hcur
           have hcur' : SRow w6 80 3 F.ls[j].v F.ls[j].fs.length (rep c (MF j) ++ (.string F.ls[j].fs[c].name :: F.ls[j].fs[c].dv :: .int .i64 F.ls[j].fs[c].synced :: (F.ls[j].fs.flatMap FV.cells).drop ((c + 1) * 3))) := hcur
           obtain ⟨g9, c9, e9, n1, n2, n3, ⟨o1, z1⟩, z2, ⟨o2, z3⟩, z4, ⟨o3, z5⟩, z6, hr9⟩ := hcur'.set3 hA hc' (.string ⟨#[]⟩) (.slice none 0 0) (.int .i64 (-100 - (j : Int)))
           rw [← HV.out, HVS.out] at e9
           injection e9 with e9 e92 e93
           injection e9 with e9; injection e9 with e9
           subst e9 e93
           clear e92
           have hnx := HK6.out.next HFI.out HBF.out hlt' (w3 := ((w6.setCell ⟨gv, c * 3, none⟩ (.string ⟨#[]⟩)).setCell ⟨gv, c * 3 + 1, none⟩ (.slice none 0 0)).setCell ⟨gv, c * 3 + 2, none⟩ (.int .i64 (-100 - (j : Int))))
             ((((Upd.refl _ _).setCell (p := ⟨gv, c * 3, none⟩) (fun _ => by rw [← HV.out, HVS.out]; rfl) _).setCell (p := ⟨gv, c * 3 + 1, none⟩) (fun _ => by rw [← HV.out, HVS.out]; rfl) _).setCell (p := ⟨gv, c * 3 + 2, none⟩) (fun _ => by rw [← HV.out, HVS.out]; rfl) _) (by rw [rep_succ]; exact hr9)
           have HNX := hid hnx
           clear hk hcell' hcur hcur' hnx hr9 hA c0 c1 hp hg d0 hgv d2
           go_wp2
           go_roundw
           case rel => exact ⟨c + 1, by omega, by go_num, b3, HNX.out⟩
           case measure => simp [intOf]; omega
         · obtain rfl : c = n := by omega
           have HS3 := hid (hst.next HFI.out HBF.out hlt' (by rw [← HNE.out]))
           clear hst hcell
           go_wp2
           go_roundw
           case rel => exact ⟨j + 1, by omega, by go_num, b2, HS3.out⟩
           case measure => simp [intOf]; omega
    · obtain rfl : j = N := by omega
      have hstF : LSt w wr F b b' F.ls.length 0 := by rw [← HN.out]; exact hst
      obtain ⟨hkm, hmk⟩ := hstF.full HFI.out HBF.out
      have HFN := hid (show ∀ w', Upd F.marks.vown wr w' → LEnd w w' F b b' from fun w' hu => hstF.fin HFI.out HBF.out hu)
      obtain ⟨K, hK⟩ : ∃ K, K = F.marks := ⟨_, rfl⟩
      have hKN : K.ls.length = j := by rw [hK, KF.marks_len, HN.out]
      have hKp : F.p = K.p := by rw [hK]; rfl
      rw [← hK] at hkm hmk HFN
      obtain ⟨ga, la2, lc2, hlv, hl3, hl4, hla, hat⟩ := hkm.rowAt
      have HK := hid hkm; have HLA := hid hla; have HKN := hid hKN
      have HSH := hid hkm.short
      have HAT := hid (show ∀ (S : Nat → Prop) wr', Upd S wr wr' → (∀ q, q < wr.heap.size → S q → K.vown q) → wr'.cell? ⟨K.p, 0, none⟩ = some (.slice la2 j lc2) ∧ K.p < wr'.heap.size ∧ ∀ i (hi : i < K.ls.length), ga < wr'.heap.size ∧ wr'.cell? ⟨ga, i, none⟩ = some K.ls[i].v from fun S wr' hu hS => by rw [← hKN]; exact hat S wr' hu hS)
      have HG0 := hid (show Grown 40 80 3 wr wr K MF 0 (.slice none 0 0) [] from hmk.grown)
      rw [hKN] at hl3 HLA
      obtain ⟨c0', hp', -⟩ := HAT.out _ _ (Upd.refl (fun _ => False) wr) (fun _ _ e => e.elim)
      rw [hKp]
      clear hst hcell hstF hkm hmk hlv hla hat c0 c1 hp HTOP hKN hKp hK
      obtain ⟨wa0, rfl⟩ : ∃ wa0, wa0 = wr := ⟨_, rfl⟩
      go_wp2
      go_loopw [7, 8] (fun mv i wr => ∃ j2 : Nat, j2 ≤ j ∧ i = .int .i64 j2 ∧ ∃ ma mc gs, mv = .slice ma j2 mc ∧ Grown 40 80 3 wa0 wr K MF j2 mv gs) (fun _ i _ => j - (intOf i).toNat)
      case atStart => exact ⟨0, Nat.zero_le _, rfl, none, 0, [], rfl, HG0.out⟩
      case round =>
        clear c0' hp'
        obtain ⟨j2, hj2, rfl, ma, mc, gs, rfl, hgr⟩ := hrel
        have HG := hid hgr
        obtain ⟨c0, hp, hcell⟩ := HAT.out _ _ hgr.upd (fun _ _ e => e)
        by_cases hlt : j2 < j
        · have hlt' : j2 < K.ls.length := by have := HKN.out; omega
          obtain rfl := HLA.out (by omega)
          obtain ⟨hg, d0⟩ := hcell j2 hlt'
          have hrow := hgr.rest j2 hlt' (Nat.le_refl _)
          have hsh := HSH.out j2 hlt'
          obtain ⟨v, hv⟩ : ∃ v, v = K.ls[j2].v := ⟨_, rfl⟩
          obtain ⟨n, hn⟩ : ∃ n, n = K.ls[j2].n := ⟨_, rfl⟩
          have HV := hid hv; have HNE := hid hn
          rw [← hv] at d0
          rw [← hn] at hsh
          rw [← hv, ← hn] at hrow
          obtain ⟨va, vc, hvs, hv1, hv2, hz⟩ := SRow.slice hrow
          have HVS := hid hvs; have HROW := hid hrow; have HZ := hid hz
          rw [hvs] at d0
          clear hgr hcell hrow hv hn hvs hz
          go_wp2
          obtain ⟨wo, rfl⟩ : ∃ wo, wo = wr := ⟨_, rfl⟩
          go_loopw [9] (fun gvv wr => ∃ L : Nat, n ≤ L ∧ L ≤ 2 * n + 20 ∧ ∃ gao gcap, gvv = .slice gao L gcap ∧ SRow wr 80 3 (.slice gao L gcap) L (rep L (MF j2)) ∧ FullG wr (.slice va n vc) (MF j2) ∧ Upd (fun q => v.ownBlock = some q) wo wr ∧ ∀ q, (Value.slice gao L gcap).ownBlock = some q → v.ownBlock = some q ∨ wo.heap.size ≤ q) (fun gvv _ => 2 * n + 20 - lenOf gvv)
          case atStart => exact ⟨n, Nat.le_refl _, by omega, va, vc, rfl, by rw [← HVS.out]; exact HROW.out, by rw [← HVS.out]; exact FullG.of_owns HROW.out (by simp [MF]), Upd.refl _ _, fun q e => .inl (by rw [HVS.out]; exact e)⟩
          case round =>
            obtain ⟨L, hL1, hL2, gao, gcap, rfl, hd, hf, hup, hown⟩ := hrel
            have HD2 := hid hd; have HF2 := hid hf; have HUP2 := hid hup; have HOWN2 := hid hown
            clear hd hf hup hown
            by_cases hlt2 : L < 2 * n + 20
            · obtain ⟨gv3, w3, hrun3, hd3, hf3, hu3, ha3⟩ := rowFiles.grow (M := MF j2) rfl (fun u hu => by simp [MF] at hu; rcases hu with rfl | rfl | rfl <;> rfl) HD2.out HF2.out HZ.out hL1 (by omega) 40
              obtain ⟨gao3, gcap3, hgs3, -, -, -⟩ := SRow.slice hd3
              have hup3 : Upd (fun q => v.ownBlock = some q) wo w3 := HUP2.out.trans hu3 (fun q hq e => (HOWN2.out q e).resolve_right (by omega))
              have hown3 : ∀ q, gv3.ownBlock = some q → v.ownBlock = some q ∨ wo.heap.size ≤ q := fun q e => (ha3 q e).elim (HOWN2.out q) (fun h => .inr (Nat.le_trans HUP2.out.size h))
              rw [hgs3] at hrun3 hd3 hown3
              have hrun3' : (Builtin.append_ #[40, 40] 40 #[.slice gao L gcap, .slice (some ⟨wr.heap.size, 0, none⟩) 1 1]).run Tryz.prog (wr.alloc (.cells #[.string ⟨#[]⟩, .slice none 0 0, .int .i64 (-100 - (j2 : Int))] 80)) = .ok (.slice gao3 (L + 1) gcap3) w3 := hrun3
              have HR3 := hid hrun3'; have HD3 := hid hd3; have HF3 := hid hf3; have HUP3 := hid hup3; have HOWN3 := hid hown3
              clear hrun3 hrun3' hd3 hf3 hup3 hown3 hu3 ha3 hgs3
              have hlt3 : (L : Int) < 2 * (n : Int) + 20 := by omega
              go_wp2_with (at_builtin; refine wpList_append_run rfl _ _ _ rfl rfl rfl HR3.out ?_)
              go_roundw
              case rel => exact ⟨L + 1, by omega, by omega, gao3, gcap3, rfl, HD3.out, HF3.out, HUP3.out, HOWN3.out⟩
              case measure => simp [lenOf]; omega
            · obtain rfl : L = 2 * n + 20 := by omega
              have hnl : ¬ ((2 * n + 20 : Nat) : Int) < 2 * (n : Int) + 20 := by omega
              have hrm : SRow wr 40 1 (.slice ma j2 mc) j2 gs := SRow.upd HG.out.row HUP2.out (fun q e1 e2 => by
                have h1 := HG.out.new q e1
                have h2 := HK.out.lt ⟨_, KP.oV hlt' (by rw [← HV.out]; exact e2)⟩
                omega)
              obtain ⟨mv', w4, hrun4, r4, u4, o4, -⟩ := rowFiless.push (M := [.slice gao (2 * n + 20) gcap]) hrm rfl (fun x hx => by simp at hx; subst hx; rfl) (by omega) 35
              obtain ⟨ma4, mc4, hms4, -, -, -⟩ := SRow.slice r4
              rw [hms4] at hrun4 r4 o4
              have hrun4' : (Builtin.append_ #[35, 35] 35 #[.slice ma j2 mc, .slice (some ⟨wr.heap.size, 0, none⟩) 1 1]).run Tryz.prog (wr.alloc (.cells #[.slice gao (2 * n + 20) gcap] 40)) = .ok (.slice ma4 (j2 + 1) mc4) w4 := hrun4
              have hstep := HG.out.step HK.out hlt' (HUP2.out.mono (fun q _ e => by rw [← HV.out]; exact e)) (by rw [← HV.out, HVS.out]; exact HF2.out) (FullG.of_owns HD2.out (by simp [MF])) (fun q e => ⟨by rw [← HV.out]; exact HOWN2.out q e, (HD2.out.lt q e)⟩) r4 u4 o4
              have HR4 := hid hrun4'; have HST2 := hid hstep
              obtain ⟨L2, hL2e⟩ : ∃ L2, L2 = 2 * n + 20 := ⟨_, rfl⟩
              rw [← hL2e] at HR4 hnl ⊢
              clear hrun4 hrun4' hstep hrm r4 u4 o4 hms4 hL2e
              go_wp2_with (at_builtin; refine wpList_append_run rfl _ _ _ rfl rfl rfl HR4.out ?_)
              go_roundw
              case rel => exact ⟨j2 + 1, by omega, by go_num, ma4, mc4, _, rfl, HST2.out⟩
              case measure => simp [intOf]; omega
        · obtain rfl : j2 = j := by omega
          have HG2 := HG
          clear hgr hcell
          go_wp2
          obtain ⟨wo, rfl⟩ : ∃ wo, wo = wr := ⟨_, rfl⟩
          go_loopw [11] (fun i wr => ∃ j3 : Nat, j3 ≤ j2 ∧ i = .int .i64 j3 ∧ Drawn wo wr) (fun i _ => j2 - (intOf i).toNat)
          case atStart => exact ⟨0, Nat.zero_le _, rfl, ⟨Upd.refl _ _, rfl⟩⟩
          case round =>
            clear c0 hp
            obtain ⟨j3, hj3, rfl, hdr⟩ := hrel
            have HDR := hid hdr
            have hU : Upd K.vown wa0 wr := HG2.out.upd.trans hdr.1 (fun _ _ e => e.elim)
            obtain ⟨c0, hp, hcell⟩ := HAT.out _ _ hU (fun _ _ e => e)
            by_cases hlt : j3 < j2
            · have hlt' : j3 < K.ls.length := by have := HKN.out; omega
              have hltg : j3 < gs.length := by rw [HG2.out.len]; exact hlt
              obtain rfl := HLA.out (by omega)
              obtain ⟨hg, d0⟩ := hcell j3 hlt'
              have hf1 := (HG2.out.full j3 hlt' hlt).upd HDR.out.1 (fun _ _ e => e)
              have hf2 := (HG2.out.gfull j3 hltg).upd HDR.out.1 (fun _ _ e => e)
              obtain ⟨gm, cm, em, hgm, d1⟩ := SRow.cell (SRow.upd HG2.out.row HDR.out.1 (fun _ _ e => e)) (k := j3) (u := gs[j3]) (by simp [hltg])
              injection em with em1 _ em3
              subst em1 em3
              obtain ⟨v, hv⟩ : ∃ v, v = K.ls[j3].v := ⟨_, rfl⟩
              obtain ⟨g2, hg2⟩ : ∃ g, g = gs[j3] := ⟨_, rfl⟩
              rw [← hv] at d0 hf1
              rw [← hg2] at d1 hf2
              obtain ⟨va, vn, vc, rfl, v1, v2, v3⟩ := id hf1
              obtain ⟨ga2, gn2, gc2, rfl, x1, x2, x3⟩ := id hf2
              have HO1 := hid (marked_any (m := -100 - (j3 : Int)) (show FullG wr (.slice va vn vc) [.string ByteArray.empty, .slice none 0 0, .int .i64 (-100 - (j3 : Int))] from hf1))
              have HO2 := hid (show ∀ V, Drawn wr V → _ from fun V hV => marked_any (m := -100 - (j3 : Int)) (show FullG V (.slice ga2 gn2 gc2) [.string ByteArray.empty, .slice none 0 0, .int .i64 (-100 - (j3 : Int))] from hf2.upd hV.1 (fun _ _ e => e)))
              clear hdr hcell hf1 hf2 v3 x3 hU hv hg2
              go_wp2_with fail
              refine HO1.out.mono ?_
              rintro e wa ⟨rfl, hda⟩
              have HDA := hid hda
              have d1' := (hda.cell _).trans d1
              have hgm' : gm < wa.heap.size := by rw [hda.2]; exact hgm
              clear hda
              go_wp2_with fail
              refine (HO2.out _ HDA.out).mono ?_
              rintro e wb ⟨rfl, hdb⟩
              have HDB := hid (show Drawn wr wb from ⟨HDA.out.1.trans hdb.1 (fun _ _ e => e), hdb.2.trans HDA.out.2⟩)
              clear hdb
              go_wp2
              go_roundw
              case rel => exact ⟨j3 + 1, by omega, by go_num, HDR.out.1.trans HDB.out.1 (fun _ _ e => e), HDB.out.2.trans HDR.out.2⟩
              case measure => simp [intOf]; omega
            · obtain rfl : j3 = j2 := by omega
              have HFX := hid (HFN.out _ hU)
              clear hdr hcell
              go_wp2
              go_ret
              exact ⟨rfl, _, HFX.out⟩

end Go.Proofs.YtohpgmeflmppaaaGreat
