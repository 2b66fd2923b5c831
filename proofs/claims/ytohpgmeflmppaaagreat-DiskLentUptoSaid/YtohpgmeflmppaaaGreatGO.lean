/-
  Package stratalaw4, walked: Book.take.
  Package stratalaw4, walked: Book.holds, roomy.
-/
import Derived.Test.YtohpgmeflmppaaaGreatGN
namespace Go.Proofs.YtohpgmeflmppaaaGreat
set_option linter.unusedVariables false
set_option linter.unusedSimpArgs false
set_option linter.unnecessarySimpa false
set_option linter.unusedSectionVars false
open Go Go.RowKit

/-- The world of the scripts, its first block: the two lists of disks, the book. -/
def worldCells (dv rv : Value) (b : BK) : Array Value := #[dv, rv, b.lv, b.mv, .int .i64 b.n]

/-- What a list becomes: one that was handed out is written full, lengthened, and kept. -/
structure Took (w w' : World) (p : Nat) (dv rv : Value) (b b' : BK) (v : Value) : Prop where
  book : BookAt w' b'
  top : w'.heap[p]? = some (.cells (worldCells dv rv b') 48 (0, 0))
  upd : Upd (fun k => k = p ∨ b.blk k ∨ v.ownBlock = some k) w w'
  foot : ∀ k, b'.blk k → b.blk k ∨ v.ownBlock = some k ∨ w.heap.size ≤ k
  most : b'.n ≤ b.n + 268435456

theorem took_full {w wr : World} {p : Nat} {dv rv v : Value} {b : BK} (hb : BookAt w b) (ht : w.heap[p]? = some (.cells (worldCells dv rv b) 48 (0, 0))) (hpb : ¬ b.blk p) (hvp : ¬ v.ownBlock = some p) (hvb : ∀ k, v.ownBlock = some k → ¬ b.blk k)
    (hu : Upd (fun k => v.ownBlock = some k) w wr) {q : Int} (h1 : b.n ≤ q) (h2 : q ≤ b.n + 268435456) : Took w (wr.setCell ⟨p, 4, none⟩ (.int .i64 q)) p dv rv b { b with n := q } v := by
  have hu2 : Upd (fun k => k = p ∨ v.ownBlock = some k) w (wr.setCell ⟨p, 4, none⟩ (.int .i64 q)) := (hu.mono (T := fun k => k = p ∨ v.ownBlock = some k) (fun _ _ h => .inr h)).setCell (p := ⟨p, 4, none⟩) (fun _ => .inl rfl) _
  have hb2 := hb.upd hu2 (fun k hk h => h.elim (fun e => hpb (e ▸ hk)) (fun e => hvb k e hk))
  refine ⟨⟨hb2.lists, hb2.marks, hb2.full, hb2.apart, hb2.apart2, hb2.lt, hb2.few, Int.le_trans hb2.less h1, Int.le_trans hb2.pos h1⟩, ?_, hu2.mono (fun k _ h => h.elim .inl (fun h => .inr (.inr h))), fun k hk => .inl hk, h2⟩
  exact heap_setCell_at _ _ _ _ _ _ (hu.get ht hvp)

/-- The two lists have joined. -/
theorem took_more {w w1 w2 w4 : World} {p : Nat} {dv rv v gv lv' mv' : Value} {b : BK} {q : Int} {m : UInt8} (hk : Took w w1 p dv rv b { b with n := q } v) (hpb : ¬ b.blk p) (hvp : ¬ v.ownBlock = some p) (hvb : ∀ k, v.ownBlock = some k → ¬ b.blk k) (hplt : p < w.heap.size)
    (hle : ((b.ls.length * 35 : Nat) : Int) ≤ b.n) (hq1 : b.n + 70 ≤ q) (hq2 : q ≤ 16777216) (hfv : Full w1 v m) (hfg : Full w1 gv m) (hg : ∀ k, gv.ownBlock = some k → v.ownBlock = some k ∨ w.heap.size ≤ k) (hgl : ∀ k, gv.ownBlock = some k → k < w1.heap.size ∧ ¬ k = p) (hvl : ∀ k, v.ownBlock = some k → k < w.heap.size)
    (hgb : ∀ k, gv.ownBlock = some k → ¬ b.blk k)
    (hl : w2.ownsRow 0 38 1 lv' (b.ls.length + 2) (b.ls.map Prod.fst ++ [v, gv])) (hlu : Upd (fun k => b.lv.ownBlock = some k) w1 w2) (hlo : ∀ k, lv'.ownBlock = some k → b.lv.ownBlock = some k ∨ w1.heap.size ≤ k)
    (hm : DataIs w4 mv' (b.ls.map Prod.snd ++ [m, m])) (hmu : Upd (fun k => b.mv.ownBlock = some k) (w2.setCell ⟨p, 2, none⟩ lv') w4) (hmo : ∀ k, mv'.ownBlock = some k → b.mv.ownBlock = some k ∨ (w2.setCell ⟨p, 2, none⟩ lv').heap.size ≤ k) :
    Took w (w4.setCell ⟨p, 3, none⟩ mv') p dv rv b ⟨b.ls ++ [(v, m), (gv, m)], lv', mv', q⟩ v := by
  have hb := hk.book
  have hp1 : p < w1.heap.size := Nat.lt_of_lt_of_le hplt hk.upd.size
  have hs2 : (w2.setCell ⟨p, 2, none⟩ lv').heap.size = w2.heap.size := by simp
  have s12 := hlu.size
  have s24 := hmu.size
  -- what lies neither in p nor in the two rows is as it was at w1
  have hU : Upd (fun k => k = p ∨ b.lv.ownBlock = some k ∨ b.mv.ownBlock = some k) w1 (w4.setCell ⟨p, 3, none⟩ mv') := by
    refine Upd.setCell (p := ⟨p, 3, none⟩) ?_ (fun _ => .inl rfl) _
    refine Upd.trans (T := fun k => b.mv.ownBlock = some k) (Upd.setCell (p := ⟨p, 2, none⟩) (hlu.mono (fun k _ h => .inr (.inl h))) (fun _ => .inl rfl) lv') hmu (fun k _ h => .inr (.inr h))
  have hpl : ¬ b.lv.ownBlock = some p := fun h => hpb (.inl h)
  have hpm : ¬ b.mv.ownBlock = some p := fun h => hpb (.inr (.inl h))
  have hlvp : ¬ lv'.ownBlock = some p := fun h => (hlo p h).elim hpl (fun h => by omega)
  have hmvp : ¬ mv'.ownBlock = some p := fun h => (hmo p h).elim hpm (fun h => by omega)
  have hlt1 : ∀ k, b.blk k → k < w1.heap.size := hb.lt
  have hvl1 : ∀ k, v.ownBlock = some k → k < w1.heap.size := fun k h => Nat.lt_of_lt_of_le (hvl k h) hk.upd.size
  have hlm : ∀ k, lv'.ownBlock = some k → ¬ mv'.ownBlock = some k := by
    intro k h1 h2
    rcases hlo k h1 with h3 | h3
    · rcases hmo k h2 with h4 | h4
      · exact (hb.apart k h3).1 h4
      · have := hlt1 k (.inl h3); omega
    · rcases hmo k h2 with h4 | h4
      · have := hlt1 k (.inr (.inl h4)); omega
      · have h5 : k < w2.heap.size := (hl.lt k h1).2
        omega
  have hmem : ∀ x, x ∈ b.ls ++ [(v, m), (gv, m)] → x ∈ b.ls ∨ x = (v, m) ∨ x = (gv, m) := fun x hx => by simpa using hx
  have hxl : ∀ x ∈ b.ls ++ [(v, m), (gv, m)], ∀ k, x.1.ownBlock = some k → k < w1.heap.size ∧ k ≠ p ∧ ¬ b.lv.ownBlock = some k ∧ ¬ b.mv.ownBlock = some k := by
    intro x hx k hxk
    rcases hmem x hx with hx | rfl | rfl
    · exact ⟨hlt1 k (.inr (.inr ⟨x, hx, hxk⟩)), fun e => hpb (e ▸ .inr (.inr ⟨x, hx, hxk⟩)), fun h => (hb.apart k h).2 x hx hxk, fun h => hb.apart2 k h x hx hxk⟩
    · exact ⟨hvl1 k hxk, fun e => hvp (e ▸ hxk), fun h => hvb k hxk (.inl h), fun h => hvb k hxk (.inr (.inl h))⟩
    · exact ⟨(hgl k hxk).1, (hgl k hxk).2, fun h => hgb k hxk (.inl h), fun h => hgb k hxk (.inr (.inl h))⟩
  refine ⟨⟨?_, ?_, ?_, ?_, ?_, ?_, ?_, ?_, ?_⟩, ?_, ?_, ?_, hk.most⟩
  · have h1 : w4.ownsRow 0 38 1 lv' (b.ls.length + 2) (b.ls.map Prod.fst ++ [v, gv]) := owns_upd (owns_upd hl (Upd.cell_only w2 p 2 lv') (fun k hk e => hlvp (e ▸ hk))) hmu (fun k hk e => by
      rcases hlo k hk with h3 | h3
      · exact (hb.apart k h3).1 e
      · have := hlt1 k (.inr (.inl e)); omega)
    have h2 := owns_upd h1 (Upd.cell_only w4 p 3 mv') (fun k hk e => hlvp (e ▸ hk))
    simpa using h2
  · have h2 := hm.upd (Upd.cell_only w4 p 3 mv') (fun k hk e => hmvp (e ▸ hk))
    simpa using h2
  · intro x hx
    have h1 := hxl x hx
    have hf : Full w1 x.1 x.2 := by
      rcases hmem x hx with hx | rfl | rfl
      · exact hb.full x hx
      · exact hfv
      · exact hfg
    exact hf.upd hU (fun k hk e => by
      obtain ⟨-, a1, a2, a3⟩ := h1 k hk
      rcases e with e | e | e
      · exact a1 e
      · exact a2 e
      · exact a3 e)
  · intro k h1
    refine ⟨hlm k h1, fun x hx hxk => ?_⟩
    obtain ⟨a0, a1, a2, a3⟩ := hxl x hx k hxk
    rcases hlo k h1 with h3 | h3
    · exact a2 h3
    · omega
  · intro k h1 x hx hxk
    obtain ⟨a0, a1, a2, a3⟩ := hxl x hx k hxk
    rcases hmo k h1 with h3 | h3
    · exact a3 h3
    · omega
  · intro k hk
    have hs : w4.heap.size ≤ (w4.setCell ⟨p, 3, none⟩ mv').heap.size := by simp
    rcases hk with h | h | ⟨x, hx, h⟩
    · have := (hl.lt k h).2; omega
    · have := hm.lt k h; omega
    · have := (hxl x hx k h).1; omega
  · simp
    omega
  · simp
    omega
  · show 0 ≤ q
    exact hb.pos
  · have h1 := hk.top
    have h2 : w2.heap[p]? = some (.cells (worldCells dv rv { b with n := q }) 48 (0, 0)) := hlu.get h1 hpl
    have h3 := heap_setCell_at w2 p 2 _ _ lv' h2
    have h4 := hmu.get h3 hpm
    exact heap_setCell_at w4 p 3 _ _ mv' h4
  · refine hk.upd.trans hU (fun k hlt h => ?_)
    rcases h with h | h | h
    · exact .inl h
    · exact .inr (.inl (.inl h))
    · exact .inr (.inl (.inr (.inl h)))
  · intro k h
    rcases h with h | h | ⟨x, hx, h⟩
    · rcases hlo k h with h3 | h3
      · exact .inl (.inl h3)
      · exact .inr (.inr (Nat.le_trans hk.upd.size h3))
    · rcases hmo k h with h3 | h3
      · exact .inl (.inr (.inl h3))
      · exact .inr (.inr (by have := hk.upd.size; omega))
    · rcases hmem x hx with hx | rfl | rfl
      · exact .inl (.inr (.inr ⟨x, hx, h⟩))
      · exact .inr (.inl h)
      · exact (hg k h).elim (fun h => .inr (.inl h)) (fun h => .inr (.inr h))

set_option maxRecDepth 100000 in
set_option maxHeartbeats 1600000 in
theorem take_any {w : World} {p : Nat} {dv rv v : Value} {b : BK} {bs : List UInt8} (hb : BookAt w b) (ht : w.heap[p]? = some (.cells (worldCells dv rv b) 48 (0, 0))) (hd : DataIs w v bs) (hbl : bs.length ≤ 67108864)
    (hn : b.n ≤ 4611686018427387904) (hpb : ¬ b.blk p) (hvp : ¬ v.ownBlock = some p) (hvb : ∀ k, v.ownBlock = some k → ¬ b.blk k) :
    Calls Tryz.prog 63 #[.pointer (some ⟨p, 2, none⟩), v] w fun e w' => e = .returned (.tuple #[]) ∧ ∃ b', Took w w' p dv rv b b' v := by
  have hplt : p < w.heap.size := lt_of_heap ht
  have c0 : w.cell? ⟨p, 2 + 0, none⟩ = some b.lv := by rw [cell_of_row w p _ _ _ _ ht]; rfl
  have hlr := hb.lists
  obtain ⟨lao, lcap, hlv, hln, hlc⟩ : ∃ ao cap, b.lv = .slice ao b.ls.length cap ∧ b.ls.length ≤ cap ∧ cap ≤ 9223372036854775807 := by
    rcases hlr.2 with ⟨e, hz⟩ | ⟨g, cap, cur, e, -, -, h1, h2, -⟩
    · exact ⟨none, 0, by rw [hz]; exact e, by omega, by omega⟩
    · exact ⟨_, cap, e, h1, by simpa [maxLen] using h2⟩
  rw [hlv] at c0
  obtain ⟨ao, cap, hv, hcap, hm, hnone, hsome⟩ := hd.shape
  have hm' : cap ≤ 9223372036854775807 := by simpa [maxLen] using hm
  have hfew := hb.few
  have hm250 : (1 + b.ls.length / 2 % 250) < 256 := by omega
  obtain ⟨m, hmk⟩ : ∃ m : UInt8, (m.toNat : Int) = ((1 + b.ls.length / 2 % 250 : Nat) : Int) := ⟨UInt8.ofNat (1 + b.ls.length / 2 % 250), by rw [UInt8.toNat_ofNat', Nat.mod_eq_of_lt hm250]⟩
  have HB := hid hb; have HT := hid ht; have HD := hid hd; have HLV := hid hlv; have HV := hid hv; have HMK := hid hmk
  have HPB := hid hpb; have HVP := hid hvp; have HVB := hid hvb; have HNONE := hid hnone; have HSOME := hid hsome
  obtain ⟨N, hN⟩ : ∃ N, N = b.ls.length := ⟨_, rfl⟩
  rw [← hN] at c0 hln hfew hm250 HMK hmk
  have HNN := hid hN
  rw [hv]
  clear hb ht hd hlv hv hpb hvp hvb hnone hsome hlr hN hmk hm
  go_enter Tryz.func63, Tryz.ntmps63
  go_wp2
  have hme : (1 + (N : Int) / 2 % 250) = ((m.toNat : Nat) : Int) := by have := HMK.out; omega
  rw [hme]
  clear hme hm250
  go_loopw [5] (fun i wr => ∃ k : Nat, k ≤ bs.length ∧ i = .int .i64 k ∧ ∃ xs : List UInt8, xs.length = bs.length ∧ xs = List.replicate k m ++ bs.drop k ∧ Upd (fun k => v.ownBlock = some k) w wr ∧ DataIs wr v xs) (fun i _ => bs.length - (intOf i).toNat)
  case atStart => exact ⟨0, Nat.zero_le _, rfl, bs, rfl, by simp, Upd.refl _ _, HD.out⟩
  case round =>
    obtain ⟨k, hk, rfl, xs, hxl, hxe, hup, hdx⟩ := hrel
    have HXL := hid hxl; have HXE := hid hxe; have HUP := hid hup; have HDX := hid hdx
    clear hxl hxe hup hdx
    by_cases hlt : k < bs.length
    · obtain ⟨g, rfl⟩ : ∃ g, ao = some ⟨g, 0, none⟩ := by
        cases ao with
        | none => have h := (HNONE.out rfl).1; rw [h] at hlt; simp at hlt
        | some a =>
          obtain ⟨z1, z2, -, -⟩ := HSOME.out a rfl
          obtain ⟨g, o, s⟩ := a
          simp only at z1 z2
          subst z1 z2
          exact ⟨g, rfl⟩
      have hdx : DataIs wr (.slice (some ⟨g, 0, none⟩) xs.length cap) xs := by rw [HXL.out, ← HV.out]; exact HDX.out
      obtain ⟨d0, d1, d2⟩ := hdx.c_at (k := k) (by rw [HXL.out]; exact hlt)
      have hds := hdx.setAt (k := k) (by rw [HXL.out]; exact hlt) m
      have hset : xs.set k m = List.replicate (k + 1) m ++ bs.drop (k + 1) := by rw [HXE.out]; exact set_replicate hlt m
      have HDS := hid hds; have HSET := hid hset
      generalize xs[k]'(by rw [HXL.out]; exact hlt) = x0 at d0
      simp only [byteV] at d0
      clear hdx hds hset
      go_wp2
      go_roundw
      case rel =>
        refine ⟨k + 1, by omega, by go_num, xs.set k m, by rw [List.length_set]; exact HXL.out, HSET.out, HUP.out.setCell (p := ⟨g, k, none⟩) (fun _ => by rw [HV.out]; rfl) _, ?_⟩
        have := HDS.out
        rw [HXL.out, ← HV.out] at this
        exact this
      case measure => simp [intOf]; omega
    · obtain rfl : k = bs.length := by omega
      have hdr : DataIs wr v (List.replicate bs.length m) := by have h := HDX.out; rw [HXE.out] at h; simpa using h
      have hz : ∀ a, ao = some a → a.off = 0 ∧ a.spot = none := fun a ha => ⟨(HSOME.out a ha).1, (HSOME.out a ha).2.1⟩
      have HZ := hid hz
      have hfu : Full wr (.slice ao bs.length cap) m := by rw [← HV.out]; exact hdr.full
      obtain ⟨gv1, w1, hrun1, hd1, hf1, hu1, ha1⟩ := grow_step hdr hfu hz (Nat.le_refl _) (by omega) 38
      rw [HV.out] at hrun1
      obtain ⟨gao1, gcap1, hgs1, -, -, -, -⟩ := hd1.shape
      rw [List.length_replicate] at hgs1
      have hup1 : Upd (fun k => v.ownBlock = some k) w w1 := HUP.out.trans hu1 (fun _ _ h => h)
      have hown1 : ∀ k, gv1.ownBlock = some k → v.ownBlock = some k ∨ w.heap.size ≤ k := fun k hk => (ha1 k hk).elim .inl (fun h => .inr (Nat.le_trans HUP.out.size h))
      rw [hgs1] at hrun1 hd1 hown1
      have HRUN1 := hid hrun1; have HD1 := hid hd1; have HF1 := hid hf1; have HUP1 := hid hup1; have HOWN1 := hid hown1
      clear hrun1 hd1 hf1 hup1 hown1 hu1 ha1 hgs1 hdr hz hfu
      go_wp2_with (at_builtin; refine wpList_append_run rfl _ _ _ rfl rfl rfl HRUN1.out ?_)
      go_loopw [6] (fun gvv wr2 => ∃ L : Nat, bs.length + 1 ≤ L ∧ L ≤ bs.length + 70 ∧ ∃ gao gcap, gvv = .slice gao L gcap ∧ DataIs wr2 (.slice gao L gcap) (List.replicate L m) ∧ Full wr2 (.slice ao bs.length cap) m ∧ Upd (fun k => v.ownBlock = some k) w wr2 ∧ ∀ k, (Value.slice gao L gcap).ownBlock = some k → v.ownBlock = some k ∨ w.heap.size ≤ k) (fun gvv _ => bs.length + 70 - lenOf gvv)
      case atStart => exact ⟨bs.length + 1, Nat.le_refl _, by omega, gao1, gcap1, rfl, HD1.out, HF1.out, HUP1.out, HOWN1.out⟩
      case round =>
        obtain ⟨L, hL1, hL2, gao, gcap, rfl, hd, hf, hup, hown⟩ := hrel
        have HD2 := hid hd; have HF2 := hid hf; have HUP2 := hid hup; have HOWN2 := hid hown
        clear hd hf hup hown
        by_cases hlt2 : L < bs.length + 70
        · obtain ⟨gv3, w3, hrun3, hd3, hf3, hu3, ha3⟩ := grow_step HD2.out HF2.out HZ.out (by omega) (by omega) 38
          obtain ⟨gao3, gcap3, hgs3, -, -, -, -⟩ := hd3.shape
          rw [List.length_replicate] at hgs3
          have hup3 : Upd (fun k => v.ownBlock = some k) w w3 := HUP2.out.trans hu3 (fun k hk e => (HOWN2.out k e).resolve_right (by omega))
          have hown3 : ∀ k, gv3.ownBlock = some k → v.ownBlock = some k ∨ w.heap.size ≤ k := fun k hk => (ha3 k hk).elim (HOWN2.out k) (fun h => .inr (Nat.le_trans HUP2.out.size h))
          rw [hgs3] at hrun3 hd3 hown3
          have HRUN3 := hid hrun3; have HD3 := hid hd3; have HF3 := hid hf3; have HUP3 := hid hup3; have HOWN3 := hid hown3
          clear hrun3 hd3 hf3 hup3 hown3 hu3 ha3 hgs3
          have hlt3 : (L : Int) < (bs.length : Int) + 70 := by omega
          go_wp2_with (at_builtin; refine wpList_append_run rfl _ _ _ rfl rfl rfl HRUN3.out ?_)
          go_roundw
          case rel => exact ⟨L + 1, by omega, by omega, gao3, gcap3, rfl, HD3.out, HF3.out, HUP3.out, HOWN3.out⟩
          case measure => simp [lenOf]; omega
        · obtain rfl : L = bs.length + 70 := by omega
          have hlt3 : ¬ (((bs.length + 70 : Nat) : Int) < (bs.length : Int) + 70) := by omega
          have htop := HUP2.out.get HT.out HVP.out
          have c2 : wr.cell? ⟨p, 2 + 2, none⟩ = some (.int .i64 b.n) := by rw [cell_of_row _ p _ _ _ _ htop]; rfl
          have f2 : wr.frozen? ⟨p, 2 + 2, none⟩ = false := frozen_of_row _ p _ _ _ htop
          have f0 : wr.frozen? ⟨p, 2 + 0, none⟩ = false := frozen_of_row _ p _ _ _ htop
          have f1 : wr.frozen? ⟨p, 2 + 1, none⟩ = false := frozen_of_row _ p _ _ _ htop
          have hp2 : p < wr.heap.size := lt_of_heap htop
          have hnn := HB.out.pos
          have HTOP := hid htop
          clear htop
          have hgt : ((bs.length + 70 : Nat) : Int) = (bs.length : Int) + 70 := by omega
          have hw8 : b.n + (bs.length : Int) + ((bs.length + 70 : Nat) : Int) ≤ 9223372036854775807 := by omega
          have hlo8 : 0 ≤ b.n + (bs.length : Int) + ((bs.length + 70 : Nat) : Int) := by omega
          by_cases hful : 16777216 < b.n + (bs.length : Int) + ((bs.length : Int) + 70)
          · have hT := took_full HB.out HT.out HPB.out HVP.out HVB.out HUP2.out (q := b.n + (bs.length : Int) + ((bs.length : Int) + 70)) (by omega) (by omega)
            rw [HV.out] at hT
            have HT1 := hid hT
            clear hT
            go_wp2
            refine bodyPost_ret (results_none rfl _ _ _) rfl ?_
            exact ⟨rfl, _, HT1.out⟩
          · obtain ⟨nq, hnq⟩ : ∃ nq, nq = b.n + (bs.length : Int) + ((bs.length : Int) + 70) := ⟨_, rfl⟩
            have hT := took_full HB.out HT.out HPB.out HVP.out HVB.out HUP2.out (q := nq) (by omega) (by omega)
            go_upto_region 10 with fail
            rw [← hnq]
            obtain ⟨w1q, hw1q⟩ : ∃ w1q, w1q = wr.setCell ⟨p, 4, none⟩ (.int .i64 nq) := ⟨_, rfl⟩
            rw [← hw1q] at hT ⊢
            have htop1 := hT.top
            have g0 : w1q.cell? ⟨p, 2 + 0, none⟩ = some (.slice lao N lcap) := by rw [cell_of_row _ p _ _ _ _ htop1, HNN.out, ← HLV.out]; rfl
            have g0f : w1q.frozen? ⟨p, 2 + 0, none⟩ = false := frozen_of_row _ p _ _ _ htop1
            have hp3 : p < w1q.heap.size := lt_of_heap htop1
            have hfv : Full w1q v m := by
              rw [hw1q, HV.out]
              exact HF2.out.upd (Upd.cell_only wr p 4 _) (fun k hk e => HVP.out (by rw [HV.out, hk, e]))
            have hgp : ∀ k, (Value.slice gao (bs.length + 70) gcap).ownBlock = some k → k < wr.heap.size ∧ ¬ k = p := fun k hk => ⟨HD2.out.lt k hk, fun e => (HOWN2.out k hk).elim (fun h => HVP.out (e ▸ h)) (fun h => by omega)⟩
            have hfg : Full w1q (.slice gao (bs.length + 70) gcap) m := by
              rw [hw1q]
              exact HD2.out.full.upd (Upd.cell_only wr p 4 _) (fun k hk e => (hgp k hk).2 e)
            have hsz1 : w1q.heap.size = wr.heap.size := by rw [hw1q]; simp
            obtain ⟨lv', w2, hrunl, hl, hlu, hlo⟩ := run_append_lists (w := w1q) (a := .slice ao bs.length cap) (b := .slice gao (bs.length + 70) gcap) hT.book.lists (by show b.ls.length ≤ 1000000; have := HNN.out; omega) rfl rfl 27
            rw [show ({ b with n := nq } : BK).lv = b.lv from rfl, HLV.out, ← HNN.out] at hrunl
            obtain ⟨lao2, lcap2, hls2, -, -⟩ := owns_shape hl
            rw [show ({ b with n := nq } : BK).ls.length = b.ls.length from rfl] at hls2
            have hlv2 : ∀ k, lv'.ownBlock = some k → ¬ k = p := fun k hk e => (hlo k hk).elim (fun h => HPB.out (.inl (e ▸ h))) (fun h => by omega)
            have hlu2 : Upd (fun k => b.lv.ownBlock = some k) w1q w2 := hlu
            have htop2 := hlu2.get htop1 (fun h => HPB.out (.inl h))
            have htop3 := heap_setCell_at w2 p 2 _ _ lv' htop2
            have hmk3 : DataIs (w2.setCell ⟨p, 2, none⟩ lv') b.mv (b.ls.map Prod.snd) := ((hT.book.marks).upd hlu2 (fun k hk e => (hT.book.apart k e).1 hk)).upd (Upd.cell_only w2 p 2 lv') (fun k hk e => HPB.out (.inr (.inl (e ▸ hk))))
            obtain ⟨mv', w4, hrunm, hm4, hmu, hmo, -⟩ := run_append_data2 (w := (w2.setCell ⟨p, 2, none⟩ lv').alloc (.cells #[byteV m, byteV m] 5)) (hmk3.upd ((Upd.refl (fun _ => False) _).alloc _) (fun _ _ h => h)) (bytes_new (w2.setCell ⟨p, 2, none⟩ lv') [m, m]) (by have := HNN.out; simp; omega) 38
            obtain ⟨mao, mcap, hmv, -, -, -, -⟩ := hmk3.shape
            rw [List.length_map, ← HNN.out] at hmv
            obtain ⟨mao4, mcap4, hmv4, -, -, -, -⟩ := hm4.shape
            obtain ⟨N4, hN4⟩ : ∃ N4, N4 = (b.ls.map Prod.snd ++ [m, m]).length := ⟨_, rfl⟩
            rw [← hN4] at hmv4
            have hmu2 : Upd (fun k => b.mv.ownBlock = some k) (w2.setCell ⟨p, 2, none⟩ lv') w4 := ((Upd.refl (fun k => b.mv.ownBlock = some k) (w2.setCell ⟨p, 2, none⟩ lv')).alloc _).trans hmu (fun _ _ h => h)
            have hmo2 : ∀ k, mv'.ownBlock = some k → b.mv.ownBlock = some k ∨ (w2.setCell ⟨p, 2, none⟩ lv').heap.size ≤ k := fun k hk => (hmo k hk).elim .inl (fun h => .inr (by simp at h ⊢; omega))
            have hK := took_more hT HPB.out HVP.out HVB.out hplt HB.out.less (by omega) (by omega) hfv hfg HOWN2.out (fun k hk => ⟨by rw [hsz1]; exact (hgp k hk).1, (hgp k hk).2⟩) HD.out.lt (fun k hk hb2 => (HOWN2.out k hk).elim (fun h => HVB.out k h hb2) (fun h => by have := HB.out.lt k hb2; omega))
              (by have h := hl; rw [HV.out]; exact h) hlu2 hlo hm4 hmu2 hmo2
            rw [HV.out] at hK
            have k1 : (w2.setCell ⟨p, 2, none⟩ lv').cell? ⟨p, 2 + 1, none⟩ = some (.slice mao N mcap) := by rw [cell_of_row _ p _ _ _ _ htop3, ← hmv]; rfl
            have k1f : (w2.setCell ⟨p, 2, none⟩ lv').frozen? ⟨p, 2 + 1, none⟩ = false := frozen_of_row _ p _ _ _ htop3
            have k0 : w2.cell? ⟨p, 2 + 0, none⟩ = some (.slice lao N lcap) := by rw [cell_of_row _ p _ _ _ _ htop2, HNN.out, ← HLV.out]; rfl
            have k0f : w2.frozen? ⟨p, 2 + 0, none⟩ = false := frozen_of_row _ p _ _ _ htop2
            have htop4 := hmu2.get htop3 (fun h => HPB.out (.inr (.inl h)))
            have k2 : w4.cell? ⟨p, 2 + 1, none⟩ = some (.slice mao N mcap) := by rw [cell_of_row _ p _ _ _ _ htop4, ← hmv]; rfl
            have k2f : w4.frozen? ⟨p, 2 + 1, none⟩ = false := frozen_of_row _ p _ _ _ htop4
            have hpw2 : p < w2.heap.size := lt_of_heap htop2
            have hpw4 : p < w4.heap.size := lt_of_heap htop4
            rw [hmv] at hrunm
            rw [hls2] at hrunl hrunm k1 k1f hK
            rw [hmv4] at hrunm hK
            obtain ⟨N2, hN2⟩ : ∃ N2, N2 = b.ls.length + 2 := ⟨_, rfl⟩
            rw [← hN2] at hrunl hrunm k1 k1f hK
            obtain ⟨w3, hw3⟩ : ∃ w3, w3 = w2.setCell ⟨p, 2, none⟩ (.slice lao2 N2 lcap2) := ⟨_, rfl⟩
            rw [← hw3] at hrunm k1 k1f
            have hpw3 : p < w3.heap.size := by rw [hw3]; simpa using hpw2
            have hrunm' : (Builtin.append_ #[38, 38] 38 #[.slice mao N mcap, .slice (some ⟨w3.heap.size, 0, none⟩) 2 2]).run Tryz.prog (w3.alloc (.cells #[.int .u8 (m.toNat : Int), .int .u8 (m.toNat : Int)] 5)) = .ok (.slice mao4 N4 mcap4) w4 := hrunm
            have HW3 := hid hw3
            have HRUNL := hid hrunl; have HRUNM := hid hrunm'; have HK := hid hK
            clear hw3 hrunm'
            clear hrunl hrunm hK hT htop1 htop2 htop3 htop4 hfv hfg hgp hl hlu hlo hls2 hlv2 hlu2 hmk3 hm4 hmu hmo hmv hmv4 hN4 hmu2 hmo2 hN2 hw1q hnq c0 c2 f2 f0 f1 hsz1
            go_upto_region 11 with (at_builtin; refine wpList_append_run rfl _ _ _ rfl rfl rfl HRUNL.out ?_)
            rw [← HW3.out]
            go_wp2_with (at_builtin; refine wpList_append_run rfl _ _ _ rfl rfl rfl HRUNM.out ?_)
            go_end0
            exact ⟨rfl, _, HK.out⟩

end Go.Proofs.YtohpgmeflmppaaaGreat

namespace Go.Proofs.YtohpgmeflmppaaaGreat
set_option linter.unusedVariables false
set_option linter.unusedSimpArgs false
set_option linter.unnecessarySimpa false
set_option linter.unusedSectionVars false
open Go Go.RowKit

def Drawn (w w' : World) : Prop := Upd (fun _ => False) w w' ∧ w'.heap = w.heap
theorem Drawn.cell {w w' : World} (h : Drawn w w') (a : Addr) : w'.cell? a = w.cell? a := World.cell?_of_block (by rw [h.2])
theorem Drawn.drewN {w w' : World} (h : Drawn w w') (q : Nat) : Drawn w (w'.drewN q) := ⟨h.1.drewN q, h.2⟩

set_option maxRecDepth 100000 in
set_option maxHeartbeats 800000 in
theorem roomy_any {w : World} {v : Value} {bs : List UInt8} (hv : BytesAt w v bs) (hl : bs.length ≤ 67108864) :
    Calls Tryz.prog 65 #[v] w fun e w' => ∃ v', e = .returned v' ∧ DataIs w' v' (bs ++ [201, 202, 203, 204, 205]) ∧ (∀ k, v'.ownBlock = some k → w.heap.size ≤ k) ∧ Upd (fun _ => False) w w' := by
  obtain ⟨v1, w1, hrun1, hd1, hu1, hat1⟩ := run_append_data (w := w) (v := .slice none 0 0) (bs := []) (.inl ⟨rfl, rfl⟩) hv (by simp; omega) 38
  rw [List.nil_append] at hd1
  obtain ⟨v2, w2, hrun2, hd2, hu2, hat2⟩ := run_append_data (w := w1.alloc (.cells ([201, 202, 203, 204, 205].map byteV).toArray 5)) (hd1.upd ((Upd.refl (fun _ => False) w1).alloc _) (fun _ _ h => h)) (bytes_new w1 [201, 202, 203, 204, 205]) (by simp; omega) 38
  obtain ⟨ao, cap, rfl, -, -⟩ := hv
  obtain ⟨a1, k1, hs1, -, -, -, -⟩ := hd1.shape
  obtain ⟨a2, k2, hs2, -, -, -, -⟩ := hd2.shape
  have hf1 : ∀ k, v1.ownBlock = some k → w.heap.size ≤ k := fun k hk => (hat1 k hk).resolve_left (fun e => by cases e)
  have hup1 : Upd (fun _ => False) w w1 := hu1.mono (fun k _ e => by cases e)
  have hup2 : Upd (fun _ => False) w w2 := (hup1.alloc _).trans hu2 (fun k hk e => by have := hf1 k e; omega)
  have hf2 : ∀ k, v2.ownBlock = some k → w.heap.size ≤ k := fun k hk => (hat2 k hk).elim (hf1 k) (fun h => by have := hup1.size; simp at h; omega)
  have H1 := hid hd2; have H2 := hid hup2; have H3 := hid hf2
  have hrun2' : (Builtin.append_ #[38, 38] 38 #[v1, .slice (some ⟨w1.heap.size, 0, none⟩) 5 5]).run Tryz.prog (w1.alloc (.cells #[.int .u8 201, .int .u8 202, .int .u8 203, .int .u8 204, .int .u8 205] 5)) = .ok v2 w2 := hrun2
  obtain ⟨N2, hN2⟩ : ∃ N2, N2 = (bs ++ [201, 202, 203, 204, 205]).length := ⟨_, rfl⟩
  rw [← hN2] at hs2
  subst hs2
  rw [hs1] at hrun1 hrun2'
  have HR1 := hid hrun1; have HR2 := hid hrun2'
  clear hrun1 hrun2 hrun2' hd1 hd2 hu1 hu2 hat1 hat2 hf1 hf2 hup1 hup2 hs1 hN2
  go_enter Tryz.func65, Tryz.ntmps65
  go_upto_region 3 with (at_builtin; refine wpList_append_run rfl _ _ _ rfl rfl rfl HR1.out ?_)
  go_wp2_with (at_builtin; refine wpList_append_run rfl _ _ _ rfl rfl rfl HR2.out ?_)
  go_ret
  exact ⟨_, rfl, H1.out, H3.out, H2.out⟩

end Go.Proofs.YtohpgmeflmppaaaGreat
