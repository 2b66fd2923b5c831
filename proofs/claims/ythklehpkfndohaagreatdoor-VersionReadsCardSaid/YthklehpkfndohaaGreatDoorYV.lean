/-
  stratalaw10.VersionReads.
  What comes in: a slice of bytes, opened into a plain list, with its bound; the table of wire; the law's own knob and layout.
-/
import Derived.Test.YthklehpkfndohaaGreatDoorYU
import Derived.Test.YthklehpkfndohaaGreatDoorYS
import Derived.Test.YthklehpkfndohaaGreatDoorYA
import Derived.Test.YthklehpkfndohaaGreatDoorRows
import Derived.WalkKit
import Derived.ProofKit
import Derived.OpenShut
import Derived.ShutString
import Derived.ChangeOld
import Derived.Below
import Derived.Deep.Slices
import Derived.Deep.DeepHandedRow
import Derived.SizedLaws
import Derived.Lib.LaidTab
import Derived.Lib.SmallJoins
namespace Go.Proofs.YthklehpkfndohaaGreatDoor
set_option linter.unusedVariables false
set_option linter.unusedSimpArgs false
set_option linter.unnecessarySimpa false
set_option linter.unusedSectionVars false
open Go Go.RowKit

def errO : Option VerA → Int
  | none => 100
  | some _ => 0
def verO : Option VerA → VerA
  | none => zeroVer
  | some x => x

theorem zeroAt (w : World) : VerAt w (.agg (verC 0 0 0 0 0 (.slice none 0 0) (.slice none 0 0))) zeroVer :=
  ⟨none, 0, none, 0, rfl, ⟨none, 0, rfl, by decide, by decide, fun _ => ⟨rfl, rfl⟩, fun j hj => absurd hj (by simp [zeroVer])⟩, ⟨none, 0, rfl, by decide, by decide, fun k hk => absurd hk (by simp [zeroVer])⟩⟩

theorem DecOwn.val {w' : World} {base : Nat} {e : Ending} {o : Option VerA} (h : DecOwn w' base e o) : ∃ v, e = .returned (.tuple #[v, .int .i64 (errO o)]) ∧ VerAt w' v (verO o) := by
  cases o with
  | none => exact ⟨_, h, zeroAt w'⟩
  | some x => obtain ⟨v, rfl, ho⟩ := h; exact ⟨v, rfl, ho.at⟩
theorem DecRes.val {w' : World} {e : Ending} {o : Option VerA} (h : DecRes w' e o) : ∃ v, e = .returned (.tuple #[v, .int .i64 (errO o)]) ∧ VerAt w' v (verO o) := by
  cases o with
  | none => exact ⟨_, h, zeroAt w'⟩
  | some x => exact h

theorem okA_runs {x : VerA} (h : okA x = true) : x.runs.length ≤ 64 := by
  have h1 := okA_head h
  simp only [headA, Bool.and_eq_true, ins, decide_eq_true_eq] at h1
  exact h1.2
theorem verO_runs (b : List UInt8) : (verO (decodeA b)).runs.length ≤ 64 := by
  cases h : decodeA b with
  | none => simp [verO, zeroVer]
  | some x => exact okA_runs (decodeA_ok h)
theorem errO_le (o : Option VerA) : 0 ≤ errO o ∧ errO o ≤ 100 := by cases o <;> simp [errO]

theorem wpList_append_g {P : Program} {ops : Array Oper} {rest : List Oper} {o : Oper} {a : Act} {w : World} {Q : Exit → Act → World → Prop} (hg : Region.wanted o (yielded ops a.tmps) = true) (s x : Operand) (t : TypeId)
    (hop : o.op = Op.call { callee := Callee.builtin Builtin.append, args := #[s, x], argTypes := #[t, t] }) {va vx v : Value} {w' : World} (hs : a.eval s = va) (hx : a.eval x = vx)
    (hrun : (Builtin.append_ #[t, t] o.type #[va, vx]).run P w = .ok v w') (h : wpList P ops Q rest (a.put o.dst v) w') : wpList P ops Q (o :: rest) a w := by
  refine wpList_step fun K hK => ?_
  rw [if_pos hg]
  unfold Oper.wp
  simp [execOp, hop, resolve, invoke, builtin, hs, hx, hrun, Result.andThen]
  exact hK _ _ h

set_option maxRecDepth 100000 in
set_option maxHeartbeats 3200000 in
theorem versionReads_walk {w : World} {v : Value} {b : List UInt8} (hT : TabIn w) (hv : BAt w v b) (hl : b.length ≤ 140737488351232) :
    Calls Tryz.prog 3 #[v] w fun e w' => e = .returned (.bool true) ∧ Upd (fun _ => False) w w' := by
  have HV := hid hv; have HT := hid hT
  obtain ⟨ao, cap, rfl, -, -, -, -⟩ := hv
  have HWD := hid (wide_any HV.out hl)
  have HRN := hid (verO_runs b)
  obtain ⟨k, hk⟩ : ∃ k, k = errO (decodeA b) := ⟨_, rfl⟩
  have hkb := errO_le (decodeA b)
  rw [← hk] at hkb
  obtain ⟨x, hx⟩ : ∃ x, x = verO (decodeA b) := ⟨_, rfl⟩
  rw [← hx] at HRN
  have HK := hid hk; have HX := hid hx
  have HKR := hid (show k = errO (decodeR b) from by rw [hk, decode_alike])
  have HXR := hid (show x = verO (decodeR b) from by rw [hx, decode_alike])
  have hkk : (k != k) = false := by simp
  obtain ⟨hk1, hk2⟩ := hkb
  clear hT hk hx
  go_enter Tryz.func3, Tryz.ntmps3
  go_wp2_with fail
  refine HWD.out.mono ?_
  rintro e w1 ⟨g, c, rfl, hnb, hpb⟩
  have HNB := hid hnb
  have HT1 := hid (HT.out.keep hnb.upd)
  have HV1 := hid (HV.out.keep hnb.upd)
  have HDE := hid (decode_any HT1.out hpb hl)
  clear hnb hpb HWD
  go_wp2_with fail
  refine HDE.out.mono ?_
  rintro e w2 ⟨hres, hu2⟩
  obtain ⟨u1, rfl, hat⟩ := hres.val
  rw [← HK.out]
  rw [← HX.out] at hat
  obtain ⟨a1, d1, a2, d2, rfl, -, -⟩ := id hat
  obtain ⟨n1, hn1⟩ : ∃ n, n = x.state.length := ⟨_, rfl⟩
  obtain ⟨n2, hn2⟩ : ∃ n, n = x.runs.length := ⟨_, rfl⟩
  rw [← hn1, ← hn2] at hat ⊢
  have HAT := hid hat; have HU2 := hid hu2; have HN1 := hid hn1; have HN2 := hid hn2
  have HRD := hid (refDecode_any ((HV1.out.keep hu2).keep ((Upd.refl (fun _ => False) w2).alloc (.cells #[.int .i64 x.gen, .int .i64 x.flushed, .int .i64 x.next, .int .i64 x.low, .int .i64 x.clock, .slice a1 n1 d1, .slice a2 n2 d2] 27))) hl)
  have HU3 := hid (hu2.alloc (.cells #[.int .i64 x.gen, .int .i64 x.flushed, .int .i64 x.next, .int .i64 x.low, .int .i64 x.clock, .slice a1 n1 d1, .slice a2 n2 d2] 27))
  have HAT3 := hid (HAT.out.keep ((Upd.refl (fun _ => False) w2).alloc (.cells #[.int .i64 x.gen, .int .i64 x.flushed, .int .i64 x.next, .int .i64 x.low, .int .i64 x.clock, .slice a1 n1 d1, .slice a2 n2 d2] 27)))
  have HR5 := hid (heap_alloc_new w2 (.cells #[.int .i64 x.gen, .int .i64 x.flushed, .int .i64 x.next, .int .i64 x.low, .int .i64 x.clock, .slice a1 n1 d1, .slice a2 n2 d2] 27))
  clear hres hu2 hat hn1 hn2 HDE
  go_upto_region 3 with fail
  obtain ⟨p5, hp5⟩ : ∃ p, p = w2.heap.size := ⟨_, rfl⟩
  rw [← hp5] at HR5 ⊢
  clear hp5
  generalize w2.alloc (.cells #[.int .i64 x.gen, .int .i64 x.flushed, .int .i64 x.next, .int .i64 x.low, .int .i64 x.clock, .slice a1 n1 d1, .slice a2 n2 d2] 27) = w3 at HRD HU3 HAT3 HR5 ⊢
  clear HAT HU2
  go_wp2_with fail
  refine HRD.out.mono ?_
  rintro e w4 ⟨hres, hu4⟩
  obtain ⟨u2, rfl, hat⟩ := hres.val
  rw [← HKR.out]
  rw [← HXR.out] at hat
  obtain ⟨b1, e1, b2, e2, rfl, -, -⟩ := id hat
  rw [← HN1.out, ← HN2.out] at hat ⊢
  have hua := (Upd.refl (fun _ => False) w4).alloc (.cells #[.int .i64 x.gen, .int .i64 x.flushed, .int .i64 x.next, .int .i64 x.low, .int .i64 x.clock, .slice b1 n1 e1, .slice b2 n2 e2] 27)
  have HA5 := hid ((HAT3.out.keep hu4).keep hua)
  have HB5 := hid (hat.keep hua)
  have HU5 := hid ((HU3.out.trans hu4 (fun _ _ e => e)).trans hua (fun _ _ e => e))
  have HR5' := hid (hua.get (hu4.get HR5.out (fun e => e)) (fun e => e))
  have HR7 := hid (heap_alloc_new w4 (.cells #[.int .i64 x.gen, .int .i64 x.flushed, .int .i64 x.next, .int .i64 x.low, .int .i64 x.clock, .slice b1 n1 e1, .slice b2 n2 e2] 27))
  clear hres hu4 hat hua HAT3 HU3 HR5 HRD
  go_upto_region 4 with fail
  obtain ⟨p7, hp7⟩ : ∃ p, p = w4.heap.size := ⟨_, rfl⟩
  rw [← hp7] at HR7 ⊢
  clear hp7
  generalize w4.alloc (.cells #[.int .i64 x.gen, .int .i64 x.flushed, .int .i64 x.next, .int .i64 x.low, .int .i64 x.clock, .slice b1 n1 e1, .slice b2 n2 e2] 27) = w5 at HA5 HB5 HU5 HR5' HR7 ⊢
  have HSA := hid (sameVer_any (x := x) (y := x) (by rw [HN1.out, HN2.out] at HA5; exact HA5.out) (by rw [HN1.out, HN2.out] at HB5; exact HB5.out) (by have := HRN.out; omega))
  rw [show sameVerB x x = true from sameVerB_iff.2 rfl, ← HN1.out, ← HN2.out] at HSA
  have HV5 := hid (HV1.out.keep HU5.out)
  have hpt := refPart_any HV5.out (lo := 0) (hi := b.length) (by omega) (by omega) hl
  obtain ⟨⟨z0, z1, z2, z3, z4, z5, z6⟩, -, hzl⟩ := verCells HR5'.out
  obtain ⟨⟨y0, y1, y2, y3, y4, y5, y6⟩, -, hyl⟩ := verCells HR7.out
  clear hpt
  go_wp2_with fail
  refine (lawNum_any _ _ (by omega)).mono ?_
  rintro e W ⟨rfl, hww⟩
  obtain rfl := hww.symm
  go_wp2_with fail
  refine HSA.out.mono ?_
  rintro e w6 ⟨rfl, hu6⟩
  have hpt := refPart_any (HV5.out.keep hu6) (lo := 0) (hi := b.length) (by omega) (by omega) hl
  rw [List.drop_zero, Nat.sub_zero, List.take_length] at hpt
  have HPT := hid hpt
  have HU6 := hid (HU5.out.trans hu6 (fun _ _ e => e))
  clear hpt hu6 z0 z1 z2 z3 z4 z5 z6 hzl y0 y1 y2 y3 y4 y5 y6 hyl
  obtain ⟨n, hn⟩ : ∃ n, n = b.length := ⟨_, rfl⟩
  rw [← hn] at HPT ⊢
  have HN := hid hn
  clear hn
  go_wp2_with fail
  refine HPT.out.mono ?_
  rintro e w7 ⟨v7, rfl, hn7⟩
  obtain ⟨q1, q2, e7, -, -⟩ := hn7.shape
  rw [← HN.out] at e7
  subst e7
  obtain ⟨v8, w8, hr, hn8⟩ := hn7.push tailB (by have := HN.out; simp; omega) 22
  have HR : Hid ((Builtin.append_ #[22, 22] 22 #[.slice q1 n q2, .slice (some ⟨w7.heap.size, 0, none⟩) 5 5]).run Tryz.prog (w7.alloc (.cells #[.int .u8 201, .int .u8 202, .int .u8 203, .int .u8 204, .int .u8 205] 5)) = .ok v8 w8) := hid hr
  have HU8 := hid (HU6.out.trans hn8.upd (fun _ _ e => e))
  have HLS := hid (lawSame_any (HNB.out.data.bat.keep HU8.out) hn8.data.bat)
  rw [decide_eq_true rfl] at HLS
  obtain ⟨q3, q4, e8, -, -⟩ := hn8.shape
  obtain ⟨n5, hn5⟩ : ∃ n, n = (b ++ tailB).length := ⟨_, rfl⟩
  rw [← hn5] at e8
  subst e8
  clear hr hn7 hn8 hn5
  have HST := hid (started_any (HT1.out.keep HU8.out))
  rw [← HN.out] at HLS
  go_wp2_with (at_builtin; refine wpList_append_g (by rfl) _ _ _ rfl rfl rfl HR.out ?_)
  refine HLS.out.mono ?_
  rintro e W ⟨rfl, hww⟩
  obtain rfl := hww.symm
  go_wp2_with fail
  refine HST.out.mono ?_
  rintro e w9 ⟨rfl, hu9⟩
  have HU9 := hid ((HNB.out.upd.trans HU8.out (fun _ _ e => e)).trans hu9 (fun _ _ e => e))
  clear hu9
  go_wp2
  go_ret
  exact ⟨rfl, HU9.out⟩

end Go.Proofs.YthklehpkfndohaaGreatDoor

namespace Go.Proofs.YthklehpkfndohaaGreatDoor
set_option linter.unusedVariables false
set_option linter.unusedSimpArgs false
set_option linter.unnecessarySimpa false
set_option linter.unusedSectionVars false
open Go Go.ChangeShapes Go.WideShapes Go.ChangeAt Go.RowKit

theorem own : ownKnob Tryz.prog.godebug = none := by kernel_rfl
theorem laidOut : laidOutB Tryz.prog = true := by kernel_rfl

section
variable {H : Type} {enc : TypeId × Value → H} {W : World} {base : Nat}

theorem block_lt {w : World} {a : Addr} {v : Value} (h : w.cell? a = some v) : a.block < w.heap.size := by
  cases hb : w.heap[a.block]? with
  | none => simp [World.cell?, hb] at h
  | some o => exact lt_of_heap hb

/-- A slice of bytes that was read. -/
theorem open_bat {fuel : Nat} {v : Value} {x : DataW H × List MemPlace} (h : DataW.trod enc Tryz.prog W 0 (fun _ => true) true fuel 22 [v] = some x) :
    ∃ bs, BAt W v bs ∧ ((x.1 = .nil ∧ bs = []) ∨ ∃ el sp, x.1 = .slice el sp ∧ bs.length ≤ el.length) := by
  rcases open_ints Tryz.underlying22 Tryz.underlying5 (by kernel_rfl) h with ⟨hcs, hx⟩ | ⟨a, len, cap, zs, hcs, _, hl, hm, hz, hx, hcell, hwz⟩
  · obtain rfl : v = .slice none 0 0 := by simpa using hcs
    exact ⟨[], ⟨none, 0, rfl, by simp, by simp, fun _ => ⟨rfl, rfl⟩, fun j hj => by simp at hj⟩, .inl ⟨by rw [hx], rfl⟩⟩
  · obtain rfl : v = .slice (some a) len cap := by simpa using hcs
    simp only [if_true] at hz
    have hlen : ((zs.take len).map fun n => UInt8.ofNat n.toNat).length = len := by simp; omega
    refine ⟨(zs.take len).map fun n => UInt8.ofNat n.toNat, ⟨some a, cap, by rw [hlen], by omega, by simpa [maxLen] using hm, (fun h => by cases h), fun j hj => ?_⟩, .inr ⟨lits .u8 (zs.take len), lits .u8 (zs.drop len), by rw [hx], by simp [lits]⟩⟩
    rw [hlen] at hj
    have hj' : j < zs.length := by omega
    have hs : a.spot = none := World.cell?_spot (by simpa [Addr.add] using hcell 0 (by omega))
    obtain ⟨b, o, sp⟩ := a
    simp only at hs
    subst hs
    have hc := hcell j hj'
    rw [Addr.add_lit] at hc
    refine ⟨b, o, rfl, block_lt hc, ?_⟩
    rw [hc]
    have hb := range_u8 hwz j
    have e : zs.getD j 0 = zs[j] := by simp [List.getD, List.getElem?_eq_getElem hj']
    rw [List.getElem?_eq_getElem hj', Option.getD_some] at hb
    rw [e]
    unfold byteV
    congr 2
    simp only [List.getElem_map, List.getElem_take, UInt8.toNat_ofNat']
    omega

theorem reach_bytes {ts : List TypeId} {ds : List (DataW H)} (h : (DataW.weightsEach Tryz.prog ts ds).all (· ≤ reachBytes) = true) {j : Nat} {d : DataW H} (ht : ts[j]? = some 22) (hd : ds[j]? = some d) {bs : List UInt8}
    (hb : (d = .nil ∧ bs = []) ∨ ∃ el sp, d = .slice el sp ∧ bs.length ≤ el.length) : bs.length ≤ 140737488351232 := by
  rcases hb with ⟨-, rfl⟩ | ⟨el, sp, rfl, hl⟩
  · simp
  · have h1 := sized_slice h ht hd Tryz.underlying22
    have h2 : Tryz.prog.bytesOf 5 = 1 := by kernel_rfl
    rw [h2] at h1
    have h3 : reachBytes = 140737488351232 := by decide
    omega
end

theorem crcTab_data : (Rows.laid_strata_wire_table : DataW Unit) = Lib.tabData .u32 (List.map (fun n : Nat => (n : Int)) crcTab) := by rfl

/-- WHAT THE ROW's LIST GIVES: the table of package wire. -/
theorem tabIn_of {W : World} {rest : List (String × DataW Unit)} (h : laidMet Tryz.prog (("strata/wire.table", Rows.laid_strata_wire_table) :: rest) W) : TabIn W := by
  rw [crcTab_data] at h
  have ht := Lib.tabIs_of_head (rest := rest) (g := 0) (t := 117) (e := 90) (n := 16) (by kernel_rfl) (by kernel_rfl) Tryz.underlying117 Tryz.underlying90 (by kernel_rfl) (by kernel_rfl) h
  refine ⟨?_, fun j t e => ?_⟩
  · have h0 := World.var?_cell (g := 0) (by kernel_rfl) ht 0
    exact block_lt (a := ⟨0, 0, none⟩) (v := .int .u32 0) (by rw [h0]; rfl)
  · rw [World.var?_cell (g := 0) (by kernel_rfl) ht j]
    simp [e]

end Go.Proofs.YthklehpkfndohaaGreatDoor
