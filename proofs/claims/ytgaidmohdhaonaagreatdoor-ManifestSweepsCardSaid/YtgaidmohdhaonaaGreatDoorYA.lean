/-
  Package wire, walked: outside, Uint, ReadUint, Bytes, ReadBytes.
  Package wire, walked: ReadUint.
  Package wire, walked: Bytes, ReadBytes.
  Package wire, walked: Sum, low, is.
  Package wire, walked: low, is.
  Package wire, walked: Frame.
-/
import Derived.Test.YtgaidmohdhaonaaGreatDoorGE
import Derived.Test.YtgaidmohdhaonaaGreatDoorWP
import Derived.Laws.BitsAll
import Derived.Laws.ShiftsVar
import Derived.Deep.DeepCutAuto
import Derived.OwnWalk
import Derived.StillTailTactics
namespace Go.Proofs.YtgaidmohdhaonaaGreatDoor
set_option linter.unusedVariables false
set_option linter.unusedSimpArgs false
set_option linter.unnecessarySimpa false
set_option linter.unusedSectionVars false
open Go Go.RowKit

/-- v is a slice that reads as the bytes bs. -/
def BAt (w : World) (v : Value) (bs : List UInt8) : Prop :=
  ∃ ao cap, v = .slice ao bs.length cap ∧ bs.length ≤ cap ∧ cap ≤ 9223372036854775807 ∧ (ao = none → bs = [] ∧ cap = 0) ∧ ∀ j (hj : j < bs.length), ∃ g o, ao = some ⟨g, o, none⟩ ∧ g < w.heap.size ∧ w.cell? ⟨g, o + j, none⟩ = some (byteV bs[j])

theorem DataIs.bat {w : World} {v : Value} {bs : List UInt8} (h : DataIs w v bs) : BAt w v bs := by
  rcases h with ⟨rfl, rfl⟩ | ⟨g, cap, cur, rfl, hg, h1, h2, h3, h4⟩
  · exact ⟨none, 0, rfl, by simp, by simp, fun _ => ⟨rfl, rfl⟩, fun j hj => by simp at hj⟩
  · refine ⟨some ⟨g, 0, none⟩, cap, rfl, h1, by simpa [maxLen] using h3, (fun h => by cases h), fun j hj => ⟨g, 0, rfl, lt_of_heap hg, ?_⟩⟩
    rw [Nat.zero_add, cell_of_row w g j cur _ _ hg, ← Array.getElem?_toList]
    have h5 : (cur.toList.take bs.length)[j]? = (bs.map byteV)[j]? := by rw [h4]
    rw [List.getElem?_take, if_pos hj, List.getElem?_map, List.getElem?_eq_getElem hj] at h5
    exact h5

theorem BAt.bytes {w : World} {v : Value} {bs : List UInt8} (h : BAt w v bs) : BytesAt w v bs := by
  obtain ⟨ao, cap, rfl, h1, h2, h3, h4⟩ := h
  refine ⟨ao, cap, rfl, h3, fun a ha j u hu => ?_⟩
  by_cases hj : j < bs.length
  · obtain ⟨g, o, e, -, hc⟩ := h4 j hj
    rw [ha] at e
    injection e with e
    subst e
    rw [List.getElem?_map, List.getElem?_eq_getElem hj] at hu
    rw [show (Addr.add ⟨g, o, none⟩ j : Addr) = ⟨g, o + j, none⟩ from by simp [Addr.add_lit], hc]
    exact hu
  · rw [List.getElem?_eq_none (by simp; omega)] at hu; cases hu

theorem BAt.upd {S : Nat → Prop} {w w' : World} {v : Value} {bs : List UInt8} (h : BAt w v bs) (hu : Upd S w w') (hn : ∀ k, v.ownBlock = some k → 0 < bs.length → ¬ S k) : BAt w' v bs := by
  obtain ⟨ao, cap, rfl, h1, h2, h3, h4⟩ := h
  refine ⟨ao, cap, rfl, h1, h2, h3, fun j hj => ?_⟩
  obtain ⟨g, o, rfl, hg, hc⟩ := h4 j hj
  exact ⟨g, o, rfl, Nat.lt_of_lt_of_le hg hu.size, (World.cell?_of_block (a := ⟨g, o + j, none⟩) (hu.block g hg (hn g rfl (by omega)))).trans hc⟩

theorem BAt.keep {w w' : World} {v : Value} {bs : List UInt8} (h : BAt w v bs) (hu : Upd (fun _ => False) w w') : BAt w' v bs := h.upd hu (fun _ _ _ e => e)

/-- Part of it. -/
theorem BAt.sub {w : World} {g o cap : Nat} {bs : List UInt8} (h : BAt w (.slice (some ⟨g, o, none⟩) bs.length cap) bs) {lo n : Nat} (hn : lo + n ≤ bs.length) : BAt w (.slice (some ⟨g, o + lo, none⟩) n (cap - lo)) ((bs.drop lo).take n) := by
  obtain ⟨ao, cp, e, h1, h2, h3, h4⟩ := h
  injection e with e1 _ e3
  subst e1 e3
  have hl : ((bs.drop lo).take n).length = n := by simp; omega
  refine ⟨some ⟨g, o + lo, none⟩, cap - lo, by rw [hl], by rw [hl]; omega, by omega, (fun h => by cases h), fun j hj => ?_⟩
  rw [hl] at hj
  obtain ⟨g', o', e, hg, hc⟩ := h4 (lo + j) (by omega)
  injection e with e
  injection e with e1 e2
  subst e1 e2
  refine ⟨g, o + lo, rfl, hg, ?_⟩
  rw [Nat.add_assoc, hc]
  congr 2
  simp

theorem bytes_newB (w : World) (ms : List UInt8) : BytesAt (w.alloc (.cells (ms.map byteV).toArray 5)) (.slice (some ⟨w.heap.size, 0, none⟩) ms.length ms.length) ms := by
  refine ⟨some ⟨w.heap.size, 0, none⟩, ms.length, rfl, (fun h => by cases h), fun a ha j u hu => ?_⟩
  cases ha
  rw [show (Addr.add ⟨w.heap.size, 0, none⟩ j : Addr) = ⟨w.heap.size, j, none⟩ from by simp [Addr.add_lit], cell_of_row _ _ j _ _ _ (heap_alloc_new w _)]
  rw [← Array.getElem?_toList]
  exact hu

/-- What was made since w: new bytes of its own. -/
structure NewB (w w' : World) (v : Value) (bs : List UInt8) : Prop where
  data : DataIs w' v bs
  new : ∀ k, v.ownBlock = some k → w.heap.size ≤ k
  upd : Upd (fun _ => False) w w'

theorem NewB.shape {w w' : World} {v : Value} {bs : List UInt8} (h : NewB w w' v bs) : ∃ ao cap, v = .slice ao bs.length cap ∧ bs.length ≤ cap ∧ cap ≤ 9223372036854775807 := by
  obtain ⟨ao, cap, e, h1, h2, -⟩ := h.data.bat
  exact ⟨ao, cap, e, h1, h2⟩

theorem NewB.nil (w : World) : NewB w w (.slice none 0 0) [] := ⟨.inl ⟨rfl, rfl⟩, fun k e => (by cases e), Upd.refl _ _⟩

/-- Literal bytes are appended. -/
theorem NewB.push {w w1 : World} {v : Value} {bs : List UInt8} (h : NewB w w1 v bs) (ms : List UInt8) (hl : bs.length + ms.length ≤ 140737488355328) (ty : TypeId) :
    ∃ v' w2, (Builtin.append_ #[22, 22] ty #[v, .slice (some ⟨w1.heap.size, 0, none⟩) ms.length ms.length]).run Tryz.prog (w1.alloc (.cells (ms.map byteV).toArray 5)) = .ok v' w2 ∧ NewB w w2 v' (bs ++ ms) := by
  have hal : Upd (fun _ => False) w1 (w1.alloc (.cells (ms.map byteV).toArray 5)) := (Upd.refl _ _).alloc _
  obtain ⟨v', w2, hr, hd, hu, hat⟩ := run_append_data (h.data.upd hal (fun _ _ h => h)) (bytes_newB w1 ms) hl ty
  have hs := h.upd.size
  exact ⟨v', w2, hr, hd, fun k hk => (hat k hk).elim (h.new k) (fun e => by simp at e; omega), (h.upd.trans hal (fun _ _ h => h)).trans hu (fun k hk e => by have := h.new k e; omega)⟩

/-- Other bytes are appended. -/
theorem NewB.join {w w1 : World} {v s : Value} {bs news : List UInt8} (h : NewB w w1 v bs) (hs : BAt w1 s news) (hl : bs.length + news.length ≤ 140737488355328) (ty : TypeId) :
    ∃ v' w2, (Builtin.append_ #[22, 22] ty #[v, s]).run Tryz.prog w1 = .ok v' w2 ∧ NewB w w2 v' (bs ++ news) := by
  obtain ⟨v', w2, hr, hd, hu, hat⟩ := run_append_data h.data hs.bytes hl ty
  have hsz := h.upd.size
  exact ⟨v', w2, hr, hd, fun k hk => (hat k hk).elim (h.new k) (fun e => by omega), h.upd.trans hu (fun k hk e => by have := h.new k e; omega)⟩

theorem wpList_append_run {P : Program} {ops : Array Oper} {rest : List Oper} {o : Oper} {a : Act} {w : World} {Q : Exit → Act → World → Prop} (hg : o.guard = none) (s x : Operand) (t : TypeId)
    (hop : o.op = Op.call { callee := Callee.builtin Builtin.append, args := #[s, x], argTypes := #[t, t] }) {va vx v : Value} {w' : World} (hs : a.eval s = va) (hx : a.eval x = vx)
    (hrun : (Builtin.append_ #[t, t] o.type #[va, vx]).run P w = .ok v w') (h : wpList P ops Q rest (a.put o.dst v) w') : wpList P ops Q (o :: rest) a w := by
  refine wpList_plain hg fun K hK => ?_
  unfold Oper.wp
  simp [execOp, hop, resolve, invoke, builtin, hs, hx, hrun, Result.andThen]
  exact hK _ _ h

theorem or128 (m : Nat) : bits .or .u8 ((m : Int) % 256) 128 = (((UInt8.ofNat (128 + m % 128)).toNat : Nat) : Int) := by
  rw [UInt8.toNat_ofNat']
  rw [u8_or _ _ (by omega) (by omega) (by omega) (by omega)]
  have e : (((m : Int) % 256).toNat ||| (128 : Int).toNat) = 128 + m % 128 := by
    have h1 : ((m : Int) % 256).toNat = m % 256 := by omega
    have h2 : (128 : Int).toNat = 128 := rfl
    rw [h1, h2]
    have : ∀ x : Fin 256, x.1 ||| 128 = 128 + x.1 % 128 := by decide +kernel
    have := this ⟨m % 256, Nat.mod_lt _ (by decide)⟩
    simp only at this
    omega
  rw [e]
  omega

theorem or_shift (v c i : Nat) (hv : v < 2 ^ (7 * i)) (h : 2 ^ (7 * i) * c < 18446744073709551616) (hv2 : v < 18446744073709551616) : bits .or .u64 (v : Int) (((2 ^ (7 * i) * c : Nat)) : Int) = ((v + 2 ^ (7 * i) * c : Nat) : Int) := by
  rw [u64_or_nat v _ hv2 h, Nat.or_comm, nat_join (7 * i) _ v (by rw [Nat.mul_mod_right]) hv, Nat.add_comm]

set_option maxRecDepth 100000 in
theorem outside_in {w : World} {v : Value} {bs : List UInt8} (hv : BAt w v bs) {a : Nat} (ha : a ≤ bs.length) :
    Calls Tryz.prog 133 #[v, .int .i64 a] w fun e w' => e = .returned (.bool false) ∧ w' = w := by
  obtain ⟨ao, cap, rfl, h1, h2, -, -⟩ := hv
  have i1 : ¬ (a : Int) < 0 := by omega
  have i2 : ¬ (bs.length : Int) < (a : Int) := by omega
  go_enter Tryz.func133, Tryz.ntmps133
  go_wp2
  go_ret
  exact ⟨rfl, rfl⟩

set_option maxRecDepth 100000 in
set_option maxHeartbeats 1600000 in
theorem uint_any {w : World} {n : Nat} (hn : n < 18446744073709551616) :
    Calls Tryz.prog 69 #[.int .u64 n] w fun e w' => ∃ v, e = .returned v ∧ NewB w w' v (uintB n) := by
  have hlen := uintB_len 9 n (by omega)
  go_enter Tryz.func69, Tryz.ntmps69
  go_wp2
  go_loopw [0, 3] (fun nv bv wr => ∃ m : Nat, nv = .int .u64 m ∧ m < 18446744073709551616 ∧ ∃ pre ao cap, bv = .slice ao pre.length cap ∧ NewB w wr (.slice ao pre.length cap) pre ∧ uintB n = pre ++ uintB m) (fun nv _ _ => (intOf nv).toNat)
  case atStart => exact ⟨n, rfl, hn, [], none, 0, rfl, NewB.nil w, rfl⟩
  case round =>
    obtain ⟨m, rfl, hm, pre, ao, cap, rfl, hnew, he⟩ := hrel
    have hpl : pre.length ≤ 10 := by have := congrArg List.length he; rw [List.length_append] at this; omega
    have HE := hid he
    obtain ⟨L, hL⟩ : ∃ L, L = pre.length := ⟨_, rfl⟩
    by_cases hb : 128 ≤ m
    · have hbig : (128 : Int) ≤ (m : Int) := by omega
      have hor := or128 m
      obtain ⟨v', w2, hr, hn2⟩ := hnew.push [UInt8.ofNat (128 + m % 128)] (by simp; omega) 22
      obtain ⟨ao2, cap2, hv2, -, -⟩ := hn2.shape
      rw [List.length_append, List.length_singleton] at hv2
      subst hv2
      have hr' : (Builtin.append_ #[22, 22] 22 #[.slice ao pre.length cap, .slice (some ⟨wr.heap.size, 0, none⟩) 1 1]).run Tryz.prog (wr.alloc (.cells #[.int .u8 ((UInt8.ofNat (128 + m % 128)).toNat : Int)] 5)) = .ok (.slice ao2 (pre.length + 1) cap2) w2 := hr
      rw [← hor] at hr'
      rw [← hL] at hr' ⊢
      obtain ⟨L2, hL2⟩ : ∃ L2, L2 = L + 1 := ⟨_, rfl⟩
      rw [← hL2] at hr'
      have HR := hid hr'; have HN := hid hn2; have HLL := hid hL; have HL2 := hid hL2
      clear hr hr' hn2 hor hnew he hL hL2 hlen
      go_wp2_with (at_builtin; refine wpList_append_run rfl _ _ _ rfl rfl rfl HR.out ?_)
      go_roundw
      case rel =>
        refine ⟨m / 128, by simp, by omega, pre ++ [UInt8.ofNat (128 + m % 128)], ao2, cap2, by rw [HL2.out, HLL.out]; simp, ?_, ?_⟩
        · have h := HN.out
          simpa using h
        · rw [HE.out, uintB_big (by omega : ¬ m < 128)]
          simp
      case measure => simp [intOf]; omega
    · have hsm : ¬ (128 : Int) ≤ (m : Int) := by omega
      have hw8 : (((UInt8.ofNat m).toNat : Nat) : Int) = (m : Int) := by rw [UInt8.toNat_ofNat']; omega
      obtain ⟨v', w2, hr, hn2⟩ := hnew.push [UInt8.ofNat m] (by simp; omega) 22
      obtain ⟨ao2, cap2, hv2, -, -⟩ := hn2.shape
      have hr' : (Builtin.append_ #[22, 22] 22 #[.slice ao pre.length cap, .slice (some ⟨wr.heap.size, 0, none⟩) 1 1]).run Tryz.prog (wr.alloc (.cells #[.int .u8 ((UInt8.ofNat m).toNat : Int)] 5)) = .ok v' w2 := hr
      rw [hw8] at hr'
      have hfin : NewB w w2 v' (uintB n) := by rw [he, uintB_small (by omega)]; exact hn2
      rw [← hL] at hr' ⊢
      rw [hv2] at hr' hfin
      obtain ⟨L2, hL2⟩ : ∃ L2, L2 = (pre ++ [UInt8.ofNat m]).length := ⟨_, rfl⟩
      rw [← hL2] at hr' hfin
      have HR := hid hr'; have HF := hid hfin
      clear hr hr' hn2 hnew he hL hL2 hv2 hfin hlen hw8
      go_wp2_with (at_builtin; refine wpList_append_run rfl _ _ _ rfl rfl rfl HR.out ?_)
      go_ret
      exact ⟨_, rfl, HF.out⟩

end Go.Proofs.YtgaidmohdhaonaaGreatDoor

namespace Go.Proofs.YtgaidmohdhaonaaGreatDoor
set_option linter.unusedVariables false
set_option linter.unusedSimpArgs false
set_option linter.unnecessarySimpa false
set_option linter.unusedSectionVars false
open Go Go.RowKit

theorem and127 (c : UInt8) : bits .and .u8 (c.toNat : Int) 127 = ((c.toNat % 128 : Nat) : Int) := by
  have h := c.toNat_lt
  rw [show (127 : Int) = ((127 : Nat) : Int) from rfl, u8_and_nat _ _ (by omega) (by omega), nat_mask7]

theorem pow128 (i : Nat) : 128 ^ i = 2 ^ (7 * i) := by rw [Nat.pow_mul]

theorem orShift {x i c : Nat} (hx : x < 128 ^ i) (hi : i ≤ 9) (h9 : True) (hc : c < 2 ^ 8) (hc9 : i = 9 → c ≤ 1) : bits .or .u64 (x : Int) (IntKind.u64.wrap ((c : Int) % 128 * 2 ^ (7 * i))) = ((x + 128 ^ i * (c % 128) : Nat) : Int) := by
  rw [pow128] at hx ⊢
  have hm : c % 128 < 128 := Nat.mod_lt _ (by decide)
  have hb : 2 ^ (7 * i) * (c % 128) < 18446744073709551616 ∧ x < 18446744073709551616 := by
    have hp : 2 ^ (7 * i) ≤ 2 ^ 63 := Nat.pow_le_pow_right (by decide) (by omega)
    by_cases e : i = 9
    · have h1 := hc9 e
      have h2 : c % 128 ≤ 1 := by omega
      have h3 : 2 ^ (7 * i) * (c % 128) ≤ 2 ^ (7 * i) * 1 := Nat.mul_le_mul_left _ h2
      omega
    · have hp2 : 2 ^ (7 * i) ≤ 2 ^ 56 := Nat.pow_le_pow_right (by decide) (by omega)
      have h3 : 2 ^ (7 * i) * (c % 128) ≤ 2 ^ 56 * 127 := Nat.mul_le_mul hp2 (by omega)
      omega
  have e1 : ((c : Int) % 128 * 2 ^ (7 * i)) = ((2 ^ (7 * i) * (c % 128) : Nat) : Int) := by
    push_cast
    rw [Int.mul_comm]
  rw [e1, IntKind.wrap_u64, Int.emod_eq_of_lt (by omega) (by omega)]
  exact or_shift x (c % 128) i hx hb.1 hb.2

set_option maxRecDepth 100000 in
set_option maxHeartbeats 3200000 in
theorem readUint_any {w : World} {v : Value} {b : List UInt8} (hv : BAt w v b) {a : Nat} (ha : a ≤ b.length) (hl : b.length ≤ 4611686018427387904) :
    Calls Tryz.prog 135 #[v, .int .i64 a] w fun e w' => e = .returned (.tuple #[.int .u64 ((readU b a).1 : Nat), .int .i64 ((readU b a).2.1 : Nat), .int .i64 (readU b a).2.2]) ∧ w' = w := by
  have HV := hid hv
  obtain ⟨R, hR⟩ : ∃ R, R = readU b a := ⟨_, rfl⟩
  rw [← hR]
  have HR0 := hid hR
  clear hR
  obtain ⟨ao, cap, rfl, h1, h2, -, hcell⟩ := hv
  have HC := hid hcell
  clear hcell
  go_enter Tryz.func135, Tryz.ntmps135
  go_wp2_with fail
  refine (outside_in HV.out ha).mono ?_
  rintro e w' ⟨rfl, hww⟩
  obtain rfl := hww.symm
  go_wp2
  go_loopw [7, 8] (fun vv iv wr => ∃ i : Nat, i ≤ 9 ∧ iv = .int .i64 i ∧ ∃ x : Nat, vv = .int .u64 x ∧ x < 128 ^ i ∧ a + i ≤ b.length ∧ R = ru (b.drop (a + i)) (a + i) i x ∧ wr = w) (fun _ iv _ => 10 - (intOf iv).toNat)
  case atStart => exact ⟨0, by omega, rfl, 0, rfl, by simp, ha, HR0.out, rfl⟩
  case round =>
    obtain ⟨i, hi, rfl, x, rfl, hx, hai, he, hww⟩ := hrel
    obtain rfl := hww.symm
    by_cases hend : b.length ≤ a + i
    · have hr : R = (0, 0, 10) := by rw [he, List.drop_eq_nil_of_le hend]; rfl
      have HF := hid hr
      have hendi : (b.length : Int) ≤ (a : Int) + (i : Int) := by omega
      clear he hr
      go_wp2
      go_ret3
      exact ⟨by rw [HF.out]; rfl, rfl⟩
    · have hendi : ¬ (b.length : Int) ≤ (a : Int) + (i : Int) := by omega
      obtain ⟨g, o, rfl, hg, d0⟩ := HC.out (a + i) (by omega)
      have hdrop : b.drop (a + i) = b[a + i]'(by omega) :: b.drop (a + i + 1) := List.drop_eq_getElem_cons (by omega)
      rw [hdrop] at he
      generalize b[a + i]'(by omega) = c at d0 he
      rw [ru] at he
      have hc8 := c.toNat_lt
      simp only [byteV] at d0
      clear hdrop
      by_cases h9 : i = 9 ∧ 1 < c.toNat
      · rw [if_pos h9] at he
        have HF := hid he
        obtain ⟨h91, h92⟩ := h9
        subst h91
        have h92i : (1 : Int) < (c.toNat : Int) := by omega
        clear he
        go_wp2
        go_ret3
        exact ⟨by rw [HF.out]; rfl, rfl⟩
      · rw [if_neg h9] at he
        have hand := and127 c
        have hpow : (7 * (i : Int)).toNat = 7 * i := by omega
        have h7 : 0 ≤ 7 * (i : Int) := by omega
        have h763 : 7 * (i : Int) ≤ 63 := by omega
        have h9' : ¬ (i = 9 ∧ (1 : Int) < (c.toNat : Int)) := by omega
        have HE := hid he; have H9 := hid h9
        clear he h9
        go_upto_region 9 with fail
        go_cut [32] (fun bv wx => bv = .bool false ∧ wx = w)
        case first =>
          by_cases hi9 : i = 9
          · subst hi9
            have hle : ¬ (1 : Int) < (c.toNat : Int) := by omega
            go_wp2
            go_meet
            case rel => exact ⟨rfl, rfl⟩
          · have hne : ((i : Int) == 9) = false := by simp; omega
            go_wp2
            go_meet
            case rel => exact ⟨rfl, rfl⟩
        case rest =>
          obtain ⟨rfl, hcw⟩ := hcut
          obtain rfl := hcw.symm
          have hor := orShift hx hi trivial (c := c.toNat) hc8 (fun e => by omega)
          obtain ⟨x2, hx2⟩ : ∃ x2 : Nat, x2 = x + 128 ^ i * (c.toNat % 128) := ⟨_, rfl⟩
          rw [← hx2] at hor
          have hx3 : x2 < 128 ^ (i + 1) := by
            rw [hx2, Nat.pow_succ]
            have h1 : 128 ^ i * (c.toNat % 128) ≤ 128 ^ i * 127 := Nat.mul_le_mul_left _ (by omega)
            omega
          have HX2 := hid hx2; have HX3 := hid hx3
          clear hx2 hx3
          go_upto_region 12 with fail
          try rw [hor]
          clear hor hand hpow h7 h763 h9'
          by_cases hc : c.toNat < 128
          · have hci : (c.toNat : Int) < 128 := by omega
            have HE2 := HE.out
            rw [if_pos hc] at HE2
            by_cases hz : c.toNat = 0 ∧ 0 < i
            · rw [if_pos hz] at HE2
              have HF := hid HE2
              obtain ⟨hz1, hz2⟩ := hz
              have hz1i : ((c.toNat : Int) == 0) = true := by simp [hz1]
              have hz2i : (0 : Int) < (i : Int) := by omega
              clear HE2 hz1
              go_wp2
              go_ret3
              exact ⟨by rw [HF.out]; rfl, rfl⟩
            · rw [if_neg hz] at HE2
              have hxe : x + 128 ^ i * c.toNat = x2 := by rw [HX2.out, Nat.mod_eq_of_lt hc]
              rw [hxe] at HE2
              have HF := hid HE2
              clear HE2 hxe
              by_cases hz0 : c.toNat = 0
              · have hz1i : ((c.toNat : Int) == 0) = true := by simp [hz0]
                have hz2i : ¬ (0 : Int) < (i : Int) := by omega
                clear hz hz0
                go_wp2
                go_ret3
                exact ⟨by rw [HF.out]; rfl, rfl⟩
              · have hz1i : ((c.toNat : Int) == 0) = false := by simp [hz0]
                clear hz hz0
                go_wp2
                go_ret3
                exact ⟨by rw [HF.out]; rfl, rfl⟩
          · have hci : ¬ (c.toNat : Int) < 128 := by omega
            have HE2 := HE.out
            rw [if_neg hc] at HE2
            have hxe : x + 128 ^ i * (c.toNat - 128) = x2 := by rw [HX2.out]; congr 2; omega
            rw [hxe] at HE2
            have hlt9 : i < 9 := by
              by_cases e : i = 9
              · have := H9.out; omega
              · omega
            have H2 := hid HE2
            have hai2 : a + i + 1 ≤ b.length := by omega
            clear HE2 hxe
            go_wp2
            go_roundw
            case rel => exact ⟨i + 1, by omega, by go_num, x2, rfl, HX3.out, by omega, by have h := H2.out; rw [show a + (i + 1) = a + i + 1 from by omega]; exact h, by trivial⟩
            case measure => simp [intOf]; omega

end Go.Proofs.YtgaidmohdhaonaaGreatDoor

namespace Go.Proofs.YtgaidmohdhaonaaGreatDoor
set_option linter.unusedVariables false
set_option linter.unusedSimpArgs false
set_option linter.unnecessarySimpa false
set_option linter.unusedSectionVars false
open Go Go.RowKit

set_option maxRecDepth 100000 in
theorem bytes_any {w : World} {v : Value} {b : List UInt8} (hv : BAt w v b) (hl : b.length ≤ 140737488351232) :
    Calls Tryz.prog 70 #[v] w fun e w' => ∃ v', e = .returned v' ∧ NewB w w' v' (bytesB b) := by
  have HV := hid hv
  have HU := hid (uint_any (w := w) (n := b.length) (by omega))
  have hul := uintB_len 9 b.length (by omega)
  obtain ⟨ao, cap, rfl, h1, h2, -, -⟩ := hv
  go_enter Tryz.func70, Tryz.ntmps70
  go_wp2_with fail
  refine HU.out.mono ?_
  rintro e w1 ⟨v1, rfl, hn⟩
  obtain ⟨v2, w2, hr, hn2⟩ := hn.join (HV.out.keep hn.upd) (by omega) 22
  obtain ⟨a1, c1, hv1, -, -⟩ := hn.shape
  obtain ⟨a2, c2, hv2, -, -⟩ := hn2.shape
  rw [hv1, hv2] at hr
  rw [hv1]
  rw [hv2] at hn2
  obtain ⟨L1, hL1⟩ : ∃ L, L = (uintB b.length).length := ⟨_, rfl⟩
  obtain ⟨L2, hL2⟩ : ∃ L, L = (uintB b.length ++ b).length := ⟨_, rfl⟩
  rw [← hL2] at hr hn2
  rw [← hL1] at hr ⊢
  have HR := hid hr; have HN := hid hn2
  clear hr hn2 hn hv1 hv2 hL1 hL2 hul
  go_wp2_with (at_builtin; refine wpList_append_run rfl _ _ _ rfl rfl rfl HR.out ?_)
  go_ret
  exact ⟨_, rfl, HN.out⟩

set_option maxRecDepth 100000 in
set_option maxHeartbeats 1600000 in
theorem readBytes_any {w : World} {v : Value} {b : List UInt8} (hv : BAt w v b) {a : Nat} (ha : a ≤ b.length) (hl : b.length ≤ 140737488351232) {most : Nat} (hm : most ≤ 140737488351232) :
    Calls Tryz.prog 136 #[v, .int .i64 a, .int .i64 most] w fun e w' => ∃ v', e = .returned (.tuple #[v', .int .i64 ((readB b a most).2.1 : Nat), .int .i64 (readB b a most).2.2]) ∧ NewB w w' v' (readB b a most).1 := by
  have HV := hid hv
  have HOUT := hid (outside_in hv ha)
  have HRU := hid (readUint_any hv ha (by omega))
  obtain ⟨R, hR⟩ : ∃ R, R = readB b a most := ⟨_, rfl⟩
  obtain ⟨U, hU⟩ : ∃ U, U = readU b a := ⟨_, rfl⟩
  rw [← hR]
  rw [← hU] at HRU
  have hok : U.2.2 = 0 → U.1 < 18446744073709551616 ∧ a < U.2.1 ∧ U.2.1 ≤ b.length := fun h => by rw [hU] at h ⊢; exact readU_ok h ha
  unfold readB at hR
  simp only [← hU] at hR
  obtain ⟨u1, u2, u3⟩ := U
  simp only at hR hok HRU
  have HR := hid hR; have HOK := hid hok
  obtain ⟨ao, cap, rfl, h1, h2, h3, h4⟩ := hv
  have HC := hid h4; have HN := hid h3
  clear hR hok hU h3 h4
  have hm0 : ¬ (most : Int) < 0 := by omega
  go_enter Tryz.func136, Tryz.ntmps136
  go_wp2_with fail
  refine HOUT.out.mono ?_
  rintro e w' ⟨rfl, hww⟩
  obtain rfl := hww.symm
  go_wp2_with fail
  refine HRU.out.mono ?_
  rintro e w' ⟨rfl, hww⟩
  obtain rfl := hww.symm
  by_cases he : u3 = 0
  · subst he
    obtain ⟨k1, k2, k3⟩ := HOK.out rfl
    have hR := HR.out
    rw [if_neg (by simp)] at hR
    by_cases hb : most < u1
    · rw [if_pos hb] at hR
      have HF := hid hR
      have hbi : (most : Int) < (u1 : Int) := by omega
      clear hR hb
      go_wp2
      go_ret3
      exact ⟨.slice none 0 0, by rw [HF.out]; rfl, by rw [HF.out]; exact NewB.nil _⟩
    · rw [if_neg hb] at hR
      have hbi : ¬ (most : Int) < (u1 : Int) := by omega
      by_cases ht : b.length - u2 < u1
      · rw [if_pos ht] at hR
        have HF := hid hR
        have hti : (b.length : Int) - (u2 : Int) < (u1 : Int) := by omega
        clear hR hb ht
        go_wp2
        go_ret3
        exact ⟨.slice none 0 0, by rw [HF.out]; rfl, by rw [HF.out]; exact NewB.nil _⟩
      · rw [if_neg ht] at hR
        have HF := hid hR
        have hti : ¬ (b.length : Int) - (u2 : Int) < (u1 : Int) := by omega
        obtain ⟨g, o, rfl⟩ : ∃ g o, ao = some ⟨g, o, none⟩ := by
          obtain ⟨g, o, e, -⟩ := HC.out 0 (by omega)
          exact ⟨g, o, e⟩
        have hsub := (HV.out.sub (lo := u2) (n := u1) (by omega)).bytes
        have HCL := hid (clone_any hsub (by simp; omega))
        have HCL0 := hid (show ∀ (ad : Addr) (c : Nat), u1 = 0 → Calls Tryz.prog 122 #[.slice (some ad) u1 c] w fun e w' => ∃ v', e = .returned v' ∧ DataIs w' v' ((b.drop u2).take u1) ∧ (∀ k, v'.ownBlock = some k → w.heap.size ≤ k) ∧ Below w.heap.size w w' from fun ad c h => by
          subst h
          exact clone_any (v := .slice (some ad) 0 c) (bs := []) ⟨some ad, c, rfl, (fun h => by cases h), fun a _ j u hu => by simp at hu⟩ (by simp))
        have hlo : u2 + u1 ≤ b.length := by omega
        clear hR hb ht hsub
        go_wp2_with fail
        all_goals
          first
            | refine HCL.out.mono ?_
            | refine (HCL0.out _ _ (by omega)).mono ?_
          rintro e w2 ⟨v2, rfl, hd, hnew, hbel⟩
          have HN2 := hid (show NewB w w2 v2 R.1 from by rw [HF.out]; exact ⟨hd, hnew, Upd.of_below hbel⟩)
          clear hd hnew hbel
          go_wp2
          go_ret3
          exact ⟨v2, by rw [HF.out]; rfl, HN2.out⟩
  · have hR := HR.out
    rw [if_pos he] at hR
    have HF := hid hR
    have hei : (u3 != 0) = true := by simpa using he
    clear hR he
    go_wp2
    go_ret3
    exact ⟨.slice none 0 0, by rw [HF.out]; rfl, by rw [HF.out]; exact NewB.nil _⟩

end Go.Proofs.YtgaidmohdhaonaaGreatDoor

namespace Go.Proofs.YtgaidmohdhaonaaGreatDoor
set_option linter.unusedVariables false
set_option linter.unusedSimpArgs false
set_option linter.unnecessarySimpa false
set_option linter.unusedSectionVars false
open Go Go.RowKit

/-- The table of the check sum lies in the first block. -/
def TabIn (w : World) : Prop := 0 < w.heap.size ∧ ∀ j t : Nat, crcTab[j]? = some t → w.cell? ⟨0, j, none⟩ = some (.int .u32 (t : Int))

theorem TabIn.upd {S : Nat → Prop} {w w' : World} (h : TabIn w) (hu : Upd S w w') (hn : ¬ S 0) : TabIn w' :=
  ⟨Nat.lt_of_lt_of_le h.1 hu.size, fun j t e => (World.cell?_of_block (a := ⟨0, j, none⟩) (hu.block 0 h.1 hn)).trans (h.2 j t e)⟩
theorem TabIn.keep {w w' : World} (h : TabIn w) (hu : Upd (fun _ => False) w w') : TabIn w' := h.upd hu (fun e => e)

theorem xor8 (r b : Nat) (hb : b < 256) : bits .and .u8 (bits .xor .u8 ((r : Int) % 256) (b : Int)) 15 = (((r ^^^ b) % 16 : Nat) : Int) ∧ bits .xor .u8 ((r : Int) % 256) (b : Int) % 16 = (((r ^^^ b) % 16 : Nat) : Int) := by
  have h1 : bits .xor .u8 ((r : Int) % 256) (b : Int) = (((r % 256) ^^^ b : Nat) : Int) := by
    rw [show ((r : Int) % 256) = ((r % 256 : Nat) : Int) from by omega, u8_xor_nat _ _ (by omega) hb]
  have h2 : (r % 256 ^^^ b) < 256 := Nat.xor_lt_two_pow (n := 8) (by omega) hb
  have h3 : (r % 256 ^^^ b) % 16 = (r ^^^ b) % 16 := by rw [xor_mod16, xor_mod16 r]; congr 1; omega
  rw [h1]
  refine ⟨?_, by omega⟩
  rw [show (15 : Int) = ((15 : Nat) : Int) from rfl, u8_and_nat _ _ h2 (by omega), nat_mask4, h3]

theorem tab_lt {j t : Nat} (h : crcTab[j]? = some t) : t < 4294967296 ∧ j < 16 := by
  have hj : j < crcTab.length := by
    by_cases hj : j < crcTab.length
    · exact hj
    · rw [List.getElem?_eq_none (by omega)] at h; cases h
  have hj' : j < 16 := hj
  have : ∀ n : Fin 16, ∀ t, crcTab[n.1]? = some t → t < 4294967296 := by decide +kernel
  exact ⟨this ⟨j, hj'⟩ t h, hj'⟩

set_option maxRecDepth 100000 in
set_option maxHeartbeats 3200000 in
theorem sum_any {w : World} {v : Value} {bs : List UInt8} {q : Nat} (hT : TabIn w) (hq : w.heap[q]? = some (.cells #[v] 22 (0, 0))) (hv : BAt w v bs) (hl : bs.length ≤ 140737488351232) :
    Calls Tryz.prog 132 #[.slice (some ⟨q, 0, none⟩) 1 1] w fun e w' => e = .returned (.int .u32 (crc bs : Nat)) ∧ w' = w := by
  have HV := hid hv; have HT := hid hT
  have hql := lt_of_heap hq
  have hq0 : w.cell? ⟨q, 0, none⟩ = some v := by rw [cell_of_row w q 0 _ _ _ hq]; rfl
  obtain ⟨ao, cap, rfl, h1, h2, -, h4⟩ := hv
  have HC := hid h4
  clear hq hT h4
  go_enter Tryz.func132, Tryz.ntmps132
  go_wp2
  go_loopw [3, 10] (fun cv iv wr => wr = w ∧ ∃ n : Nat, n ≤ 1 ∧ iv = .int .i64 n ∧ cv = .int .u32 ((creg 4294967295 (if n = 0 then [] else bs) : Nat) : Int)) (fun _ iv _ => 1 - (intOf iv).toNat)
  case atStart => exact ⟨rfl, 0, by omega, rfl, rfl⟩
  case round =>
    obtain ⟨hww, n, hn, rfl, rfl⟩ := hrel
    obtain rfl := hww.symm
    by_cases hn0 : n = 0
    · subst hn0
      rw [if_pos rfl]
      go_wp2
      go_loopw [3, 16] (fun cv iv wr => wr = w ∧ ∃ k : Nat, k ≤ bs.length ∧ iv = .int .i64 k ∧ ∃ r : Nat, r < 4294967296 ∧ r = creg 4294967295 (bs.take k) ∧ cv = .int .u32 (r : Int)) (fun _ iv _ => bs.length - (intOf iv).toNat)
      case atStart => exact ⟨rfl, 0, Nat.zero_le _, rfl, 4294967295, by decide, rfl, rfl⟩
      case round =>
        obtain ⟨hww2, k, hk, rfl, r, hr, hre, rfl⟩ := hrel
        obtain rfl := hww2.symm
        by_cases hlt : k < bs.length
        · obtain ⟨g, o, rfl, hg, d0⟩ := HC.out k hlt
          have hstep := creg_step 4294967295 bs k hlt
          rw [← hre] at hstep
          generalize bs[k] = c at d0 hstep
          simp only [byteV] at d0
          have hc8 : c.toNat < 256 := c.toNat_lt
          obtain ⟨t1, ht1, hb1⟩ := cbits4 r c.toNat
          have hr1 : cbits 4 r c.toNat < 4294967296 := cbits_lt 4 hr
          obtain ⟨r1, hr1e⟩ : ∃ r1, r1 = cbits 4 r c.toNat := ⟨_, rfl⟩
          rw [← hr1e] at hb1 hr1
          obtain ⟨t2, ht2, hb2⟩ := cbits4 r1 (c.toNat / 16)
          have hst2 : creg 4294967295 (bs.take (k + 1)) = cbits 4 r1 (c.toNat / 16) := by rw [hstep]; unfold cbyte; rw [cbits8, ← hr1e]
          have hr2 : cbits 4 r1 (c.toNat / 16) < 4294967296 := cbits_lt 4 hr1
          obtain ⟨x1, y1⟩ := xor8 r c.toNat hc8
          obtain ⟨x2, y2⟩ := xor8 r1 (c.toNat / 16) (by omega)
          obtain ⟨j1, hj1⟩ : ∃ j1, j1 = (r ^^^ c.toNat) % 16 := ⟨_, rfl⟩
          obtain ⟨j2, hj2⟩ : ∃ j2, j2 = (r1 ^^^ (c.toNat / 16)) % 16 := ⟨_, rfl⟩
          rw [← hj1] at ht1 x1 y1
          rw [← hj2] at ht2 x2 y2
          have t1l := (tab_lt ht1).1
          have t2l := (tab_lt ht2).1
          have hj16 : j1 < 16 := (tab_lt ht1).2
          have hj26 : j2 < 16 := (tab_lt ht2).2
          have g1 := HT.out.2 j1 t1 ht1
          have g2 := HT.out.2 j2 t2 ht2
          have hp0 := HT.out.1
          have HST := hid hst2; have HB1 := hid hb1; have HB2 := hid hb2
          clear hre hstep ht1 ht2 hst2 hb1 hb2 hj1 hj2 hr1e
          have e16 : ((c.toNat / 16 : Nat) : Int) = (c.toNat : Int) / 16 := by omega
          rw [e16] at x2 y2
          have z1 : bits .xor .u32 ((r : Int) / 16) (t1 : Int) = ((r1 : Nat) : Int) := by
            rw [show ((r : Int) / 16) = ((r / 16 : Nat) : Int) from by omega, u32_xor_nat _ _ (by omega) t1l, ← HB1.out]
          obtain ⟨r2, hr2e⟩ : ∃ r2, r2 = cbits 4 r1 (c.toNat / 16) := ⟨_, rfl⟩
          have z2 : bits .xor .u32 ((r1 : Int) / 16) (t2 : Int) = ((r2 : Nat) : Int) := by
            rw [show ((r1 : Int) / 16) = ((r1 / 16 : Nat) : Int) from by omega, u32_xor_nat _ _ (by omega) t2l, hr2e, HB2.out]
          have HR2 := hid (show r2 < 4294967296 from by rw [hr2e]; exact hr2)
          have HST2 := hid (show r2 = creg 4294967295 (bs.take (k + 1)) from by rw [HST.out, hr2e])
          clear hr2 hr2e e16 t1l t2l
          go_wp2
          go_roundw
          case rel => exact ⟨by trivial, k + 1, by omega, by go_num, r2, HR2.out, HST2.out, rfl⟩
          case measure => simp [intOf]; omega
        · obtain rfl : k = bs.length := by omega
          have HRE := hid (show r = creg 4294967295 bs from by rw [hre, List.take_length])
          clear hre
          go_wp2
          go_roundw
          case rel => exact ⟨by trivial, 1, by omega, by go_num, by rw [if_neg (by decide), ← HRE.out]⟩
          case measure => simp [intOf]
    · obtain rfl : n = 1 := by omega
      rw [if_neg (by decide)]
      have hcl := creg_lt bs (r := 4294967295) (by decide)
      have HCR := hid (show crc bs = 4294967295 - creg 4294967295 bs from rfl)
      generalize creg 4294967295 bs = r at hcl HCR
      have hnot : bits .xor .u32 IntKind.u32.max (r : Int) = ((4294967295 - r : Nat) : Int) := by
        rw [show IntKind.u32.max = ((4294967295 : Nat) : Int) from rfl, u32_xor_nat _ _ (by decide) hcl, Nat.xor_comm, not32 r hcl]
      have HNOT := hid hnot
      clear hnot
      go_wp2
      go_ret
      refine ⟨?_, rfl⟩
      show Ending.returned (.int .u32 (bits .xor .u32 IntKind.u32.max (r : Int))) = _
      rw [HNOT.out, HCR.out]

end Go.Proofs.YtgaidmohdhaonaaGreatDoor

namespace Go.Proofs.YtgaidmohdhaonaaGreatDoor
set_option linter.unusedVariables false
set_option linter.unusedSimpArgs false
set_option linter.unnecessarySimpa false
set_option linter.unusedSectionVars false
open Go Go.RowKit

set_option maxRecDepth 100000 in
theorem low_any {w0 w : World} {v : Value} {bs : List UInt8} {x : Nat} (hn : NewB w0 w v bs) (hx : x < 4294967296) (hl : bs.length ≤ 140737488351232) :
    Calls Tryz.prog 131 #[v, .int .u32 x] w fun e w' => ∃ v', e = .returned v' ∧ NewB w0 w' v' (bs ++ lowB x) := by
  obtain ⟨v2, w2, hr, hn2⟩ := hn.push (lowB x) (by simp [lowB]; omega) 22
  obtain ⟨a1, c1, hv1, -, -⟩ := hn.shape
  obtain ⟨a2, c2, hv2, -, -⟩ := hn2.shape
  have e0 : (((UInt8.ofNat x).toNat : Nat) : Int) = (x : Int) % 256 := by rw [UInt8.toNat_ofNat']; omega
  have e1 : (((UInt8.ofNat (x / 256)).toNat : Nat) : Int) = (x : Int) / 256 % 256 := by rw [UInt8.toNat_ofNat']; omega
  have e2 : (((UInt8.ofNat (x / 65536)).toNat : Nat) : Int) = (x : Int) / 65536 % 256 := by rw [UInt8.toNat_ofNat']; omega
  have e3 : (((UInt8.ofNat (x / 16777216)).toNat : Nat) : Int) = (x : Int) / 16777216 := by rw [UInt8.toNat_ofNat']; omega
  have hr' : (Builtin.append_ #[22, 22] 22 #[v, .slice (some ⟨w.heap.size, 0, none⟩) 4 4]).run Tryz.prog (w.alloc (.cells #[.int .u8 (((UInt8.ofNat x).toNat : Nat) : Int), .int .u8 (((UInt8.ofNat (x / 256)).toNat : Nat) : Int), .int .u8 (((UInt8.ofNat (x / 65536)).toNat : Nat) : Int), .int .u8 (((UInt8.ofNat (x / 16777216)).toNat : Nat) : Int)] 5)) = .ok v2 w2 := hr
  rw [e0, e1, e2, e3, hv1, hv2] at hr'
  rw [hv1]
  rw [hv2] at hn2
  obtain ⟨L1, hL1⟩ : ∃ L, L = bs.length := ⟨_, rfl⟩
  obtain ⟨L2, hL2⟩ : ∃ L, L = (bs ++ lowB x).length := ⟨_, rfl⟩
  rw [← hL1, ← hL2] at hr'
  rw [← hL2] at hn2
  rw [← hL1]
  have HR := hid hr'; have HN := hid hn2
  clear hr hr' hn2 hn hv1 hv2 hL1 hL2 e0 e1 e2 e3 hl
  go_enter Tryz.func131, Tryz.ntmps131
  go_wp2_with (at_builtin; refine wpList_append_run rfl _ _ _ rfl rfl rfl HR.out ?_)
  go_ret
  exact ⟨_, rfl, HN.out⟩

/-- 'string(b)'. -/
theorem run_str_of {w : World} {v : Value} {bs : List UInt8} (h : BytesAt w v bs) : (convert 22 9 v).run Tryz.prog w = .ok (.string (toBA bs)) w := by
  obtain ⟨ao, cap, rfl, hn, hs⟩ := h
  cases ao with
  | none =>
    obtain ⟨rfl, rfl⟩ := hn rfl
    exact run_convert_bytes_nil w 22 5 Tryz.underlying22 Tryz.underlying5 _ _ 9 Tryz.underlying9
  | some a =>
    exact run_convert_bytes_back w 22 9 5 a cap bs Tryz.underlying22 Tryz.underlying5 Tryz.underlying9 (fun j hj => hs a rfl j _ (by rw [List.getElem?_map, List.getElem?_eq_getElem hj]; rfl))

theorem toBA_eq (a b : List UInt8) : ((toBA a).toList == (toBA b).toList) = decide (a = b) := by
  rw [beq_toList]
  congr 1
  apply propext
  constructor
  · intro h
    have := congrArg (fun x : ByteArray => x.data.toList) h
    simpa [toBA] using this
  · rintro rfl; rfl

theorem equal_any {w : World} {v1 v2 : Value} {b1 b2 : List UInt8} (h1 : BytesAt w v1 b1) (h2 : BytesAt w v2 b2) :
    Calls Tryz.prog 76 #[v1, v2] w fun e w' => e = .returned (.bool (decide (b1 = b2))) ∧ w' = w := by
  refine (Tryz.bytes_Equal_strs v1 v2 _ _ w (run_str_of h1) (run_str_of h2)).mono ?_
  rintro e w' ⟨rfl, rfl⟩
  exact ⟨by rw [toBA_eq], rfl⟩

set_option maxRecDepth 100000 in
set_option maxHeartbeats 1600000 in
theorem is_any {w : World} {v : Value} {b : List UInt8} (hv : BAt w v b) {a : Nat} (ha : a + 4 ≤ b.length) (hl : b.length ≤ 140737488351232) {x : Nat} (hx : x < 4294967296) :
    Calls Tryz.prog 134 #[v, .int .i64 a, .int .u32 x] w fun e w' => e = .returned (.bool (decide ((b.drop a).take 4 = lowB x))) ∧ Upd (fun _ => False) w w' := by
  have HV := hid hv
  obtain ⟨ao, cap, rfl, h1, h2, h3, h4⟩ := hv
  obtain ⟨g, o, rfl⟩ : ∃ g o, ao = some ⟨g, o, none⟩ := by
    obtain ⟨g, o, e, -⟩ := h4 0 (by omega)
    exact ⟨g, o, e⟩
  have HSUB := hid (HV.out.sub (lo := a) (n := 4) ha)
  have hcur := hid (show Upd (fun _ => False) w w.drew from (Upd.refl _ w).drew)
  have hac : a + 4 ≤ cap := by omega
  have hlt : a < cap := by omega
  have i0 : (0 : Int) ≤ (a : Int) := by omega
  have i1 : (a : Int) ≤ (a : Int) + 4 := by omega
  have i2 : (a : Int) + 4 ≤ (cap : Int) := by omega
  have i3 : IntKind.i64.wrap ((a : Int) + 4) = (a : Int) + 4 := by rw [IntKind.wrap_i64]; omega
  have i4 : ¬ cap = a := by omega
  have i5 : ((a : Int) + 4 - (a : Int)).toNat = 4 := by omega
  have i6 : a + 4 - a = 4 := by omega
  have i7 : ((a : Int) + 4).toNat = a + 4 := by omega
  have i8 : ¬ cap - a = 0 := by omega
  clear h3 h4
  go_enter Tryz.func134, Tryz.ntmps134
  go_upto_region 1 with fail
  go_region_held3 (fun V => True)
    (trivial)
    (first
      | (go_at_call 131; refine (low_any (NewB.nil _) hx (by simp)).mono ?_; rintro e w3 ⟨v3, rfl, hn3⟩; have hcur := hid (hcur.out.trans hn3.upd (fun _ _ e => e)))
      | (go_at_call 76; refine (equal_any (HSUB.out.keep hcur.out).bytes hn3.data.bytes).mono ?_; rintro e w4 ⟨rfl, hww⟩; obtain rfl := hww.symm)
      | fail)
  all_goals
    have HC := hid hcur.out
    go_wp2
    go_ret
    exact ⟨rfl, HC.out⟩

end Go.Proofs.YtgaidmohdhaonaaGreatDoor

namespace Go.Proofs.YtgaidmohdhaonaaGreatDoor
set_option linter.unusedVariables false
set_option linter.unusedSimpArgs false
set_option linter.unnecessarySimpa false
set_option linter.unusedSectionVars false
open Go Go.RowKit

theorem NewB.keep {w w1 w2 : World} {v : Value} {bs : List UInt8} (h : NewB w w1 v bs) (hu : Upd (fun _ => False) w1 w2) : NewB w w2 v bs := ⟨h.data.upd hu (fun _ _ e => e), h.new, h.upd.trans hu (fun _ _ e => e)⟩

/-- One list of bytes, handed over as parts. -/
theorem sum_one {w : World} {v : Value} {bs : List UInt8} (hT : TabIn w) (hv : BAt w v bs) (hl : bs.length ≤ 140737488351232) :
    Calls Tryz.prog 132 #[.slice (some ⟨w.heap.size, 0, none⟩) 1 1] (w.alloc (.cells #[v] 22)) fun e w' => e = .returned (.int .u32 (crc bs : Nat)) ∧ Upd (fun _ => False) w w' := by
  have hu : Upd (fun _ => False) w (w.alloc (.cells #[v] 22)) := (Upd.refl _ _).alloc _
  refine (sum_any (hT.keep hu) (heap_alloc_new w _) (hv.keep hu) hl).mono ?_
  rintro e w' ⟨rfl, rfl⟩
  exact ⟨rfl, hu⟩

theorem made_new (w : World) (n : Nat) (hn : n ≤ 1048576) : ∃ wm, (Instr.makeSlice 22 (.int .i64 0) (.int .i64 ((n : Int) + 12))).run Tryz.prog w = .ok (.slice (some ⟨w.heap.size, 0, none⟩) 0 (n + 12)) wm ∧ NewB w wm (.slice (some ⟨w.heap.size, 0, none⟩) 0 (n + 12)) [] := by
  obtain ⟨i0, hi, hz0, hz1, hz2⟩ := info_parts Tryz.infoByte
  have h := run_make (P := Tryz.prog) w 22 5 i0 _ Tryz.underlying22 hi hz0 .i64 .i64 0 ((n : Int) + 12) (by omega) (by omega) (by rw [hz2]; omega) (by omega)
  have e1 : ((n : Int) + 12).toNat = n + 12 := by omega
  rw [e1, hz1, show (0 : Int).toNat = 0 from rfl] at h
  refine ⟨_, h, ⟨.inr ⟨w.heap.size, n + 12, _, rfl, heap_alloc_new w _, Nat.zero_le _, ?_, by unfold maxLen; omega, by simp⟩, fun k hk => ?_, (Upd.refl _ _).alloc _⟩⟩
  · simp [size_madeCells]
  · injection hk with hk
    have hk' : w.heap.size = k := hk
    omega

set_option maxRecDepth 100000 in
set_option maxHeartbeats 3200000 in
theorem frame_any {w : World} {v : Value} {b : List UInt8} (hT : TabIn w) (hv : BAt w v b) (hl : b.length ≤ 1048576) :
    Calls Tryz.prog 71 #[v] w fun e w' => ∃ v', e = .returned (.tuple #[v', .int .i64 0]) ∧ NewB w w' v' (frameB b) := by
  have HV := hid hv; have HT := hid hT
  obtain ⟨n, hn⟩ : ∃ n, n = b.length := ⟨_, rfl⟩
  obtain ⟨wm, hmk, hnm⟩ := made_new w n (by omega)
  obtain ⟨v1, w1, hr1, hn1⟩ := hnm.push (highB n) (by simp [highB]) 22
  rw [List.nil_append] at hn1
  obtain ⟨a1, c1, hv1, -, -⟩ := hn1.shape
  have e0 : (((UInt8.ofNat n).toNat : Nat) : Int) = (n : Int) % 256 := by rw [UInt8.toNat_ofNat']; omega
  have e1 : (((UInt8.ofNat (n / 256)).toNat : Nat) : Int) = (n : Int) / 256 % 256 := by rw [UInt8.toNat_ofNat']; omega
  have e2 : (((UInt8.ofNat (n / 65536)).toNat : Nat) : Int) = (n : Int) / 65536 := by rw [UInt8.toNat_ofNat']; omega
  have e3 : (((UInt8.ofNat (n / 16777216)).toNat : Nat) : Int) = (n : Int) / 16777216 := by rw [UInt8.toNat_ofNat']; omega
  have hr1' : (Builtin.append_ #[22, 22] 22 #[.slice (some ⟨w.heap.size, 0, none⟩) 0 (n + 12), .slice (some ⟨wm.heap.size, 0, none⟩) 4 4]).run Tryz.prog (wm.alloc (.cells #[.int .u8 (((UInt8.ofNat (n / 16777216)).toNat : Nat) : Int), .int .u8 (((UInt8.ofNat (n / 65536)).toNat : Nat) : Int), .int .u8 (((UInt8.ofNat (n / 256)).toNat : Nat) : Int), .int .u8 (((UInt8.ofNat n).toNat : Nat) : Int)] 5)) = .ok v1 w1 := hr1
  rw [e0, e1, e2, e3, hv1] at hr1'
  rw [hv1] at hn1
  have hl4 : (highB n).length = 4 := rfl
  rw [hl4] at hr1' hn1
  have HR1 := hid hr1'; have HN1 := hid hn1; have HNN := hid hn
  obtain ⟨ao, cap, rfl, h1, h2, -, -⟩ := hv
  rw [← hn] at HV h1 hl ⊢
  have hnl : ¬ (1048576 : Int) < (n : Int) := by omega
  clear hr1 hr1' hn1 hv1 e0 e1 e2 e3 hnm hn hT hl4
  go_enter Tryz.func71, Tryz.ntmps71
  go_upto_region 5 with (at_builtin; refine wpList_append_run rfl _ _ _ rfl rfl rfl HR1.out ?_)
  have HS1 := hid (sum_one (HT.out.keep HN1.out.upd) HN1.out.data.bat (by simp [highB]))
  have hl4 : (highB n).length = 4 := rfl
  go_wp2_with fail
  refine HS1.out.mono ?_
  rintro e w2 ⟨rfl, hu2⟩
  have HL2 := hid (low_any (HN1.out.keep hu2) (crc_lt (highB n)) (by simp [highB]))
  clear hu2 hmk
  go_wp2_with fail
  refine HL2.out.mono ?_
  rintro e w3 ⟨v3, rfl, hn3⟩
  obtain ⟨a3, c3, hv3, -, -⟩ := hn3.shape
  have hl8 : (highB n ++ lowB (crc (highB n))).length = 8 := rfl
  rw [hl8] at hv3
  subst hv3
  obtain ⟨v4, w4, hr4, hn4⟩ := hn3.join (HV.out.keep hn3.upd) (by rw [hl8, ← HNN.out]; omega) 22
  obtain ⟨a4, c4, hv4, -, -⟩ := hn4.shape
  rw [hv4] at hr4 hn4
  obtain ⟨L4, hL4⟩ : ∃ L, L = (highB n ++ lowB (crc (highB n)) ++ b).length := ⟨_, rfl⟩
  have hL4e : L4 = 8 + n := by rw [hL4, List.length_append, hl8, HNN.out]
  rw [← hL4] at hr4 hn4
  have HR4 := hid hr4; have HN4 := hid hn4
  have HS4 := hid (sum_one (HT.out.keep hn4.upd) (HV.out.keep hn4.upd) (by rw [← HNN.out]; omega))
  clear hr4 hn4 hn3 hv4 hL4 hl8 hl4
  have HL4E := hid hL4e
  clear hL4e
  go_upto_region 6 with (at_builtin; refine wpList_append_run rfl _ _ _ rfl rfl rfl HR4.out ?_)
  go_wp2_with fail
  refine HS4.out.mono ?_
  rintro e w5 ⟨rfl, hu5⟩
  have HL5 := hid (low_any (HN4.out.keep hu5) (crc_lt b) (by simp [highB, lowB]; have := HNN.out; omega))
  clear hu5
  go_wp2_with fail
  refine HL5.out.mono ?_
  rintro e w6 ⟨v6, rfl, hn6⟩
  have HN6 := hid hn6
  clear hn6
  go_wp2
  go_ret2
  refine ⟨v6, rfl, ?_⟩
  have h := HN6.out
  unfold frameB
  rw [← HNN.out]
  exact h

end Go.Proofs.YtgaidmohdhaonaaGreatDoor
