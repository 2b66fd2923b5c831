/-
  The key of an entry that may be is a key (plain).
  stratalaw10.longKey; a list of zeros that was made.
  The versions of VersionMany: which may be (plain).
-/
import Derived.Test.YthklehpkfndohaaDoorWP
import Derived.Test.YthklehpkfndohaaDoorYU
import Derived.Test.YthklehpkfndohaaDoorYN
import Derived.Test.YthklehpkfndohaaDoorYP
import Derived.Test.YthklehpkfndohaaDoorZA
namespace Go.Proofs.YthklehpkfndohaaDoor
set_option linter.unusedVariables false
set_option linter.unusedSimpArgs false
set_option linter.unnecessarySimpa false
set_option linter.unusedSectionVars false
open Go

theorem ro_write : ∀ (x q : List UInt8) (p : Nat) (acc : List UInt8), ro (ordB x ++ q) p acc = (acc ++ x, p + (ordB x).length, 0)
  | [], q, p, acc => by simp [ordB, ordT, ro]
  | c :: cs, q, p, acc => by
    by_cases hc : c.toNat = 0
    · have e : ordB (c :: cs) ++ q = c :: 255 :: (ordB cs ++ q) := by simp [ordB, ordT, hc]
      rw [e, ro, if_neg (by simpa using hc), if_neg (by decide), if_pos (by decide), ro_write cs q]
      refine Prod.ext (by simp) (Prod.ext ?_ rfl)
      simp [ordB, ordT, hc]
      omega
    · have e : ordB (c :: cs) ++ q = c :: (ordB cs ++ q) := by simp [ordB, ordT, hc]
      obtain ⟨d, r, hd⟩ : ∃ d r, ordB cs ++ q = d :: r := by
        cases h : ordB cs ++ q with
        | nil => simp [ordB] at h
        | cons d r => exact ⟨d, r, rfl⟩
      have ih := ro_write cs q (p + 1) (acc ++ [c])
      rw [e, hd, ro, if_pos hc, ← hd, ih]
      refine Prod.ext (by simp) (Prod.ext ?_ rfl)
      simp [ordB, ordT, hc]
      omega

theorem readO_write (a x q : List UInt8) : readO (a ++ (ordB x ++ q)) a.length = (x, a.length + (ordB x).length, 0) := by
  unfold readO
  rw [List.drop_left' rfl, ro_write]
  rfl

theorem numB_eight {n : Nat} (h : n < 18446744073709551616) : numB (eightB n) = n := by
  simp only [numB, eightB, List.foldl_cons, List.foldl_nil, UInt8.toNat_ofNat']
  omega

theorem readF_write (a q : List UInt8) {n : Nat} (h : n ≤ 9223372036854775807) : readF (a ++ (eightB n ++ q)) a.length = (9223372036854775807 - n, a.length + 8, 0) := by
  unfold readF
  have hl : (a ++ (eightB n ++ q)).length = a.length + (8 + q.length) := by simp [eightB_len]
  have h0 : (a ++ (eightB n ++ q)).getD a.length 0 = UInt8.ofNat (n / 72057594037927936) := by
    rw [List.getD_eq_getElem?_getD, List.getElem?_append_right (by omega)]
    simp [eightB]
  rw [hl, h0, if_neg (by omega), UInt8.toNat_ofNat', if_neg (by omega), List.drop_left' rfl, List.take_left' (eightB_len n), numB_eight (by omega)]

theorem key_split (e : EntA) : e.key = ordB e.row ++ ([UInt8.ofNat e.fam.toNat, if e.kind = 5 then 0 else 1] ++ ((if e.kind = 5 then [] else ordB e.qual ++ [if e.kind = 4 then 0 else 1]) ++
    (eightB (9223372036854775807 - e.ts.toNat) ++ (eightB (9223372036854775807 - e.seq.toNat) ++ [UInt8.ofNat e.kind.toNat])))) := by
  unfold EntA.key
  simp only [List.append_assoc]

/-- The two numbers and the kind. -/
theorem parseT_write (a row qual : List UInt8) (fam : Int) {ts seq kind : Int} (h1 : 0 ≤ ts) (h2 : ts ≤ 9223372036854775807) (h3 : 0 ≤ seq) (h4 : seq ≤ 9223372036854775807) (h5 : 0 ≤ kind) (h6 : kind ≤ 255) :
    parseT (a ++ (eightB (9223372036854775807 - ts.toNat) ++ (eightB (9223372036854775807 - seq.toNat) ++ [UInt8.ofNat kind.toNat]))) row fam qual a.length = some (⟨row, fam, qual, ts, seq, kind⟩, a.length + 16) := by
  have r1 := readF_write a (eightB (9223372036854775807 - seq.toNat) ++ [UInt8.ofNat kind.toNat]) (n := 9223372036854775807 - ts.toNat) (by omega)
  have r2 := readF_write (a ++ eightB (9223372036854775807 - ts.toNat)) [UInt8.ofNat kind.toNat] (n := 9223372036854775807 - seq.toNat) (by omega)
  rw [List.append_assoc, List.length_append, eightB_len] at r2
  unfold parseT
  simp only [r1, r2]
  have hl : (a ++ (eightB (9223372036854775807 - ts.toNat) ++ (eightB (9223372036854775807 - seq.toNat) ++ [UInt8.ofNat kind.toNat]))).length = a.length + 17 := by simp [eightB_len]
  have e1 := eightB_len (9223372036854775807 - ts.toNat)
  have e2 := eightB_len (9223372036854775807 - seq.toNat)
  have hg : (a ++ (eightB (9223372036854775807 - ts.toNat) ++ (eightB (9223372036854775807 - seq.toNat) ++ [UInt8.ofNat kind.toNat]))).getD (a.length + 8 + 8) 0 = UInt8.ofNat kind.toNat := by
    rw [List.getD_eq_getElem?_getD, List.getElem?_append_right (by omega), List.getElem?_append_right (by omega), List.getElem?_append_right (by omega), e1, e2]
    rw [show a.length + 8 + 8 - a.length - 8 - 8 = 0 from by omega]
    rfl
  rw [hl, hg, if_neg (by simp), if_neg (by simp), UInt8.toNat_ofNat']
  congr 2
  · congr 1 <;> omega

theorem parse_key {e : EntA} (h : e.bad = 0) : ∃ p, parseP e.key = some (e, p) := by
  obtain ⟨row, fam, qual, ts, seq, kind⟩ := e
  unfold EntA.bad at h
  simp only at h
  split at h
  · cases h
  split at h
  · cases h
  split at h
  · cases h
  split at h
  · cases h
  split at h
  · cases h
  split at h
  · cases h
  rename_i a1 a2 a3 a4 a5 a6
  rw [key_split]
  simp only
  obtain ⟨T, hT⟩ : ∃ T, T = eightB (9223372036854775807 - ts.toNat) ++ (eightB (9223372036854775807 - seq.toNat) ++ [UInt8.ofNat kind.toNat]) := ⟨_, rfl⟩
  rw [← hT]
  have hTl : T.length = 17 := by rw [hT]; simp [eightB_len]
  by_cases h5 : kind = 5
  · have hq : qual = [] := by
      cases qual with
      | nil => rfl
      | cons c cs => exact absurd (Or.inr ⟨h5, by simp⟩) a3
    subst hq
    rw [if_pos h5, if_pos h5, List.nil_append]
    have r0 := readO_write [] row ([UInt8.ofNat fam.toNat, 0] ++ T)
    rw [List.nil_append, List.length_nil, Nat.zero_add] at r0
    obtain ⟨B, hB⟩ : ∃ B, B = ordB row ++ ([UInt8.ofNat fam.toNat, 0] ++ T) := ⟨_, rfl⟩
    rw [← hB] at r0 ⊢
    have hBl : B.length = (ordB row).length + 19 := by rw [hB]; simp [hTl]
    have g1 : B.getD (ordB row).length 0 = UInt8.ofNat fam.toNat := by rw [hB, List.getD_eq_getElem?_getD, List.getElem?_append_right (by omega)]; simp
    have g2 : B.getD ((ordB row).length + 1) 0 = 0 := by rw [hB, List.getD_eq_getElem?_getD, List.getElem?_append_right (by omega)]; simp
    have r1 := parseT_write (ordB row ++ [UInt8.ofNat fam.toNat, 0]) row [] fam (ts := ts) (seq := seq) (kind := kind) (by omega) (by omega) (by omega) (by omega) (by omega) (by omega)
    rw [← hT, List.append_assoc, ← hB] at r1
    have hl2 : (ordB row ++ [UInt8.ofNat fam.toNat, 0]).length = (ordB row).length + 2 := by simp
    rw [hl2] at r1
    refine ⟨(ordB row).length + 2 + 16, ?_⟩
    unfold parseP
    simp only [r0]
    rw [if_neg (by simp; omega), g2, if_pos (by decide), g1, UInt8.toNat_ofNat', show (((fam.toNat % 2 ^ 8 : Nat)) : Int) = fam from by omega]
    exact r1
  · rw [if_neg h5, if_neg h5]
    obtain ⟨k4, hk4⟩ : ∃ k : UInt8, k = if kind = 4 then 0 else 1 := ⟨_, rfl⟩
    rw [← hk4]
    have r0 := readO_write [] row ([UInt8.ofNat fam.toNat, 1] ++ (ordB qual ++ [k4] ++ T))
    rw [List.nil_append, List.length_nil, Nat.zero_add] at r0
    have r2 := readO_write (ordB row ++ [UInt8.ofNat fam.toNat, 1]) qual ([k4] ++ T)
    have hl2 : (ordB row ++ [UInt8.ofNat fam.toNat, 1]).length = (ordB row).length + 2 := by simp
    rw [hl2] at r2
    obtain ⟨B, hB⟩ : ∃ B, B = ordB row ++ ([UInt8.ofNat fam.toNat, 1] ++ (ordB qual ++ [k4] ++ T)) := ⟨_, rfl⟩
    have hB2 : ordB row ++ [UInt8.ofNat fam.toNat, 1] ++ (ordB qual ++ ([k4] ++ T)) = B := by rw [hB]; simp
    rw [hB2] at r2
    rw [← hB] at r0 ⊢
    have hBl : B.length = (ordB row).length + 2 + (ordB qual).length + 18 := by rw [hB]; simp [hTl]; omega
    have g1 : B.getD (ordB row).length 0 = UInt8.ofNat fam.toNat := by rw [hB, List.getD_eq_getElem?_getD, List.getElem?_append_right (by omega)]; simp
    have g2 : B.getD ((ordB row).length + 1) 0 = 1 := by rw [hB, List.getD_eq_getElem?_getD, List.getElem?_append_right (by omega)]; simp
    have r1 := parseT_write (ordB row ++ [UInt8.ofNat fam.toNat, 1] ++ (ordB qual ++ [k4])) row qual fam (ts := ts) (seq := seq) (kind := kind) (by omega) (by omega) (by omega) (by omega) (by omega) (by omega)
    have hB3 : ordB row ++ [UInt8.ofNat fam.toNat, 1] ++ (ordB qual ++ [k4]) ++ T = B := by rw [hB]; simp
    rw [← hT, hB3] at r1
    have hl3 : (ordB row ++ [UInt8.ofNat fam.toNat, 1] ++ (ordB qual ++ [k4])).length = (ordB row).length + 2 + (ordB qual).length + 1 := by simp; omega
    rw [hl3] at r1
    refine ⟨(ordB row).length + 2 + (ordB qual).length + 1 + 16, ?_⟩
    unfold parseP
    simp only [r0]
    rw [if_neg (by simp; omega), g2, if_neg (by decide)]
    simp only [r2]
    rw [if_neg (by simp; omega), g1, UInt8.toNat_ofNat', show (((fam.toNat % 2 ^ 8 : Nat)) : Int) = fam from by omega]
    exact r1

theorem key_isKey {e : EntA} (h : e.bad = 0) : isKeyB e.key = true := by
  obtain ⟨p, hp⟩ := parse_key h
  unfold isKeyB
  rw [hp]
  simp [h]

end Go.Proofs.YthklehpkfndohaaDoor

namespace Go.Proofs.YthklehpkfndohaaDoor
set_option linter.unusedVariables false
set_option linter.unusedSimpArgs false
set_option linter.unnecessarySimpa false
set_option linter.unusedSectionVars false
open Go Go.RowKit

def rowL (c : Nat) : List UInt8 := UInt8.ofNat c :: List.replicate 255 0
theorem rowL_len (c : Nat) : (rowL c).length = 256 := by unfold rowL; rw [List.length_cons, List.length_replicate]
def entL (c : Nat) : EntA := ⟨rowL c, 0, rowL c, 1, 16, 1⟩
def keyL (c : Nat) : List UInt8 := (entL c).key

theorem entL_bad (c : Nat) : (entL c).bad = 0 := by
  have h := rowL_len c
  unfold EntA.bad entL
  simp only [h]
  rw [if_neg (by omega), if_neg (by omega), if_neg (by omega), if_neg (by omega), if_neg (by omega), if_neg (by omega)]

theorem Tryd.infoByte' : (Tryd.prog.info? 5).map (fun i => (i.zero, i.size, i.bytes)) = some (some (.int .u8 0), 1, 1) := by kernel_rfl

theorem made_zeros (n : Nat) (hn : n ≤ 140737488351232) : ∃ M : Array Value, M.toList = (List.replicate n (0 : UInt8)).map byteV ∧ ∀ w : World, (Instr.makeSlice 22 (.int .i64 n) (.int .i64 n)).run Tryd.prog w = .ok (.slice (some ⟨w.heap.size, 0, none⟩) n n) (w.alloc (.cells M 5)) := by
  obtain ⟨i0, hi, hz0, hz1, hz2⟩ := info_parts Tryd.infoByte'
  refine ⟨madeCells #[.int .u8 0] n, ?_, fun w => ?_⟩
  · apply List.ext_getElem?
    intro i
    by_cases hi : i < n
    · simp [madeCells, hi, byteV, Nat.mod_one]
    · simp [madeCells, hi]
  · have h := run_make (P := Tryd.prog) w 22 5 i0 (.int .u8 0) Tryd.underlying22 hi hz0 .i64 .i64 (n : Int) (n : Int) (by omega) (by omega) (by rw [hz2]; omega) (by omega)
    rw [hz1, show (Value.int IntKind.u8 0).cells = #[.int .u8 0] from rfl] at h
    simpa using h

theorem rowL_at {w : World} {g c : Nat} {M : Array Value} (hM : M.toList = (List.replicate 256 (0 : UInt8)).map byteV) (hg : w.heap[g]? = some (.cells (M.setIfInBounds 0 (.int .u8 c)) 5 (0, 0))) (hc : c < 256) :
    BAt w (.slice (some ⟨g, 0, none⟩) (rowL c).length 256) (rowL c) := by
  have hl := rowL_len c
  refine ⟨some ⟨g, 0, none⟩, 256, rfl, by omega, by omega, (fun h => by cases h), fun j hj => ⟨g, 0, rfl, lt_of_heap hg, ?_⟩⟩
  rw [Nat.zero_add, cell_of_row w g j _ _ _ hg]
  have hms : M.size = 256 := by have := congrArg List.length hM; rw [List.length_map, List.length_replicate, Array.length_toList] at this; exact this
  cases j with
  | zero =>
    rw [Array.getElem?_setIfInBounds_self, if_pos (by omega)]
    show some (Value.int .u8 (c : Int)) = some (byteV (UInt8.ofNat c))
    unfold byteV
    rw [UInt8.toNat_ofNat']
    congr 2
    omega
  | succ j =>
    rw [Array.getElem?_setIfInBounds_ne (by omega), ← Array.getElem?_toList, hM, List.getElem?_map, List.getElem?_replicate, if_pos (by omega)]
    show some (byteV 0) = some (byteV ((List.replicate 255 (0 : UInt8))[j]'_))
    rw [List.getElem_replicate]

set_option maxRecDepth 100000 in
set_option maxHeartbeats 3200000 in
theorem longKey_any (w : World) {c : Nat} (hc : c < 256) :
    Calls Tryd.prog 12 #[.int .u8 c] w fun e w' => ∃ v, e = .returned v ∧ NewB w w' v (keyL c) := by
  obtain ⟨M, hM, hmk⟩ := made_zeros 256 (by omega)
  have hmk' : ∀ w : World, (Instr.makeSlice 22 (.int .i64 256) (.int .i64 256)).run Tryd.prog w = .ok (.slice (some ⟨w.heap.size, 0, none⟩) 256 256) (w.alloc (.cells M 5)) := hmk
  have HM := hid hM
  have hms : M.size = 256 := by have := congrArg List.length hM; rw [List.length_map, List.length_replicate, Array.length_toList] at this; exact this
  have hs0 : 0 < M.size := by omega
  clear hM hmk
  go_enter Tryd.func12, Tryd.ntmps12
  go_upto_region 3 with fail
  have r1 : ((w.alloc (.cells M 5)).alloc (.cells M 5)).heap[w.heap.size]? = some (.cells M 5 (0, 0)) := by rw [heap_alloc_past _ _ _ (by simp)]; exact heap_alloc_new w _
  have r2 := heap_alloc_new (w.alloc (.cells M 5)) (.cells M 5)
  rw [World.size_alloc] at r2
  have hu := ((Upd.refl (fun _ => False) w).alloc (.cells M 5)).alloc (.cells M 5)
  obtain ⟨g1, hg1⟩ : ∃ g, g = w.heap.size := ⟨_, rfl⟩
  obtain ⟨g2, hg2⟩ : ∃ g, g = w.heap.size + 1 := ⟨_, rfl⟩
  rw [← hg1] at r1
  rw [← hg2] at r2
  rw [← hg2, ← hg1]
  have HG := hid (And.intro hg1 hg2)
  have HR1 := hid r1; have HR2 := hid r2; have HU := hid hu
  have hne : g2 ≠ g1 := by omega
  generalize (w.alloc (.cells M 5)).alloc (.cells M 5) = W2 at HR1 HR2 HU ⊢
  have l1 := lt_of_heap HR1.out; have l2 := lt_of_heap HR2.out
  have f1 : W2.frozen? ⟨g1, 0, none⟩ = false := frozen_of_row _ _ _ _ _ HR1.out
  have f2 : W2.frozen? ⟨g2, 0, none⟩ = false := frozen_of_row _ _ _ _ _ HR2.out
  obtain ⟨m0, hm0⟩ : ∃ m, M[0]? = some m := ⟨_, Array.getElem?_eq_getElem (by omega)⟩
  have c1 : W2.cell? ⟨g1, 0, none⟩ = some m0 := by rw [cell_of_row _ g1 0 _ _ _ HR1.out]; exact hm0
  have c2 : W2.cell? ⟨g2, 0, none⟩ = some m0 := by rw [cell_of_row _ g2 0 _ _ _ HR2.out]; exact hm0
  clear r1 r2 hu hg1 hg2 hms hm0 hmk'
  go_upto_region 5 with fail
  have hu3 : Upd (fun k => k = g1 ∨ k = g2) W2 ((W2.setCell ⟨g1, 0, none⟩ (.int .u8 c)).setCell ⟨g2, 0, none⟩ (.int .u8 c)) := ((Upd.refl (fun k => k = g1 ∨ k = g2) W2).setCell (p := ⟨g1, 0, none⟩) (fun _ => .inl rfl) _).setCell (p := ⟨g2, 0, none⟩) (fun _ => .inr rfl) _
  have HU3 := hid (HU.out.trans hu3 (fun k hk e => by obtain ⟨q1, q2⟩ := HG.out; omega))
  have q1 := heap_setCell_at W2 g1 0 _ _ (.int .u8 c) HR1.out
  have q2 : (W2.setCell ⟨g1, 0, none⟩ (.int .u8 c)).heap[g2]? = some (.cells M 5 (0, 0)) := by rw [heap_setCell_ne _ _ _ _ hne]; exact HR2.out
  have q3 := heap_setCell_at (W2.setCell ⟨g1, 0, none⟩ (.int .u8 c)) g2 0 _ _ (.int .u8 c) q2
  have q4 : ((W2.setCell ⟨g1, 0, none⟩ (.int .u8 c)).setCell ⟨g2, 0, none⟩ (.int .u8 c)).heap[g1]? = some (.cells (M.setIfInBounds 0 (.int .u8 c)) 5 (0, 0)) := by rw [heap_setCell_ne _ _ _ _ (fun e => hne e.symm)]; exact q1
  have b1 := rowL_at HM.out q4 hc
  have b2 := rowL_at HM.out q3 hc
  generalize (W2.setCell ⟨g1, 0, none⟩ (.int .u8 c)).setCell ⟨g2, 0, none⟩ (.int .u8 c) = W3 at HU3 b1 b2 ⊢
  have hea : EntAt W3 (.agg #[.slice (some ⟨g1, 0, none⟩) 256 256, .int .i64 0, .slice (some ⟨g2, 0, none⟩) 256 256, .int .i64 1, .int .i64 16, .int .i64 1, .slice none 0 0]) (entL c) := by
    refine ⟨⟨some ⟨g1, 0, none⟩, 256, some ⟨g2, 0, none⟩, 256, ?_, b1, b2⟩⟩
    show _ = Value.agg #[.slice (some ⟨g1, 0, none⟩) (rowL c).length 256, .int .i64 0, .slice (some ⟨g2, 0, none⟩) (rowL c).length 256, .int .i64 1, .int .i64 16, .int .i64 1, .slice none 0 0]
    rw [rowL_len]
  have hbad : (entL c).bad = 0 := by
    exact entL_bad c
  have HK := hid (refKey2_any hea hbad)
  clear q1 q2 q3 q4 b1 b2 hea hbad hu3 f1 f2 c1 c2 hne l1 l2 hs0
  go_wp2_with fail
  refine HK.out.mono ?_
  rintro e W4 ⟨v, rfl, hn⟩
  obtain ⟨a4, k4, e4, -, -⟩ := hn.shape
  have HN := hid (show NewB w W4 v (keyL c) from ⟨hn.data, fun k e => Nat.le_trans HU3.out.size (hn.new k e), HU3.out.trans hn.upd (fun _ _ e => e)⟩)
  obtain ⟨n4, hn4⟩ : ∃ n, n = (entL c).key.length := ⟨_, rfl⟩
  rw [← hn4] at e4
  subst e4
  clear hn hn4
  go_wp2
  go_ret
  exact ⟨_, rfl, HN.out⟩

end Go.Proofs.YthklehpkfndohaaDoor

namespace Go.Proofs.YthklehpkfndohaaDoor
set_option linter.unusedVariables false
set_option linter.unusedSimpArgs false
set_option linter.unnecessarySimpa false
set_option linter.unusedSectionVars false
open Go Go.RowKit

def metaL (i : Nat) : MetaA := ⟨(i : Int) + 1, 1, 1000 - (i : Int), 0, 9, 16777216, keyL i, keyL i⟩
def runsL (n : Nat) : List MetaA := (List.range n).map metaL
def verL (n st : Nat) : VerA := ⟨1, 1000, 1000, 0, 9, List.replicate st 0, runsL n⟩

theorem keyL_key (c : Nat) : isKeyB (keyL c) = true := key_isKey (entL_bad c)
theorem leL_refl : ∀ l : List UInt8, leL l l = true
  | [] => rfl
  | a :: l => by simp only [leL, Nat.lt_irrefl, if_false]; exact leL_refl l

theorem verL_ok {n st : Nat} (hn : n ≤ 64) (hs : st ≤ 131072) : okA (verL n st) = true := by
  have hlen : (verL n st).runs.length = n := by simp [verL, runsL]
  have hget : ∀ k (hk : k < (verL n st).runs.length), (verL n st).runs[k] = metaL k := by intro k hk; simp [verL, runsL]
  unfold okA
  simp only [Bool.and_eq_true, List.all_eq_true, List.mem_range]
  refine ⟨?_, fun k hk => ?_⟩
  · unfold headA ins
    rw [hlen]
    simp [verL]
    omega
  · rw [runOkA_eq hk, hget k hk]
    rw [hlen] at hk
    have hK := keyL_key k
    simp only [Bool.and_eq_true, Bool.not_eq_true', decide_eq_false_iff_not, Bool.or_eq_true, decide_eq_true_eq]
    refine ⟨⟨?_, ?_⟩, ?_⟩
    · unfold fitsA ins
      simp only [Bool.and_eq_true, decide_eq_true_eq]
      refine ⟨⟨⟨⟨⟨?_, ?_⟩, ?_⟩, ?_⟩, ⟨⟨?_, ?_⟩, ?_⟩⟩, hK, hK, leL_refl _⟩ <;> simp [metaL, verL] <;> omega
    · intro hm
      obtain ⟨r, hr, he⟩ := List.mem_map.1 hm
      simp only [verL, runsL, ← List.map_take, List.take_range] at hr
      obtain ⟨j, hj, rfl⟩ := List.mem_map.1 hr
      rw [List.mem_range] at hj
      simp only [metaL] at he
      omega
    · by_cases h0 : k = 0
      · exact .inl h0
      · refine .inr ?_
        rw [getD_at (by rw [hlen]; omega), hget (k - 1) (by rw [hlen]; omega)]
        unfold behindA metaL
        simp
        omega

theorem verL_bad {n st : Nat} (h : 64 < n ∨ 131072 < st) : okA (verL n st) = false := by
  have hlen : (verL n st).runs.length = n := by simp [verL, runsL]
  unfold okA headA
  rw [hlen]
  rcases h with h | h
  · have : decide (n ≤ 64) = false := by simpa using h
    rw [this]; simp
  · have : decide ((verL n st).state.length ≤ 131072) = false := by simp [verL]; omega
    rw [this]; simp

theorem runsL_succ (n : Nat) : runsL (n + 1) = runsL n ++ [metaL n] := by simp [runsL, List.range_succ]
theorem runsL_len (n : Nat) : (runsL n).length = n := by simp [runsL]

end Go.Proofs.YthklehpkfndohaaDoor
