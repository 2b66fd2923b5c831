/-
  Plain law: a disk that is not armed: Create, Append, Delete, Swap, Load, one behind the other.
  stratalaw10.whole.
-/
import Derived.Test.YtgaidmohdhaonaaGreatDoorSA
import Derived.Test.YtgaidmohdhaonaaGreatDoorYU
namespace Go.Proofs.YtgaidmohdhaonaaGreatDoor
set_option linter.unusedVariables false
set_option linter.unusedSimpArgs false
set_option linter.unnecessarySimpa false
set_option linter.unusedSectionVars false
open Go Go.RowKit

/-- An unarmed disk of C bytes with these files. -/
structure Fl (C : Nat) (a : DiskA) (F : List FileA) : Prop where
  files : a.files = F
  down : a.down = false
  cap : a.cap = C
  arm : a.armed = 0

def usedL (F : List FileA) : Nat := (F.map (·.data.length)).sum

section
variable {C : Nat} {a : DiskA} {F : List FileA} {n : ByteArray}

theorem Fl.used (h : Fl C a F) : usedP a = usedL F := by unfold usedP usedL; rw [h.files]
theorem Fl.act (h : Fl C a F) (co : Option Nat) (F' : List FileA) : (actA a co F').1 = 0 ∧ Fl C (actA a co F').2 F' := by
  unfold actA
  rw [if_pos h.arm]
  exact ⟨rfl, rfl, h.down, h.cap, h.arm⟩
theorem Fl.create (h : Fl C a F) (ho : nameOk n.data.toList = true) (hf : findP F n = none) (hl : F.length < 256) : (createP a n).1 = 0 ∧ Fl C (createP a n).2 (F ++ [⟨n, [], 0⟩]) := by
  have e : createP a n = actA a none (F ++ [⟨n, [], 0⟩]) := by
    unfold createP
    rw [lookP_up h.down ho, if_neg (by simp), h.files, hf, if_neg (by simp), if_neg (by omega)]
  rw [e]
  exact h.act _ _
theorem Fl.append (h : Fl C a F) (ho : nameOk n.data.toList = true) {f : FileA} (hf : findP F n = some f) {bs : List UInt8} (hb : bs.length ≤ 67108864) (hr : bs.length ≤ C - usedL F) : (appendP a n bs).1 = 0 ∧ Fl C (appendP a n bs).2 (updA F n (fun f => { f with data := f.data ++ bs })) := by
  have e : appendP a n bs = actA a (some 6) (updA F n (fun f => { f with data := f.data ++ bs })) := by
    unfold appendP
    rw [lookP_up h.down ho, if_neg (by simp), if_neg (by omega), h.used, h.files, hf, if_neg (by simp), h.cap, if_neg (by omega)]
  rw [e]
  exact h.act _ _
theorem Fl.delete (h : Fl C a F) (ho : nameOk n.data.toList = true) {f : FileA} (hf : findP F n = some f) : (deleteP a n).1 = 0 ∧ Fl C (deleteP a n).2 (dropA F n) := by
  have e : deleteP a n = actA a (some 9) (dropA F n) := by
    unfold deleteP
    rw [lookP_up h.down ho, h.files, hf, if_neg (by simp)]
  rw [e]
  exact h.act _ _
end

section
variable {C : Nat} {a : DiskA} {F : List FileA} {pre : ByteArray} {m : Option VerA} {x : VerA}

/-- A prefix under which a manifest may stand. -/
structure PreOk (pre : ByteArray) : Prop where
  t : nameOk (pre ++ tempB).data.toList = true
  n : nameOk (pre ++ nameB).data.toList = true
  size : pre.size ≤ 32
theorem PreOk.ne (h : PreOk pre) : pre ++ tempB ≠ pre ++ nameB := by
  intro e
  have h1 := congrArg ByteArray.size e
  rw [ByteArray.size_append, ByteArray.size_append] at h1
  have h2 : tempB.size = 12 := rfl
  have h3 : nameB.size = 8 := rfl
  omega

theorem Fl.load (h : Fl C a F) (hp : PreOk pre) (hm : (findP F (pre ++ nameB)).map (·.data) = m.map encodeB) (ho : GoodM m) : (loadP a pre).1 = (m, 0) ∧ Fl C (loadP a pre).2 F := by
  obtain ⟨h1, h2, h3, h4, h5⟩ := loadP_of h.down hp.t hp.n hp.size (by rw [h.files]; exact hm) ho
  exact ⟨h1, h2.trans h.files, h3, h4.trans h.cap, h5.trans h.arm⟩

theorem Fl.swap (h : Fl C a F) (hp : PreOk pre) (hm : (findP F (pre ++ nameB)).map (·.data) = m.map encodeB) (ho : GoodM m) (hx : okA x = true) (hg : x.gen = (m.map (·.gen)).getD 0 + 1) (hno : ∀ f ∈ F, f.name ≠ pre ++ tempB) (hl : F.length < 256) :
    ((encodeB x).length ≤ C - usedL F → (swapP a pre x).1 = 0 ∧ Fl C (swapP a pre x).2 (dropA F (pre ++ nameB) ++ [⟨pre ++ nameB, encodeB x, (encodeB x).length⟩])) ∧
    (C - usedL F < (encodeB x).length → (swapP a pre x).1 = 4 ∧ Fl C (swapP a pre x).2 F) := by
  have hs := swapP_of h.down hp.t hp.n hp.size (by rw [h.files]; exact hm) ho hx hg
  obtain ⟨-, hfl⟩ := h.load hp hm ho
  have hen := encA_len hx
  have hd : dropA (loadP a pre).2.files (pre ++ tempB) = F := by rw [hfl.files]; exact dropA_same hno
  have hu : usedP { (loadP a pre).2 with files := F } = usedL F := rfl
  rw [hs]
  refine ⟨fun hr => ?_, fun hr => ?_⟩
  · have hst := stroke_of (pre := pre) (b := encodeB x) (a := (loadP a pre).2) hfl.down (by rw [hfl.arm]; decide) hp.t hp.n hp.ne (by rw [hd]; exact hl) (by omega) (by rw [hd, hu, hfl.cap]; exact hr)
    rcases hst with ⟨g1, g2, g3, g4, -, g6⟩ | ⟨g0, -⟩
    · rw [hd] at g2
      exact ⟨g1, g2, g3, g4.trans hfl.cap, g6 hfl.arm⟩
    · exact absurd hfl.arm g0
  · obtain ⟨g1, g2, g3, g4, g5⟩ := stroke_full (pre := pre) (b := encodeB x) (a := (loadP a pre).2) hfl.down hfl.arm hp.t (by rw [hd]; exact hl) (by omega) (by rw [hd, hu, hfl.cap]; exact hr)
    rw [hd] at g2
    exact ⟨g1, g2, g3, g4.trans hfl.cap, g5⟩
end

theorem Fl.new (C : Nat) : Fl C (newA C) [] := ⟨rfl, rfl, rfl, rfl⟩

abbrev yB : ByteArray := { data := #[121] }
abbrev zB : ByteArray := { data := #[122] }
abbrev yN : ByteArray := yB ++ nameB
abbrev yT : ByteArray := yB ++ tempB
theorem yB_ok : PreOk yB := ⟨by kernel_rfl, by kernel_rfl, by decide⟩
theorem zB_ok : nameOk zB.data.toList = true := by kernel_rfl
theorem zB_yN : zB ≠ yN := fun e => absurd (congrArg ByteArray.size e) (by decide +kernel)
theorem zB_yT : zB ≠ yT := fun e => absurd (congrArg ByteArray.size e) (by decide +kernel)
theorem yN_yT : yN ≠ yT := fun e => yB_ok.ne e.symm
theorem first_len : (encodeB firstA).length = 27 := by kernel_rfl
theorem first_ok : okA firstA = true := by kernel_rfl
theorem first_good : GoodM (some firstA) := by
  intro x hx
  obtain rfl : firstA = x := by simpa using hx
  exact ⟨first_ok, fun r hr => by cases hr⟩

abbrev Y1 : FileA := ⟨yN, encodeB firstA, (encodeB firstA).length⟩
def Zf (n : Nat) : FileA := ⟨zB, List.replicate n 0, 0⟩
def Y2 (x : VerA) : FileA := ⟨yN, encodeB x, (encodeB x).length⟩

theorem full1 : (swapP (newA 65536) yB firstA).1 = 0 ∧ Fl 65536 (swapP (newA 65536) yB firstA).2 [Y1] := by
  have h := ((Fl.new 65536).swap (m := none) yB_ok rfl (fun x h => by cases h) first_ok rfl (fun f hf => by cases hf) (by decide)).1 (by rw [first_len]; decide)
  simpa [dropA] using h
theorem full2 {a : DiskA} (h : Fl 65536 a [Y1]) : (createP a zB).1 = 0 ∧ Fl 65536 (createP a zB).2 [Y1, ⟨zB, [], 0⟩] :=
  h.create zB_ok (findP_none (fun f hf => by obtain rfl := List.mem_singleton.1 hf; exact fun e => zB_yN e.symm)) (by decide)
theorem full3 {a : DiskA} (h : Fl 65536 a [Y1, ⟨zB, [], 0⟩]) {n : Nat} (hn : n ≤ 65509) : (appendP a zB (List.replicate n 0)).1 = 0 ∧ Fl 65536 (appendP a zB (List.replicate n 0)).2 [Y1, Zf n] := by
  have hne : ∀ f ∈ [Y1], f.name ≠ zB := fun f hf => by obtain rfl := List.mem_singleton.1 hf; exact fun e => zB_yN e.symm
  have hf : findP [Y1, ⟨zB, [], 0⟩] zB = some ⟨zB, [], 0⟩ := findP_last (l := [Y1]) hne [] 0
  have hu : usedL [Y1, ⟨zB, [], 0⟩] = 27 := by simp [usedL, first_len]
  have h1 := h.append zB_ok hf (bs := List.replicate n 0) (by rw [List.length_replicate]; omega) (by rw [List.length_replicate, hu]; omega)
  rw [show updA [Y1, ⟨zB, [], 0⟩] zB (fun f => { f with data := f.data ++ List.replicate n 0 }) = [Y1, Zf n] from by
    rw [show ([Y1, ⟨zB, [], 0⟩] : List FileA) = [Y1] ++ [⟨zB, [], 0⟩] from rfl, updA_last hne]
    rfl] at h1
  exact h1
theorem full_find {n : Nat} : (findP [Y1, Zf n] yN).map (·.data) = (some firstA).map encodeB := by
  unfold findP
  rw [List.find?_cons_of_pos (by rw [beq_bytes]; simp)]
  rfl
theorem full_used {n : Nat} (h : n ≤ 65509) : 65536 - usedL [Y1, Zf n] = 65509 - n := by simp [usedL, first_len, Zf]; omega
theorem full_no {n : Nat} : ∀ f ∈ [Y1, Zf n], f.name ≠ yT := by
  intro f hf
  rcases List.mem_cons.1 hf with rfl | hf
  · exact yN_yT
  · obtain rfl := List.mem_singleton.1 hf
    exact zB_yT
theorem full4 {a : DiskA} {n : Nat} (h : Fl 65536 a [Y1, Zf n]) (hn : n ≤ 65509) {x : VerA} (hx : okA x = true) (hg : x.gen = 2) :
    ((encodeB x).length ≤ 65509 - n → (swapP a yB x).1 = 0 ∧ Fl 65536 (swapP a yB x).2 [Zf n, Y2 x]) ∧ (65509 - n < (encodeB x).length → (swapP a yB x).1 = 4 ∧ Fl 65536 (swapP a yB x).2 [Y1, Zf n]) := by
  have h1 := h.swap (m := some firstA) (x := x) yB_ok full_find first_good hx (by rw [hg]; rfl) full_no (by simp)
  rw [full_used hn] at h1
  refine ⟨fun e => ?_, h1.2⟩
  have h2 := h1.1 e
  rw [show dropA [Y1, Zf n] (yB ++ nameB) = [Zf n] from by simp [dropA, Zf, zB_yN]] at h2
  exact h2
theorem full_find2 {n : Nat} (x : VerA) : (findP [Zf n, Y2 x] yN).map (·.data) = (some x).map encodeB := by
  have h : findP ([Zf n] ++ [⟨yN, encodeB x, (encodeB x).length⟩]) yN = some ⟨yN, encodeB x, (encodeB x).length⟩ := findP_last (fun f hf => by obtain rfl := List.mem_singleton.1 hf; exact zB_yN) _ _
  show (findP ([Zf n] ++ [⟨yN, encodeB x, (encodeB x).length⟩]) yN).map (·.data) = _
  rw [h]; rfl
theorem full5 {a : DiskA} {n : Nat} (h : Fl 65536 a [Y1, Zf n]) : (deleteP a zB).1 = 0 ∧ Fl 65536 (deleteP a zB).2 [Y1] := by
  have hne : ∀ f ∈ [Y1], f.name ≠ zB := fun f hf => by obtain rfl := List.mem_singleton.1 hf; exact fun e => zB_yN e.symm
  have hf : findP ([Y1] ++ [⟨zB, List.replicate n 0, 0⟩]) zB = some ⟨zB, List.replicate n 0, 0⟩ := findP_last hne _ _
  have h1 := h.delete zB_ok (f := Zf n) hf
  rw [show dropA [Y1, Zf n] zB = [Y1] from dropA_last (l := [Y1]) hne (List.replicate n 0) 0] at h1
  exact h1
theorem full6 {a : DiskA} (h : Fl 65536 a [Y1]) {x : VerA} (hx : okA x = true) (hg : x.gen = 2) (hl : (encodeB x).length ≤ 60000) : (swapP a yB x).1 = 0 ∧ Fl 65536 (swapP a yB x).2 [Y2 x] := by
  have h1 := (h.swap (m := some firstA) (x := x) yB_ok (by unfold findP; rw [List.find?_cons_of_pos (by rw [beq_bytes]; simp)]; rfl) first_good hx (by rw [hg]; rfl) (fun f hf => by obtain rfl := List.mem_singleton.1 hf; exact yN_yT) (by decide)).1 (by simp [usedL, first_len]; omega)
  rw [show dropA [Y1] (yB ++ nameB) = [] from by simp [dropA]] at h1
  exact h1
theorem full_find3 (x : VerA) : (findP [Y2 x] yN).map (·.data) = (some x).map encodeB := by
  unfold findP
  rw [List.find?_cons_of_pos (by rw [beq_bytes]; simp [Y2])]
  rfl

end Go.Proofs.YtgaidmohdhaonaaGreatDoor

namespace Go.Proofs.YtgaidmohdhaonaaGreatDoor
set_option linter.unusedVariables false
set_option linter.unusedSimpArgs false
set_option linter.unnecessarySimpa false
set_option linter.unusedSectionVars false
open Go Go.RowKit

set_option maxRecDepth 100000 in
/-- A number from lo to hi made of any. -/
theorem whole_any (n lo hi : Int) (h1 : lo ≤ hi) (h0 : 0 ≤ lo) (h2 : hi ≤ 1099511627776) (w : World) :
    Calls Tryz.prog 26 #[.int .i64 n, .int .i64 lo, .int .i64 hi] w fun e w' => e = .returned (.int .i64 (lo + n % (hi - lo + 1))) ∧ w' = w := by
  obtain ⟨N, hN⟩ : ∃ N, N = hi - lo + 1 := ⟨_, rfl⟩
  have hN1 : 1 ≤ N := by omega
  have hb1 : -N < n.tmod N := Int.lt_tmod_of_pos n (by omega)
  have hb2 : n.tmod N < N := Int.tmod_lt_of_pos n (by omega)
  have hq := Int.mul_tdiv_add_tmod n N
  obtain ⟨r, hr⟩ : ∃ r, r = n.tmod N := ⟨_, rfl⟩
  rw [← hr] at hb1 hb2 hq
  have hem : n % N = if r < 0 then r + N else r := by
    have e1 : n = r + n.tdiv N * N := by rw [Int.mul_comm]; omega
    have e2 : n % N = r % N := by conv => lhs; rw [e1]
                                  exact Int.add_mul_emod_self_right ..
    rw [e2]
    split
    · rw [← Int.add_emod_right, Int.emod_eq_of_lt (by omega) (by omega)]
    · exact Int.emod_eq_of_lt (by omega) (by omega)
  rw [← hN, hem]
  have hr' : n.tmod N = r := hr.symm
  have hz : ¬ N = 0 := by omega
  have hNi : hi - lo + 1 = N := hN.symm
  clear hN hr hq hem
  by_cases hneg : r < 0
  · rw [if_pos hneg]
    have HF : Hid (lo + (r + N) = lo + (r + hi - lo + 1)) := hid (by omega)
    go_enter Tryz.func26, Tryz.ntmps26
    go_wp2
    go_ret
    exact ⟨by rw [HF.out]; rfl, rfl⟩
  · rw [if_neg hneg]
    go_enter Tryz.func26, Tryz.ntmps26
    go_wp2
    go_ret
    exact ⟨rfl, rfl⟩

end Go.Proofs.YtgaidmohdhaonaaGreatDoor
