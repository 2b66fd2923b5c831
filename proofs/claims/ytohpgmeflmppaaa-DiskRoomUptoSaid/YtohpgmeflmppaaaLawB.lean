/-
  Package stratalaw4, walked: same, begins, find, made.
-/
import Derived.Test.YtohpgmeflmppaaaLawA
import Derived.Laws.ResultCell
import Derived.Handy
namespace Go.Proofs.Ytohpgmeflmppaaa
set_option linter.unusedVariables false
set_option linter.unusedSimpArgs false
set_option linter.unnecessarySimpa false
set_option linter.unusedSectionVars false
open Go Go.RowKit

theorem beq_toBA (a b : List UInt8) : ((toBA a).toList == (toBA b).toList) = decide (a = b) := by
  rw [beq_toList]
  congr 1
  apply propext
  constructor
  · intro h
    have := congrArg (fun x : ByteArray => x.data.toList) h
    simpa [toBA] using this
  · rintro rfl; rfl

set_option maxRecDepth 100000 in
theorem same_any {w : World} {a b : Value} {xs bs : List UInt8} (ha : BytesAt w a xs) (hb : BytesAt w b bs) :
    Calls Try.prog 27 #[a, b] w fun e w' => e = .returned (.bool (decide (xs = bs))) ∧ w' = w := by
  have h1 := run_string_of ha
  have h2 := run_string_of hb
  have hq := beq_toBA xs bs
  obtain ⟨ao, ca, rfl, -, -⟩ := ha
  obtain ⟨bo, cb, rfl, -, -⟩ := hb
  go_enter Try.func27, Try.ntmps27
  go_wp2
  go_ret
  exact ⟨rfl, rfl⟩

theorem BytesAt.take {w : World} {bo : Option Addr} {cap : Nat} {bs : List UInt8} (h : BytesAt w (.slice bo bs.length cap) bs) {n : Nat} (hn : n ≤ bs.length) (c : Nat) (hc : bo = none → c = 0) :
    BytesAt w (.slice bo n c) (bs.take n) := by
  obtain ⟨ao, cp, he, h1, h2⟩ := h
  injection he with e1 e2 e3
  subst e1 e3
  refine ⟨bo, c, by simp [Nat.min_eq_left hn], fun h => ?_, fun a ha j u hu => h2 a ha j u ?_⟩
  · obtain ⟨rfl, rfl⟩ := h1 h
    exact ⟨by simp, hc h⟩
  · rw [List.map_take, List.getElem?_take] at hu
    split at hu
    · exact hu
    · cases hu

set_option maxRecDepth 100000 in
theorem begins_any {w : World} {a b : Value} {xs bs : List UInt8} (ha : BytesAt w a xs) (hb : BytesAt w b bs) (hcap : ∀ o l c, b = .slice o l c → l ≤ c) :
    Calls Try.prog 22 #[a, b] w fun e w' => e = .returned (.bool (decide (xs = bs.take xs.length))) ∧ w' = w := by
  have HA := hid ha
  have HB := hid hb
  obtain ⟨ao, ca, rfl, -, -⟩ := ha
  obtain ⟨bo, cb, rfl, hbn, hbc⟩ := hb
  have hbcap := hcap _ _ _ rfl
  clear hcap
  by_cases hl : xs.length ≤ bs.length
  · have hc : xs.length ≤ cb := Nat.le_trans hl hbcap
    cases bo with
    | none =>
      obtain ⟨rfl, rfl⟩ := hbn rfl
      have hz : xs.length = 0 := by simpa using hl
      obtain rfl : xs = [] := by simpa using hz
      have H2 := hid (same_any HA.out HB.out)
      clear hbn hbc hl hc hbcap hz
      go_enter Try.func22, Try.ntmps22
      go_wp2_with (go_at_call 27; refine H2.out.mono ?_; rintro e w' ⟨rfl, rfl⟩)
      go_ret
      exact ⟨rfl, rfl⟩
    | some x =>
      have H2 := hid (same_any HA.out (BytesAt.take HB.out hl cb (fun h => by cases h)))
      have hl' : (xs.length : Int) ≤ (bs.length : Int) := by omega
      clear hbn hbc
      obtain ⟨xb, xo, xp⟩ := x
      go_enter Try.func22, Try.ntmps22
      go_wp2_with (go_at_call 27; refine H2.out.mono ?_; rintro e w' ⟨rfl, rfl⟩)
      go_ret
      exact ⟨rfl, rfl⟩
  · have hl' : ¬ (xs.length : Int) ≤ (bs.length : Int) := by omega
    have hne : decide (xs = bs.take xs.length) = false := by
      simp only [decide_eq_false_iff_not]
      intro h
      have := congrArg List.length h
      simp at this
      omega
    rw [hne]
    clear hbn hbc HA HB
    go_enter Try.func22, Try.ntmps22
    go_wp2
    go_ret
    exact ⟨rfl, rfl⟩

theorem flat_cells : ∀ (l : List FV) (k : Nat) (hk : k < l.length), (l.flatMap FV.cells)[k * 3]? = some (.string l[k].name) ∧ (l.flatMap FV.cells)[k * 3 + 1]? = some l[k].dv ∧ (l.flatMap FV.cells)[k * 3 + 2]? = some (.int .i64 l[k].synced)
  | f :: l, 0, _ => by simp [FV.cells]
  | f :: l, k + 1, hk => by
    have ih := flat_cells l k (by simpa using hk)
    have e1 : (k + 1) * 3 = k * 3 + 1 + 1 + 1 := by omega
    have e2 : (k + 1) * 3 + 1 = k * 3 + 1 + 1 + 1 + 1 := by omega
    have e3 : (k + 1) * 3 + 2 = k * 3 + 2 + 1 + 1 + 1 := by omega
    rw [e1, show k * 3 + 1 + 1 + 1 + 2 = k * 3 + 2 + 1 + 1 + 1 from by omega]
    simpa [FV.cells] using ih

theorem FilesAt.shape {w : World} {base : Nat} {v : Value} {l : List FV} (h : FilesAt w base v l) : ∃ ao cap, v = .slice ao l.length cap ∧ l.length ≤ cap ∧ cap ≤ maxLen ∧
    ∀ k (hk : k < l.length), ∃ g, ao = some ⟨g, 0, none⟩ ∧ base ≤ g ∧ g < w.heap.size ∧ w.cell? ⟨g, k * 3, none⟩ = some (.string l[k].name) ∧ w.cell? ⟨g, k * 3 + 1, none⟩ = some l[k].dv ∧ w.cell? ⟨g, k * 3 + 2, none⟩ = some (.int .i64 l[k].synced) := by
  obtain ⟨hl, h⟩ := h.row
  rcases h with ⟨rfl, h0⟩ | ⟨g, cap, cur, rfl, hb, hg, h2, h3, h4, h5⟩
  · exact ⟨none, 0, by rw [h0], by omega, by simp, fun k hk => absurd hk (by omega)⟩
  · refine ⟨some ⟨g, 0, none⟩, cap, rfl, h2, h3, fun k hk => ⟨g, rfl, hb, lt_of_heap hg, ?_⟩⟩
    obtain ⟨q0, q1, q2⟩ := flat_cells l k hk
    rw [← h5, List.getElem?_take, if_pos (by omega)] at q0 q1 q2
    refine ⟨?_, ?_, ?_⟩
    · rw [cell_of_row w g _ cur _ _ hg, ← Array.getElem?_toList]; exact q0
    · rw [cell_of_row w g _ cur _ _ hg, ← Array.getElem?_toList]; exact q1
    · rw [cell_of_row w g _ cur _ _ hg, ← Array.getElem?_toList]; exact q2

/-- What find tells. -/
def findRes (l : List FV) (n : ByteArray) : Value × Bool :=
  match l.find? (fun f => f.name == n) with
  | some f => (.agg #[.string f.name, f.dv, .int .i64 f.synced], true)
  | none => (.agg #[.string ⟨#[]⟩, .slice none 0 0, .int .i64 0], false)

theorem find_take_none {l : List FV} {n : ByteArray} {k : Nat} (hk : k < l.length) (h : ∀ j (hj : j < l.length), j < k → l[j].name ≠ n) (hn : l[k].name = n) : l.find? (fun f => f.name == n) = some l[k] := by
  rw [List.find?_eq_some_iff_getElem]
  refine ⟨by simp [hn, beq_bytes], k, hk, rfl, fun j hj => ?_⟩
  have := h j (by omega) hj
  simpa [beq_bytes] using this

set_option maxRecDepth 100000 in
set_option maxHeartbeats 1600000 in
theorem find_any {w : World} {base : Nat} {v : Value} {l : List FV} (h : FilesAt w base v l) (n : ByteArray) :
    Calls Try.prog 21 #[v, .string n] w fun e w' => e = .returned (.tuple #[(findRes l n).1, .bool (findRes l n).2]) ∧ Upd (fun _ => False) w w' := by
  obtain ⟨ao, cap, rfl, hc1, hc2, hcells⟩ := h.shape
  have HC := hid hcells
  have hdvs : ∀ k (hk : k < l.length), ∃ ao c, l[k].dv = .slice ao l[k].data.length c := fun k hk => by
    obtain ⟨ao, c, hh, -⟩ := (h.data l[k] (List.getElem_mem hk)).shape
    exact ⟨ao, c, hh⟩
  have HDV := hid hdvs
  have hm : l.length ≤ 9223372036854775807 := Nat.le_trans hc1 (by simpa [maxLen] using hc2)
  clear hcells hdvs h
  go_enter Try.func21, Try.ntmps21
  go_wp2
  go_loopw [6] (fun i wr => ∃ k : Nat, k ≤ l.length ∧ i = .int .i64 k ∧ (∀ j (hj : j < l.length), j < k → l[j].name ≠ n) ∧ Upd (fun _ => False) w wr ∧ wr.heap.size = w.heap.size + 1 ∧ wr.heap[w.heap.size]? = some (.cells #[.string ⟨#[]⟩, .slice none 0 0, .int .i64 0] 44 (0, 0)))
    (fun i _ => l.length - (intOf i).toNat)
  case atStart => exact ⟨0, Nat.zero_le _, rfl, by simp, (Upd.refl _ _).alloc _, by simp, heap_alloc_new _ _⟩
  case round =>
    obtain ⟨k, hk, rfl, hno, hup, hsz, hbox⟩ := hrel
    have HUP := hid hup; have HNO := hid hno
    have f0 := frozen_of_row wr w.heap.size 0 _ _ hbox
    have f1 := frozen_of_row wr w.heap.size 1 _ _ hbox
    have f2 := frozen_of_row wr w.heap.size 2 _ _ hbox
    have c0 : wr.cell? ⟨w.heap.size, 0, none⟩ = some (.string ⟨#[]⟩) := cell_of_row wr w.heap.size 0 _ _ _ hbox
    have c1 : wr.cell? ⟨w.heap.size, 1, none⟩ = some (.slice none 0 0) := cell_of_row wr w.heap.size 1 _ _ _ hbox
    have c2 : wr.cell? ⟨w.heap.size, 2, none⟩ = some (.int .i64 0) := cell_of_row wr w.heap.size 2 _ _ _ hbox
    have HB := hid hbox
    clear hup hno hbox
    by_cases hlt : k < l.length
    · obtain ⟨g, rfl, hg1, hg2, hg3, hg4, hg5⟩ := HC.out k hlt
      obtain ⟨x, hx⟩ : ∃ x, x = l[k].name := ⟨_, rfl⟩
      have hq := beq_toList x n
      have d0 : wr.cell? ⟨g, k * 3, none⟩ = some (.string x) := by rw [World.cell?_of_block (w := w) (HUP.out.block g hg2 (fun h => h)), hg3, hx]
      have d1 : wr.cell? ⟨g, k * 3 + 1, none⟩ = some l[k].dv := by rw [World.cell?_of_block (w := w) (HUP.out.block g hg2 (fun h => h)), hg4]
      have d2 : wr.cell? ⟨g, k * 3 + 2, none⟩ = some (.int .i64 l[k].synced) := by rw [World.cell?_of_block (w := w) (HUP.out.block g hg2 (fun h => h)), hg5]
      have HX := hid hx
      obtain ⟨ad, cd, hdv⟩ := HDV.out k hlt
      rw [hdv] at d1
      have HD := hid hdv
      clear hdv
      clear hg3 hg4 hg5
      by_cases hxn : x = n
      · have hfr := find_take_none hlt HNO.out (hx ▸ hxn)
        have hq' : (x.toList == n.toList) = true := by rw [hq]; simpa using hxn
        have HF := hid hfr; have HXE := hid hxn
        clear hq hx hfr hxn
        go_wp2
        (try simp only [Exit.inBlock, Exit.then])
        refine bodyPost_ret (v := .tuple #[.agg #[.string n, .slice ad l[k].data.length cd, .int .i64 l[k].synced], .bool true]) ?_ rfl ?_
        · rw [results_cell_tmp rfl]
          go_simp
          try exact HXE.out
        unfold findRes
        rw [HF.out]
        refine ⟨?_, ?_⟩
        · simp only []
          rw [HD.out, ← HX.out, HXE.out]
        · exact ((HUP.out.setCell (fun h => absurd h (by simp)) _).setCell (fun h => absurd h (by simp)) _).setCell (fun h => absurd h (by simp)) _
      · have hq' : (x.toList == n.toList) = false := by rw [hq]; simpa using hxn
        have HXN := hid hxn
        clear hq hx hxn
        go_wp2_with fail
        go_roundw
        case rel => 
          refine ⟨k + 1, by omega, by go_num, fun j hj hjk => ?_, HUP.out, hsz, HB.out⟩
          by_cases hjk' : j < k
          · exact HNO.out j hj hjk'
          · obtain rfl : j = k := by omega
            exact HX.out ▸ HXN.out
        case measure => simp [intOf]; omega
    · obtain rfl : k = l.length := by omega
      have hfin : l.find? (fun f => f.name == n) = none := by
        rw [List.find?_eq_none]
        intro f hf
        obtain ⟨j, hj, rfl⟩ := List.getElem_of_mem hf
        have := HNO.out j hj hj
        simpa [beq_bytes] using this
      have HF := hid hfin
      clear hfin
      go_wp2
      (try simp only [Exit.inBlock, Exit.then])
      refine bodyPost_ret (v := .tuple #[.agg #[.string ⟨#[]⟩, .slice none 0 0, .int .i64 0], .bool false]) ?_ rfl ?_
      · rw [results_cell_tmp rfl]
        go_simp
      unfold findRes
      rw [HF.out]
      refine ⟨rfl, ?_⟩
      exact ((HUP.out.setCell (fun h => absurd h (by simp)) _).setCell (fun h => absurd h (by simp)) _).setCell (fun h => absurd h (by simp)) _

def probe : ByteArray := ⟨#[112, 114, 111, 98, 101]⟩
theorem probe_ok : nameOk probe.data.toList = true := by decide

theorem fileAt_nil {s : DS} (h : s.abs.files = []) (n : ByteArray) : s.recs = [] ∧ s.fileAt n = none := by
  have : s.recs = [] := by simpa [DS.abs] using h
  exact ⟨this, by simp [DS.fileAt, this]⟩

theorem fileAt_one {s : DS} {f : FileA} (h : s.abs.files = [f]) : ∃ r, s.recs = [r] ∧ r.abs = f ∧ s.fileAt f.name = some r := by
  have h' : s.recs.map FRec.abs = [f] := h
  obtain ⟨r, hr, hf⟩ : ∃ r, s.recs = [r] ∧ r.abs = f := by
    cases hs : s.recs with
    | nil => rw [hs] at h'; simp at h'
    | cons r t =>
      rw [hs] at h'
      simp only [List.map_cons, List.cons.injEq, List.map_eq_nil_iff] at h'
      exact ⟨r, by rw [h'.2], h'.1⟩
  refine ⟨r, hr, hf, ?_⟩
  have : r.name = f.name := by rw [← hf]; rfl
  simp [DS.fileAt, hr, this, beq_bytes]

/-- What a new disk is behind 'made'. -/
def Fresh (w w' : World) (n : Nat) (s : DS) : Prop := s.In w' ∧ s.cap = n ∧ s.recs = [] ∧ s.down = false ∧ s.armed = 0 ∧ (∀ k ∈ s.blocks, w.heap.size ≤ k) ∧ Upd (fun _ => False) w w'

set_option maxRecDepth 100000 in
set_option maxHeartbeats 3200000 in
theorem made_any (w : World) (n : Nat) (h1 : 1 ≤ n) (h2 : n ≤ 67108864) :
    Calls Try.prog 10 #[.int .i64 n] w fun e w' => ∃ s : DS, e = .returned (.pointer (some ⟨s.p, 0, none⟩)) ∧ Fresh w w' n s := by
  go_enter Try.func10, Try.ntmps10
  go_wp2_with fail
  refine (new_yes w n h2).mono ?_
  rintro e w1 ⟨s1, rfl, hin1, ha1, hb1, hu1⟩
  have HIN1 := hid hin1; have HB1 := hid hb1; have HU1 := hid hu1
  have q1 : s1.down = false ∧ s1.armed = 0 ∧ s1.abs.files = [] ∧ s1.cap = n := by
    have e1 := congrArg DiskA.down ha1; have e2 := congrArg DiskA.armed ha1; have e3 := congrArg DiskA.files ha1; have e4 := congrArg DiskA.cap ha1
    exact ⟨e1, e2, e3, e4⟩
  obtain ⟨d1, a1, f1, cp1⟩ := q1
  obtain ⟨r1, ft1⟩ := fileAt_nil f1 probe
  have hcr : createA s1 probe = (0, { s1.abs with files := [⟨probe, [], 0⟩], cnt := bump s1.abs.cnt none }) := by
    unfold createA
    rw [d1, ft1, probe_ok, r1]
    simp only [lookRes, actA, DS.abs, a1, r1]
    simp
  have hcr1 : (createA s1 probe).1 = 0 := by rw [hcr]
  have HCR := hid hcr; have HCR1 := hid hcr1
  have HD1 := hid d1; have HA1 := hid a1; have HCP1 := hid cp1
  clear hin1 ha1 hb1 hu1 d1 a1 f1 r1 ft1 hcr hcr1 cp1
  go_wp2_with (go_at_call 13; refine (num_any _ _).mono ?_; rintro e w' ⟨rfl, hww⟩; obtain rfl := hww.symm)
  refine (create_any HIN1.out probe).mono ?_
  rintro e w2 ⟨rfl, s2, hst2, habs2⟩
  rw [HCR1.out]
  rw [HCR.out] at habs2
  have q2 : s2.down = false ∧ s2.armed = 0 ∧ s2.abs.files = [⟨probe, [], 0⟩] ∧ s2.cap = n := by
    have e1 := congrArg DiskA.down habs2; have e2 := congrArg DiskA.armed habs2; have e3 := congrArg DiskA.files habs2; have e4 := congrArg DiskA.cap habs2
    exact ⟨e1.trans HD1.out, e2.trans HA1.out, e3, e4.trans HCP1.out⟩
  obtain ⟨d2, a2, f2, cp2⟩ := q2
  obtain ⟨r2, hr2, hra2, ft2⟩ := fileAt_one f2
  have hlen2 : r2.data = [] := congrArg FileA.data hra2
  have hap : appendA s2 probe [5] = (0, { s2.abs with files := [⟨probe, [5], 0⟩], cnt := bump s2.abs.cnt (some 6) }) := by
    unfold appendA
    rw [d2, ft2, probe_ok]
    simp only [lookRes, actA, DS.abs, a2, DS.used, usedOf, hr2, cp2]
    have hn0 : ¬ n = 0 := by omega
    simp [hlen2, updA, hra2, hn0]
  have HAP := hid hap; have HAP1 := hid (show (appendA s2 probe [5]).1 = 0 by rw [hap])
  have HST2 := hid hst2; have HD2 := hid d2; have HA2 := hid a2; have HCP2 := hid cp2
  have hu3 : Upd (fun _ => False) w2 (w2.alloc (.cells #[.int .u8 5] 5)) := (Upd.refl _ _).alloc _
  have HST3 := hid (Step.of_upd hst2.ins hu3)
  have hby : BytesAt (w2.alloc (.cells #[.int .u8 5] 5)) (.slice (some ⟨w2.heap.size, 0, none⟩) 1 1) [5] := by
    refine ⟨some ⟨w2.heap.size, 0, none⟩, 1, rfl, (fun h => by cases h), fun a ha j u hu => ?_⟩
    cases ha
    match j, hu with
    | 0, hu => simp at hu; subst hu; simp [Addr.add, byteV]
  have HBY := hid hby
  have hne : ∀ (a : Addr) (l c : Nat), Value.slice (some ⟨w2.heap.size, 0, none⟩) 1 1 = Value.slice (some a) l c → 0 < l → a.block ≠ s2.p ∧ a.block < (w2.alloc (.cells #[.int .u8 5] 5)).heap.size := by
    intro a l c h _
    injection h with h _ _
    injection h with h
    subst h
    exact ⟨fun e => by have := hst2.ins.plt; simp only at e; omega, by simp⟩
  have HNE := hid hne
  have hp2 : s2.p = s1.p := hst2.p
  have HP2 := hid hp2
  clear hst2 habs2 d2 a2 f2 cp2 hr2 hra2 ft2 hlen2 hap hu3 hby hne hp2
  go_wp2_with (go_at_call 13; refine (num_any _ _).mono ?_; rintro e w' ⟨rfl, hww⟩; obtain rfl := hww.symm)
  rw [← HP2.out]
  refine (append_any HST3.out.ins probe HBY.out HNE.out).mono ?_
  rintro e w3 ⟨rfl, s3, hst3, habs3⟩
  rw [HAP1.out]
  rw [HAP.out] at habs3
  have q3 : s3.down = false ∧ s3.armed = 0 ∧ s3.abs.files = [⟨probe, [5], 0⟩] ∧ s3.cap = n := by
    have e1 := congrArg DiskA.down habs3; have e2 := congrArg DiskA.armed habs3; have e3 := congrArg DiskA.files habs3; have e4 := congrArg DiskA.cap habs3
    exact ⟨e1.trans HD2.out, e2.trans HA2.out, e3, e4.trans HCP2.out⟩
  obtain ⟨d3, a3, f3, cp3⟩ := q3
  obtain ⟨r3, hr3, hra3, ft3⟩ := fileAt_one f3
  have hd3 : r3.data = [5] := congrArg FileA.data hra3
  have hn3 : r3.name = probe := congrArg FileA.name hra3
  have hus3 : ((s3.cap - s3.used : Nat) : Int) = (n : Int) - 1 := by simp [DS.used, usedOf, hr3, hd3, cp3]; omega
  have hde : deleteA s3 probe = (0, { s3.abs with files := [], cnt := bump s3.abs.cnt (some 9) }) := by
    unfold deleteA
    rw [d3, ft3, probe_ok]
    simp only [lookRes, actA, DS.abs, a3, dropA, hr3]
    simp [hn3, FRec.abs]
  have HDE := hid hde; have HDE1 := hid (show (deleteA s3 probe).1 = 0 by rw [hde])
  have HST4 := hid (HST2.out.trans (HST3.out.trans hst3)); have HD3 := hid d3; have HA3 := hid a3; have HCP3 := hid cp3; have HUS := hid hus3
  have HIN3 := hid hst3.ins; have HP3 := hid hst3.p
  clear hst3 habs3 d3 a3 f3 cp3 hr3 hra3 ft3 hd3 hn3 hus3 hde
  go_wp2_with (go_at_call 13; refine (num_any _ _).mono ?_; rintro e w' ⟨rfl, hww⟩; obtain rfl := hww.symm)
  rw [← HP3.out]
  refine (free_any HIN3.out).mono ?_
  rintro e w4 ⟨rfl, k, rfl⟩
  rw [HUS.out]
  have hin4 : s3.In (w3.drewN k) := HIN3.out.upd ((Upd.refl (fun _ => False) _).drewN _) (fun _ _ h => h)
  have HIN4 := hid hin4
  have HST5 := hid (HST4.out.trans (Step.of_upd HIN3.out ((Upd.refl (fun _ => False) _).drewN k)))
  clear hin4
  go_wp2_with (go_at_call 13; refine (num_any _ _).mono ?_; rintro e w' ⟨rfl, hww⟩; obtain rfl := hww.symm)
  refine (delete_any HIN4.out probe).mono ?_
  rintro e w5 ⟨rfl, s5, hst5, habs5⟩
  rw [show (deleteA s3 probe).1 = 0 from HDE1.out]
  rw [HDE.out] at habs5
  have q5 : s5.down = false ∧ s5.armed = 0 ∧ s5.abs.files = [] ∧ s5.cap = n := by
    have e1 := congrArg DiskA.down habs5; have e2 := congrArg DiskA.armed habs5; have e3 := congrArg DiskA.files habs5; have e4 := congrArg DiskA.cap habs5
    exact ⟨e1.trans HD3.out, e2.trans HA3.out, e3, e4.trans HCP3.out⟩
  obtain ⟨d5, a5, f5, cp5⟩ := q5
  obtain ⟨r5, -⟩ := fileAt_nil f5 probe
  have hall := HST5.out.trans hst5
  have hfr : Fresh w w5 n s5 := by
    refine ⟨hall.ins, cp5, r5, d5, a5, fun k hk => ?_, HU1.out.trans hall.upd (fun k hk hm => by have := HB1.out k hm; omega)⟩
    rcases hall.foot k hk with h | h
    · exact HB1.out k h
    · exact Nat.le_trans HU1.out.size h
  have HFR := hid hfr
  have hp5 := hall.p
  have HP5 := hid (show s5.p = s3.p from hst5.p)
  clear hst5 habs5 d5 a5 f5 cp5 r5 hall hfr hp5
  go_wp2_with (go_at_call 13; refine (num_any _ _).mono ?_; rintro e w' ⟨rfl, hww⟩; obtain rfl := hww.symm)
  go_ret
  exact ⟨s5, by rw [HP5.out]; rfl, HFR.out⟩

end Go.Proofs.Ytohpgmeflmppaaa
