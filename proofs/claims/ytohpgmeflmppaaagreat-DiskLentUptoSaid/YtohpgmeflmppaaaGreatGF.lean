/-
  Package stratalaw4, walked: num, name, act, made.
  Package stratalaw4, walked: same, begins, find, made.
  What a Crash leaves, file by file (plain lists; no program in sight); a disk of the law's own; a list of acts that came in.
-/
import Derived.Test.YtohpgmeflmppaaaGreatGE
import Derived.Deep.RegionHeld3
import Derived.Laws.ResultCell
import Derived.Handy
namespace Go.Proofs.YtohpgmeflmppaaaGreat
set_option linter.unusedVariables false
set_option linter.unusedSimpArgs false
set_option linter.unnecessarySimpa false
set_option linter.unusedSectionVars false
open Go Go.RowKit

/-- 'string(b)'. -/
theorem run_string_of {w : World} {v : Value} {bs : List UInt8} (h : BytesAt w v bs) : (convert 38 9 v).run Tryz.prog w = .ok (.string (toBA bs)) w := by
  obtain ⟨ao, cap, rfl, hn, hs⟩ := h
  cases ao with
  | none =>
    obtain ⟨rfl, rfl⟩ := hn rfl
    exact run_convert_bytes_nil w 38 5 Tryz.underlying38 Tryz.underlying5 _ _ 9 Tryz.underlying9
  | some a =>
    exact run_convert_bytes_back w 38 9 5 a cap bs Tryz.underlying38 Tryz.underlying5 Tryz.underlying9 (fun j hj => hs a rfl j _ (by rw [List.getElem?_map, List.getElem?_eq_getElem hj]; rfl))

theorem one_byte (w : World) (b : UInt8) : (convert 38 9 (.slice (some ⟨w.heap.size, 0, none⟩) 1 1)).run Tryz.prog (w.alloc (.cells #[byteV b] 5)) = .ok (.string (toBA [b])) (w.alloc (.cells #[byteV b] 5)) := by
  refine run_string_of (bs := [b]) ⟨some ⟨w.heap.size, 0, none⟩, 1, rfl, (fun h => by cases h), fun a ha j u hu => ?_⟩
  cases ha
  match j, hu with
  | 0, hu => simp at hu; subst hu; simp [Addr.add]

/-- The name of the file of a number. -/
def fileName (n : Int) : ByteArray := toBA [102, 47, UInt8.ofNat (97 + (n % 8).toNat)]

theorem num_any (n : Int) (w : World) : Calls Tryz.prog 9 #[.int .i64 n] w fun e w' => e = .returned (.int .i64 n) ∧ w' = w := by
  go_enter Tryz.func9, Tryz.ntmps9
  go_wp2
  go_ret
  exact ⟨rfl, rfl⟩

/-- One act, as it was handed in. -/
structure DidA where
  kind : Int
  file : Int
  to : Int
  b : List UInt8
  bv : Value

def DidA.cells (x : DidA) : Array Value := #[.int .i64 x.kind, .int .i64 x.file, .int .i64 x.to, x.bv]

/-- What it makes of a disk. -/
def didA (s : DS) (x : DidA) : Int × DiskA :=
  if x.kind = 1 then createA s (fileName x.file)
  else if x.kind = 2 then appendA s (fileName x.file) x.b
  else if x.kind = 3 then syncA s (fileName x.file)
  else if x.kind = 4 then renameA s (fileName x.file) (fileName x.to)
  else if x.kind = 5 then deleteA s (fileName x.file)
  else (0, s.abs)

/-- Its bytes can be read, and lie elsewhere than the disk. -/
structure DidA.Ok (w : World) (s : DS) (x : DidA) : Prop where
  bytes : BytesAt w x.bv x.b
  away : ∀ a l c, x.bv = .slice (some a) l c → 0 < l → a.block ∉ s.blocks ∧ a.block < w.heap.size

theorem BytesAt.upd {S : Nat → Prop} {w w' : World} {v : Value} {bs : List UInt8} (h : BytesAt w v bs) (hu : Upd S w w') (hn : ∀ a l c, v = .slice (some a) l c → 0 < l → ¬ S a.block ∧ a.block < w.heap.size) : BytesAt w' v bs := by
  obtain ⟨ao, cap, rfl, h1, h2⟩ := h
  refine ⟨ao, cap, rfl, h1, fun a ha j u hu' => ?_⟩
  subst ha
  have h0l : 0 < bs.length := by
    rcases Nat.eq_zero_or_pos bs.length with h | h
    · rw [List.getElem?_eq_none (by simp; omega)] at hu'; cases hu'
    · exact h
  obtain ⟨n1, n2⟩ := hn a _ _ rfl h0l
  rw [← h2 a rfl j u hu']
  have hab : (a.add j).block = a.block := by unfold Addr.add; split <;> rfl
  exact World.cell?_of_block (w := w) (by rw [hab]; exact hu.block a.block n2 n1)

end Go.Proofs.YtohpgmeflmppaaaGreat

namespace Go.Proofs.YtohpgmeflmppaaaGreat
set_option linter.unusedVariables false
set_option linter.unusedSimpArgs false
set_option linter.unnecessarySimpa false
set_option linter.unusedSectionVars false
open Go Go.RowKit

theorem beq_toBA (a b : List UInt8) : ((toBA a).toList == (toBA b).toList) = decide (a = b) := by
  rw [beq_toList]
  congr 1
  apply propext
  constructor
  · intro h
    have := congrArg (fun x : ByteArray => x.data.toList) h
    simpa [toBA] using this
  · rintro rfl; rfl

set_option maxRecDepth 100000 in
theorem same_any {w : World} {a b : Value} {xs bs : List UInt8} (ha : BytesAt w a xs) (hb : BytesAt w b bs) :
    Calls Tryz.prog 10 #[a, b] w fun e w' => e = .returned (.bool (decide (xs = bs))) ∧ w' = w := by
  have h1 := run_string_of ha
  have h2 := run_string_of hb
  have hq := beq_toBA xs bs
  obtain ⟨ao, ca, rfl, -, -⟩ := ha
  obtain ⟨bo, cb, rfl, -, -⟩ := hb
  go_enter Tryz.func10, Tryz.ntmps10
  go_wp2
  go_ret
  exact ⟨rfl, rfl⟩

theorem BytesAt.take {w : World} {bo : Option Addr} {cap : Nat} {bs : List UInt8} (h : BytesAt w (.slice bo bs.length cap) bs) {n : Nat} (hn : n ≤ bs.length) (c : Nat) (hc : bo = none → c = 0) :
    BytesAt w (.slice bo n c) (bs.take n) := by
  obtain ⟨ao, cp, he, h1, h2⟩ := h
  injection he with e1 e2 e3
  subst e1 e3
  refine ⟨bo, c, by simp [Nat.min_eq_left hn], fun h => ?_, fun a ha j u hu => h2 a ha j u ?_⟩
  · obtain ⟨rfl, rfl⟩ := h1 h
    exact ⟨by simp, hc h⟩
  · rw [List.map_take, List.getElem?_take] at hu
    split at hu
    · exact hu
    · cases hu

theorem flat_cells : ∀ (l : List FV) (k : Nat) (hk : k < l.length), (l.flatMap FV.cells)[k * 3]? = some (.string l[k].name) ∧ (l.flatMap FV.cells)[k * 3 + 1]? = some l[k].dv ∧ (l.flatMap FV.cells)[k * 3 + 2]? = some (.int .i64 l[k].synced)
  | f :: l, 0, _ => by simp [FV.cells]
  | f :: l, k + 1, hk => by
    have ih := flat_cells l k (by simpa using hk)
    have e1 : (k + 1) * 3 = k * 3 + 1 + 1 + 1 := by omega
    have e2 : (k + 1) * 3 + 1 = k * 3 + 1 + 1 + 1 + 1 := by omega
    have e3 : (k + 1) * 3 + 2 = k * 3 + 2 + 1 + 1 + 1 := by omega
    rw [e1, show k * 3 + 1 + 1 + 1 + 2 = k * 3 + 2 + 1 + 1 + 1 from by omega]
    simpa [FV.cells] using ih

theorem FilesAt.shape {w : World} {base : Nat} {v : Value} {l : List FV} (h : FilesAt w base v l) : ∃ ao cap, v = .slice ao l.length cap ∧ l.length ≤ cap ∧ cap ≤ maxLen ∧
    ∀ k (hk : k < l.length), ∃ g, ao = some ⟨g, 0, none⟩ ∧ base ≤ g ∧ g < w.heap.size ∧ w.cell? ⟨g, k * 3, none⟩ = some (.string l[k].name) ∧ w.cell? ⟨g, k * 3 + 1, none⟩ = some l[k].dv ∧ w.cell? ⟨g, k * 3 + 2, none⟩ = some (.int .i64 l[k].synced) := by
  obtain ⟨hl, h⟩ := h.row
  rcases h with ⟨rfl, h0⟩ | ⟨g, cap, cur, rfl, hb, hg, h2, h3, h4, h5⟩
  · exact ⟨none, 0, by rw [h0], by omega, by simp, fun k hk => absurd hk (by omega)⟩
  · refine ⟨some ⟨g, 0, none⟩, cap, rfl, h2, h3, fun k hk => ⟨g, rfl, hb, lt_of_heap hg, ?_⟩⟩
    obtain ⟨q0, q1, q2⟩ := flat_cells l k hk
    rw [← h5, List.getElem?_take, if_pos (by omega)] at q0 q1 q2
    refine ⟨?_, ?_, ?_⟩
    · rw [cell_of_row w g _ cur _ _ hg, ← Array.getElem?_toList]; exact q0
    · rw [cell_of_row w g _ cur _ _ hg, ← Array.getElem?_toList]; exact q1
    · rw [cell_of_row w g _ cur _ _ hg, ← Array.getElem?_toList]; exact q2

/-- What find tells. -/
def findRes (l : List FV) (n : ByteArray) : Value × Bool :=
  match l.find? (fun f => f.name == n) with
  | some f => (.agg #[.string f.name, f.dv, .int .i64 f.synced], true)
  | none => (.agg #[.string ⟨#[]⟩, .slice none 0 0, .int .i64 0], false)

theorem find_take_none {l : List FV} {n : ByteArray} {k : Nat} (hk : k < l.length) (h : ∀ j (hj : j < l.length), j < k → l[j].name ≠ n) (hn : l[k].name = n) : l.find? (fun f => f.name == n) = some l[k] := by
  rw [List.find?_eq_some_iff_getElem]
  refine ⟨by simp [hn, beq_bytes], k, hk, rfl, fun j hj => ?_⟩
  have := h j (by omega) hj
  simpa [beq_bytes] using this

def probe : ByteArray := ⟨#[112, 114, 111, 98, 101]⟩
theorem probe_ok : nameOk probe.data.toList = true := by decide

theorem fileAt_nil {s : DS} (h : s.abs.files = []) (n : ByteArray) : s.recs = [] ∧ s.fileAt n = none := by
  have : s.recs = [] := by simpa [DS.abs] using h
  exact ⟨this, by simp [DS.fileAt, this]⟩

theorem fileAt_one {s : DS} {f : FileA} (h : s.abs.files = [f]) : ∃ r, s.recs = [r] ∧ r.abs = f ∧ s.fileAt f.name = some r := by
  have h' : s.recs.map FRec.abs = [f] := h
  obtain ⟨r, hr, hf⟩ : ∃ r, s.recs = [r] ∧ r.abs = f := by
    cases hs : s.recs with
    | nil => rw [hs] at h'; simp at h'
    | cons r t =>
      rw [hs] at h'
      simp only [List.map_cons, List.cons.injEq, List.map_eq_nil_iff] at h'
      exact ⟨r, by rw [h'.2], h'.1⟩
  refine ⟨r, hr, hf, ?_⟩
  have : r.name = f.name := by rw [← hf]; rfl
  simp [DS.fileAt, hr, this, beq_bytes]

/-- What a new disk is behind 'made'. -/
def Fresh (w w' : World) (n : Nat) (s : DS) : Prop := s.In w' ∧ s.cap = n ∧ s.recs = [] ∧ s.down = false ∧ s.armed = 0 ∧ (∀ k ∈ s.blocks, w.heap.size ≤ k) ∧ Upd (fun _ => False) w w'

end Go.Proofs.YtohpgmeflmppaaaGreat

namespace Go.Proofs.YtohpgmeflmppaaaGreat
set_option linter.unusedVariables false
set_option linter.unusedSimpArgs false
set_option linter.unnecessarySimpa false
set_option linter.unusedSectionVars false
open Go Go.RowKit

theorem filterMap_cong {α β : Type} {f g : α → Option β} : ∀ {l : List α}, (∀ a ∈ l, f a = g a) → l.filterMap f = l.filterMap g
  | [], _ => rfl
  | a :: l, h => by rw [List.filterMap_cons, List.filterMap_cons, h a (by simp), filterMap_cong (l := l) (fun b hb => h b (by simp [hb]))]

def findA (l : List FileA) (n : ByteArray) : Option FileA := l.find? (fun f => f.name == n)

theorem fileAt_findA (s : DS) (n : ByteArray) : (s.fileAt n).map FRec.abs = findA s.abs.files n := by
  unfold findA DS.fileAt
  show _ = (s.recs.map FRec.abs).find? _
  rw [List.find?_map]
  rfl

/-- What one Crash makes of one file, of which k files with a tail have come before. -/
def crashOne (cuts : List Int) (f : FileA) (k : Nat) : FileA × Nat :=
  if f.data.length ≤ f.synced then (f, k)
  else ({ f with synced := f.synced + keepOf cuts k (f.data.length - f.synced), data := f.data.take (f.synced + keepOf cuts k (f.data.length - f.synced)) }, k + 1)

def crashL (cuts : List Int) : List FileA → Nat → List FileA × Nat
  | [], k => ([], k)
  | f :: t, k => ((crashOne cuts f k).1 :: (crashL cuts t (crashOne cuts f k).2).1, (crashL cuts t (crashOne cuts f k).2).2)

theorem findA_updA (l : List FileA) (n m : ByteArray) (g : FileA → FileA) (hg : ∀ f, (g f).name = f.name) : findA (updA l n g) m = (findA l m).map (fun f => if f.name = n then g f else f) := by
  unfold findA updA
  rw [List.find?_map]
  have e : ((fun f : FileA => f.name == m) ∘ fun f => if f.name = n then g f else f) = fun f : FileA => f.name == m := by
    funext f
    simp only [Function.comp]
    split <;> simp [hg]
  rw [e]

theorem findA_name {l : List FileA} {n : ByteArray} {f : FileA} (h : findA l n = some f) : f.name = n := by
  have := List.find?_some h
  simpa [beq_bytes] using this

theorem crashStep_other (cuts : List Int) (F : List FileA) (k : Nat) (n m : ByteArray) (h : m ≠ n) : findA (crashStep cuts (F, k) n).1 m = findA F m := by
  unfold crashStep
  cases hf : F.find? (fun f => f.name == n) with
  | none => rfl
  | some f =>
    simp only []
    split
    · rfl
    · simp only []
      refine (findA_updA F n m _ (by intro _; rfl)).trans ?_
      cases hm : findA F m with
      | none => rfl
      | some x =>
        simp only [Option.map_some]
        rw [if_neg (by rw [findA_name hm]; exact h)]

theorem crashStep_self (cuts : List Int) (F : List FileA) (k : Nat) (n : ByteArray) {f : FileA} (h : findA F n = some f) : findA (crashStep cuts (F, k) n).1 n = some (crashOne cuts f k).1 ∧ (crashStep cuts (F, k) n).2 = (crashOne cuts f k).2 := by
  unfold crashStep crashOne
  have h' : F.find? (fun f => f.name == n) = some f := h
  simp only [h']
  split
  · exact ⟨h, rfl⟩
  · refine ⟨?_, rfl⟩
    simp only []
    refine (findA_updA F n n _ (by intro _; rfl)).trans ?_
    rw [h]
    simp only [Option.map_some]
    rw [if_pos (findA_name h)]

theorem crashFold_other (cuts : List Int) : ∀ (N : List ByteArray) (st : List FileA × Nat) (m : ByteArray), m ∉ N → findA (N.foldl (crashStep cuts) st).1 m = findA st.1 m
  | [], _, _, _ => rfl
  | n :: N, (F, k), m, h => by
    simp only [List.mem_cons, not_or] at h
    rw [List.foldl_cons, crashFold_other cuts N _ m h.2, crashStep_other cuts F k n m h.1]

theorem crashFold (cuts : List Int) : ∀ (N : List ByteArray) (F : List FileA) (k : Nat), N.Nodup → (∀ n ∈ N, ∃ f, findA F n = some f) →
    N.filterMap (findA (N.foldl (crashStep cuts) (F, k)).1) = (crashL cuts (N.filterMap (findA F)) k).1 ∧ (N.foldl (crashStep cuts) (F, k)).2 = (crashL cuts (N.filterMap (findA F)) k).2
  | [], F, k, _, _ => ⟨rfl, rfl⟩
  | n :: N, F, k, hnd, hall => by
    obtain ⟨hn, hnd'⟩ := List.nodup_cons.1 hnd
    obtain ⟨f, hf⟩ := hall n (by simp)
    obtain ⟨c1, c2⟩ := crashStep_self cuts F k n hf
    have hoth : ∀ m ∈ N, findA (crashStep cuts (F, k) n).1 m = findA F m := fun m hm => crashStep_other cuts F k n m (fun e => hn (e ▸ hm))
    have hrest : N.filterMap (findA (crashStep cuts (F, k) n).1) = N.filterMap (findA F) := filterMap_cong hoth
    obtain ⟨i1, i2⟩ := crashFold cuts N (crashStep cuts (F, k) n).1 (crashStep cuts (F, k) n).2 hnd' (fun m hm => by
      obtain ⟨f', hf'⟩ := hall m (by simp [hm])
      exact ⟨f', by rw [hoth m hm, hf']⟩)
    rw [hrest, c2] at i1 i2
    rw [show ((crashStep cuts (F, k) n).1, (crashOne cuts f k).2) = crashStep cuts (F, k) n from by rw [← c2]] at i1 i2
    rw [List.foldl_cons]
    refine ⟨?_, ?_⟩
    · rw [List.filterMap_cons, crashFold_other cuts N _ n hn, c1, List.filterMap_cons, hf, i1]
      rfl
    · rw [i2, List.filterMap_cons, hf]
      rfl

theorem crashStep_names (cuts : List Int) (st : List FileA × Nat) (n : ByteArray) : (crashStep cuts st n).1.map (·.name) = st.1.map (·.name) := by
  unfold crashStep
  cases st.1.find? (fun f => f.name == n) with
  | none => rfl
  | some f =>
    simp only []
    split
    · rfl
    · simp only [updA, List.map_map]
      refine List.map_congr_left fun g _ => ?_
      simp only [Function.comp]
      split <;> rfl

theorem crashFold_names (cuts : List Int) : ∀ (N : List ByteArray) (st : List FileA × Nat), (N.foldl (crashStep cuts) st).1.map (·.name) = st.1.map (·.name)
  | [], _ => rfl
  | n :: N, st => by rw [List.foldl_cons, crashFold_names cuts N, crashStep_names]

theorem fileList_findA (s : DS) : fileList s = (sortNames (s.abs.files.map (·.name))).filterMap (findA s.abs.files) := by
  unfold fileList
  rw [show s.abs.files.map (·.name) = s.names from by simp [DS.abs, DS.names, FRec.abs]]
  exact filterMap_cong (fun n _ => fileAt_findA s n)

theorem abs_names (s : DS) : s.abs.files.map (·.name) = s.names := by simp [DS.abs, DS.names, FRec.abs]

theorem sort_nodup {l : List ByteArray} (h : l.Nodup) : (sortNames l).Nodup := (sortNames_perm l).nodup_iff.2 h

/-- A crashed disk's files are the old ones, each cut. -/
theorem crash_files {w : World} {s s2 : DS} (hs : s.In w) {cuts : List Int} (h : s2.abs.files = (crashF cuts s.abs.files).1) :
    fileList s2 = (crashL cuts (fileList s) 0).1 ∧ (crashF cuts s.abs.files).2 = (crashL cuts (fileList s) 0).2 := by
  rw [fileList_findA s2, h, fileList_findA s]
  unfold crashF
  rw [crashFold_names]
  refine crashFold cuts _ s.abs.files 0 (sort_nodup (by rw [abs_names]; exact hs.names)) (fun n hn => ?_)
  have hm : n ∈ s.names := by rw [← abs_names]; exact (sortNames_perm _).subset hn
  obtain ⟨r, hr⟩ := fileAt_of_name hm
  exact ⟨r.abs, by rw [← fileAt_findA, hr]; rfl⟩

theorem fileList_names {w : World} {s : DS} (hs : s.In w) : (fileList s).map (·.name) = sortNames s.names := by
  rw [fileList_findA, abs_names]
  have hall : ∀ n ∈ sortNames s.names, ∃ f, findA s.abs.files n = some f ∧ f.name = n := fun n hn => by
    obtain ⟨r, hr⟩ := fileAt_of_name ((sortNames_perm _).subset hn)
    have : findA s.abs.files n = some r.abs := by rw [← fileAt_findA, hr]; rfl
    exact ⟨r.abs, this, findA_name this⟩
  generalize sortNames s.names = N at hall
  induction N with
  | nil => rfl
  | cons n N ih =>
    obtain ⟨f, hf, hn⟩ := hall n (by simp)
    rw [List.filterMap_cons, hf]
    simp only [List.map_cons, hn]
    rw [ih (fun m hm => hall m (by simp [hm]))]

theorem fileList_nodup {w : World} {s : DS} (hs : s.In w) : ((fileList s).map (·.name)).Nodup := by
  rw [fileList_names hs]; exact sort_nodup hs.names

theorem crashL_length (cuts : List Int) : ∀ (l : List FileA) (k : Nat), (crashL cuts l k).1.length = l.length
  | [], _ => rfl
  | f :: t, k => by simp [crashL, crashL_length cuts t]

/-- How many files with a tail lie ahead of the i-th. -/
def tailsBefore (cuts : List Int) (l : List FileA) (i : Nat) : Nat := (crashL cuts (l.take i) 0).2

theorem crashL_at (cuts : List Int) : ∀ (l : List FileA) (k i : Nat) (hi : i < l.length), (crashL cuts l k).1[i]? = some (crashOne cuts l[i] (crashL cuts (l.take i) k).2).1 ∧ (crashL cuts (l.take (i + 1)) k).2 = (crashOne cuts l[i] (crashL cuts (l.take i) k).2).2
  | f :: t, k, 0, _ => by simp [crashL]
  | f :: t, k, i + 1, hi => by
    have := crashL_at cuts t (crashOne cuts f k).2 i (by simpa using hi)
    simpa [crashL] using this

theorem fileList_small {w : World} {s : DS} (hs : s.In w) : ∀ f ∈ fileList s, f.synced ≤ f.data.length ∧ f.data.length ≤ 67108864 := by
  intro f hf
  obtain ⟨n, -, hn⟩ := List.mem_filterMap.1 hf
  cases hr : s.fileAt n with
  | none => rw [hr] at hn; cases hn
  | some r =>
    rw [hr] at hn
    cases hn
    obtain ⟨hm, -⟩ := fileAt_mem hr
    exact ⟨(hs.files r hm).synced, hs.data_le hm⟩

theorem crashOne_whole (cuts : List Int) (f : FileA) (k : Nat) (h : f.synced ≤ f.data.length) (ht : ¬ f.synced < f.data.length) : crashOne cuts f k = (f, k) := by
  unfold crashOne; rw [if_pos (by omega)]

theorem crashOne_tail (cuts : List Int) (f : FileA) (k : Nat) (ht : f.synced < f.data.length) {kp : Nat} (hk : keepOf cuts k (f.data.length - f.synced) = kp) :
    crashOne cuts f k = (⟨f.name, f.data.take (f.synced + kp), f.synced + kp⟩, k + 1) ∧ f.synced + kp ≤ f.data.length := by
  have := keepOf_le cuts k (f.data.length - f.synced)
  unfold crashOne; rw [if_neg (by omega), hk]
  exact ⟨rfl, by omega⟩

theorem FV_ext {f : FV} {a : FileA} (h : f.abs = a) : f.name = a.name ∧ f.data = a.data ∧ f.synced = a.synced := by subst h; exact ⟨rfl, rfl, rfl⟩

/-- The i-th of a list is what find tells by its name. -/
theorem findRes_at {l : List FV} (hnd : (l.map (·.name)).Nodup) {i : Nat} (hi : i < l.length) : findRes l l[i].name = (.agg #[.string l[i].name, l[i].dv, .int .i64 l[i].synced], true) := by
  unfold findRes
  rw [find_take_none hi (fun j hj hlt he => ?_) rfl]
  have := List.pairwise_iff_getElem.1 hnd j i (by simpa using hj) (by simpa using hi) hlt
  simp only [List.getElem_map] at this
  exact this he

end Go.Proofs.YtohpgmeflmppaaaGreat
