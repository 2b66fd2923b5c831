/-
  Two disks in one world; lists of files that stay.
  Package disk, walked: Load.
  Two disks of the same files in whatever order answer alike: plain. What Load makes of the files that Files told.
-/
import Derived.Test.YtohpgmeflmppaaaGreatGG
import Derived.Deep.DeepCutAuto
import Derived.Deep.RegionHeld3
namespace Go.Proofs.YtohpgmeflmppaaaGreat
set_option linter.unusedVariables false
set_option linter.unusedSimpArgs false
set_option linter.unnecessarySimpa false
set_option linter.unusedSectionVars false
open Go Go.RowKit

/-- Two disks beside one another, both made since w0. -/
structure Two (w0 w : World) (pd pc : Nat) (sd sc : DS) : Prop where
  od : On w0 w pd sd
  oc : On w0 w pc sc
  ap : ∀ k ∈ sd.blocks, k ∉ sc.blocks

theorem Two.flip {w0 w : World} {pd pc : Nat} {sd sc : DS} (h : Two w0 w pd pc sd sc) : Two w0 w pc pd sc sd := ⟨h.oc, h.od, fun k hk hc => h.ap k hc hk⟩

theorem Two.stepd {w0 w w' : World} {pd pc : Nat} {sd sc sd2 : DS} (h : Two w0 w pd pc sd sc) (hst : Step w w' sd sd2) : Two w0 w' pd pc sd2 sc :=
  ⟨h.od.step hst, ⟨h.oc.ins.upd hst.upd (fun k hk hm => h.ap k hm hk), h.oc.p, h.oc.low, (h.od.step hst).upd⟩,
    fun k hk hc => (hst.foot k hk).elim (fun hm => h.ap k hm hc) (fun hm => by have := h.oc.ins.lt k hc; omega)⟩

theorem Two.stepc {w0 w w' : World} {pd pc : Nat} {sd sc sc2 : DS} (h : Two w0 w pd pc sd sc) (hst : Step w w' sc sc2) : Two w0 w' pd pc sd sc2 := (h.flip.stepd hst).flip

theorem Two.more {w0 w w' : World} {pd pc : Nat} {sd sc : DS} (h : Two w0 w pd pc sd sc) (hu : Upd (fun _ => False) w w') : Two w0 w' pd pc sd sc := h.stepd (Step.of_upd h.od.ins hu)

/-- The blocks of a list of files. -/
def ownFiles (v : Value) (l : List FV) (k : Nat) : Prop := v.ownBlock = some k ∨ k ∈ fvBlocks l

theorem FilesAt.keep {S : Nat → Prop} {w w' : World} {base : Nat} {v : Value} {l : List FV} (h : FilesAt w base v l) (hu : Upd S w w') (hn : ∀ k, ownFiles v l k → ¬ S k) : FilesAt w' base v l :=
  ⟨owns_upd h.row hu (fun k hk => hn k (.inl hk)), fun f hf => (h.data f hf).upd hu (fun k hk => hn k (.inr (mem_fvBlocks.2 ⟨f, hf, hk⟩))), h.low, h.nodup⟩

theorem FilesAt.own_low {w : World} {base : Nat} {v : Value} {l : List FV} (h : FilesAt w base v l) {k : Nat} (hk : ownFiles v l k) : base ≤ k :=
  hk.elim (fun h1 => (h.row.lt k h1).1) (fun h1 => h.low k h1)

theorem FilesAt.own_lt {w : World} {base : Nat} {v : Value} {l : List FV} (h : FilesAt w base v l) {k : Nat} (hk : ownFiles v l k) : k < w.heap.size :=
  hk.elim (fun h1 => (h.row.lt k h1).2) (fun h1 => by obtain ⟨f, hf, hb⟩ := mem_fvBlocks.1 h1; exact (h.data f hf).lt k hb)

theorem fileList_le {w : World} {s : DS} (hs : s.In w) : (fileList s).length ≤ 256 := by
  have h := congrArg List.length (fileList_names hs)
  have h2 := (sortNames_perm s.names).length_eq
  have h3 : s.names.length = s.recs.length := by simp [DS.names]
  have := hs.count
  simp at h
  omega

theorem files_small {w : World} {s : DS} (hs : s.In w) {l : List FV} (h : l.map FV.abs = fileList s) : (∀ f ∈ l, f.data.length ≤ 67108864) ∧ l.length ≤ 256 := by
  refine ⟨fun f hf => (fileList_small hs f.abs (by rw [← h]; exact List.mem_map_of_mem hf)).2, ?_⟩
  have := congrArg List.length h
  have h2 := fileList_le hs
  simp at this
  omega

end Go.Proofs.YtohpgmeflmppaaaGreat

namespace Go.Proofs.YtohpgmeflmppaaaGreat
set_option linter.unusedVariables false
set_option linter.unusedSimpArgs false
set_option linter.unnecessarySimpa false
set_option linter.unusedSectionVars false
open Go Go.RowKit

/-- A file that is handed in. -/
structure FileI where
  name : ByteArray
  dv : Value
  data : List UInt8
  synced : Int

def FileI.abs (f : FileI) : FileA := ⟨f.name, f.data, f.synced.toNat⟩

/-- v is a slice that reads as these files. -/
structure FilesIn (w : World) (v : Value) (l : List FileI) : Prop where
  shape : ∃ ao cap, v = .slice ao l.length cap ∧ l.length ≤ cap ∧ cap ≤ 9223372036854775807 ∧ ∀ k (hk : k < l.length), ∃ b o, ao = some ⟨b, o, none⟩ ∧ b < w.heap.size ∧
    w.cell? ⟨b, o + k * 3, none⟩ = some (.string l[k].name) ∧ w.cell? ⟨b, o + k * 3 + 1, none⟩ = some l[k].dv ∧ w.cell? ⟨b, o + k * 3 + 2, none⟩ = some (.int .i64 l[k].synced)
  bytes : ∀ f ∈ l, BytesAt w f.dv f.data
  low : ∀ f ∈ l, ∀ a n c, f.dv = .slice (some a) n c → 0 < n → a.block < w.heap.size

def usedA (l : List FileA) : Nat := (l.map (·.data.length)).sum

/-- What Load makes of the files, behind those that it has. -/
def loadL (cap : Nat) : List FileI → List FileA → Int ⊕ List FileA
  | [], acc => .inr acc
  | f :: t, acc =>
    if nameOk f.name.data.toList = false then .inl 40
    else if (findA acc f.name).isSome then .inl 41
    else if f.synced < 0 ∨ (f.data.length : Int) < f.synced then .inl 43
    else if cap - usedA acc < f.data.length then .inl 4
    else loadL cap t (acc ++ [f.abs])

def loadA (cap : Int) (l : List FileI) : Int ⊕ List FileA :=
  if cap < 0 ∨ 67108864 < cap then .inl 1 else if 256 < l.length then .inl 44 else loadL cap.toNat l []

/-- A file has joined, with its bytes. -/
theorem DS.In.joined {w w' : World} {s : DS} (h : s.In w) {r : FRec} (hn : s.fileAt r.name = none) (hok : nameOk r.name.data.toList = true) (hc : s.recs.length < 256) (hb : w.heap.size ≤ r.blk)
    (hd : ∀ k, r.dv.ownBlock = some k → w.heap.size ≤ k ∧ k ≠ r.blk) (hroom : s.used + r.data.length ≤ s.cap) (hsy : r.synced ≤ r.data.length) (hu : Upd (fun k => k = s.p ∨ k = s.m) w w')
    (htop : w'.heap[s.p]? = some (.cells ({ s with recs := s.recs ++ [r] } : DS).cells 93 (0, 0))) (hm : MapIs w' s.m (put s.entries r.name (.pointer (some ⟨r.blk, 0, none⟩))))
    (hf : w'.heap[r.blk]? = some (.cells r.cells 95 (0, 0))) (hdv : DataIs w' r.dv r.data) :
    Step w w' s { s with recs := s.recs ++ [r] } := by
  have hpm : s.p ≠ s.m := h.pm
  have hbl : ({ s with recs := s.recs ++ [r] } : DS).blocks = s.blocks ++ r.blocks := by
    simp [DS.blocks, recBlocks_append, recBlocks]
  have hrb : ∀ k ∈ r.blocks, w.heap.size ≤ k := by
    intro k hk
    simp only [FRec.blocks, List.mem_cons, Option.mem_toList] at hk
    rcases hk with rfl | hk
    · exact hb
    · exact (hd k hk).1
  have hrn : r.blocks.Nodup := by
    unfold FRec.blocks
    cases e : r.dv.ownBlock with
    | none => simp
    | some k =>
      have := (hd k e).2
      simp only [Option.toList_some, List.nodup_cons, List.mem_singleton, List.not_mem_nil, not_false_eq_true, List.nodup_nil, and_true]
      exact fun e => this e.symm
  refine ⟨⟨htop, ?_, ?_, ?_, ?_, ?_, ?_, h.cap, h.armed, trivial⟩, rfl, hu.mono ?_, ?_⟩
  · rw [put_new _ _ _ (look_none_of hn)] at hm
    have e : ({ s with recs := s.recs ++ [r] } : DS).entries = s.entries ++ [(r.name, .pointer (some ⟨r.blk, 0, none⟩))] := by simp [DS.entries, FRec.entry]
    rw [e]; exact hm
  · intro x hx
    simp only [List.mem_append, List.mem_singleton] at hx
    rcases hx with hx | rfl
    · refine (h.files x hx).of_blocks (fun k hk => ?_)
      have hk' : k ∈ recBlocks s.recs := mem_recBlocks.2 ⟨x, hx, hk⟩
      exact hu.block k (h.lt k (by simp [DS.blocks, hk'])) (fun e => e.elim (h.p_ne_blk hx hk) (h.m_ne_blk hx hk))
    · exact ⟨hf, hdv, hsy, hok⟩
  · simp only [List.map_append, List.map_cons, List.map_nil]
    rw [List.nodup_append]
    refine ⟨h.names, by simp, ?_⟩
    intro x hx y hy
    simp only [List.mem_singleton] at hy
    subst hy
    obtain ⟨z, hz, rfl⟩ := List.mem_map.1 hx
    exact fileAt_none hn z hz
  · rw [hbl, List.nodup_append]
    refine ⟨h.blocks, hrn, ?_⟩
    intro x hx y hy e
    have := h.lt x hx
    have := hrb y hy
    omega
  · simp; omega
  · simpa [DS.used, usedOf] using hroom
  · intro k _ e
    rcases e with rfl | rfl <;> simp [DS.blocks]
  · intro k hk
    rw [hbl] at hk
    simp only [List.mem_append] at hk
    rcases hk with hk | hk
    · exact .inl hk
    · exact .inr (hrb k hk)

theorem run_lookup_file_ok {w : World} {s : DS} (h : s.In w) (n : ByteArray) : (Instr.lookup 89 (.map (some s.m)) (.string n) true).run Tryz.prog w = .ok (.tuple #[s.ptrAt n, .bool (s.fileAt n).isSome]) w := by
  have := run_lookup_str_ok (P := Tryz.prog) Tryz.underlying89 Tryz.underlying9 zeroFile h.map n
  rw [ptrAt_look] at this
  rw [this]
  have e : (look s.entries n).isSome = (s.fileAt n).isSome := by
    unfold DS.entries DS.fileAt
    rw [look_entries]
    simp
  rw [e]

theorem loadL_snoc {cap : Nat} {l : List FileI} {k : Nat} {acc : List FileA} (hk : k < l.length) (h1 : nameOk l[k].name.data.toList = true) (h2 : (findA acc l[k].name).isSome = false)
    (h3 : ¬ (l[k].synced < 0 ∨ (l[k].data.length : Int) < l[k].synced)) (h4 : ¬ cap - usedA acc < l[k].data.length) : loadL cap (l.drop k) acc = loadL cap (l.drop (k + 1)) (acc ++ [l[k].abs]) := by
  rw [List.drop_eq_getElem_cons hk]
  simp only [loadL, h1, h2, if_neg h3, if_neg h4]
  simp

/-- How Load answers. -/
def LoadRes (w : World) (cap : Int) (R : Int ⊕ List FileA) (e : Ending) (w' : World) : Prop :=
  Upd (fun _ => False) w w' ∧ match R with
    | .inl err => e = .returned (.tuple #[.pointer none, .int .i64 err])
    | .inr F => ∃ s : DS, e = .returned (.tuple #[.pointer (some ⟨s.p, 0, none⟩), .int .i64 0]) ∧ s.In w' ∧ s.abs = ⟨cap.toNat, F, false, 0, ⟨0, 0, 0, 0, 0, 0⟩⟩ ∧ ∀ k ∈ s.blocks, w.heap.size ≤ k

set_option maxRecDepth 100000 in
set_option maxHeartbeats 4000000 in
theorem load_any {w : World} {cap : Int} {v : Value} {l : List FileI} (hl : FilesIn w v l) :
    Calls Tryz.prog 32 #[.int .i64 cap, v] w fun e w' => LoadRes w cap (loadA cap l) e w' := by
  obtain ⟨ao, lcap, rfl, hl1, hl2, hcells⟩ := hl.shape
  have HL := hid hl; have HCE := hid hcells
  clear hl hcells
  by_cases hcap : cap < 0 ∨ 67108864 < cap
  · have HR := hid (show loadA cap l = .inl 1 by unfold loadA; rw [if_pos hcap])
    have HN := hid (new_no w cap hcap)
    clear hcap
    go_enter Tryz.func32, Tryz.ntmps32
    go_wp2_with (go_at_call 34; refine HN.out.mono ?_; rintro e w' ⟨rfl, hww⟩; obtain rfl := hww.symm)
    go_ret2
    rw [HR.out]
    exact ⟨Upd.refl _ _, rfl⟩
  obtain ⟨n, rfl⟩ : ∃ n : Nat, cap = (n : Int) := ⟨cap.toNat, by omega⟩
  have hn : n ≤ 67108864 := by omega
  have HR := hid (show loadA n l = if 256 < l.length then .inl 44 else loadL n l [] by unfold loadA; rw [if_neg hcap]; simp)
  clear hcap
  go_enter Tryz.func32, Tryz.ntmps32
  go_wp2_with fail
  refine (new_yes w n hn).mono ?_
  rintro e w1 ⟨s0, rfl, hin, habs, hlow, hupd⟩
  obtain ⟨p, hp⟩ : ∃ p, p = s0.p := ⟨_, rfl⟩
  have ON0 := hid (show On w w1 p s0 from ⟨hin, hp.symm, hlow, hupd⟩)
  have HA0 := hid habs
  rw [← hp]
  clear hin habs hlow hupd hp
  by_cases h256 : 256 < l.length
  · have h256' : (256 : Int) < (l.length : Int) := by omega
    have HR2 := hid (show loadA n l = .inl 44 by rw [HR.out, if_pos h256])
    go_wp2
    go_ret2
    rw [HR2.out]
    exact ⟨ON0.out.upd, rfl⟩
  have h256' : ¬ (256 : Int) < (l.length : Int) := by omega
  have HR2 := hid (show loadA n l = loadL n l [] by rw [HR.out, if_neg h256])
  clear HR
  go_wp2
  go_loopw [27] (fun i wr => ∃ k : Nat, k ≤ l.length ∧ i = .int .i64 k ∧ ∃ s, On w wr p s ∧ s.abs = ⟨n, s.abs.files, false, 0, ⟨0, 0, 0, 0, 0, 0⟩⟩ ∧ s.recs.length = k ∧ loadL n l [] = loadL n (l.drop k) s.abs.files) (fun i _ => l.length - (intOf i).toNat)
  case atStart => exact ⟨0, Nat.zero_le _, rfl, s0, ON0.out, by rw [HA0.out]; rfl, by have := congrArg (fun a => a.files.length) HA0.out; simpa [DS.abs, newA] using this, by rw [HA0.out]; rfl⟩
  case round =>
    obtain ⟨k, hk, rfl, s, hon, habs, hlen, hld⟩ := hrel
    have ON := hid hon; have HA := hid habs; have HLEN := hid hlen; have HLD := hid hld
    clear hon habs hlen hld
    by_cases hlt : k < l.length
    · obtain ⟨b, o, rfl, hb, c0, c1, c2⟩ := HCE.out k hlt
      have hm : l[k] ∈ l := List.getElem_mem hlt
      have hby := (HL.out.bytes l[k] hm).upd ON.out.upd (fun a m c e h0 => ⟨fun h => h, HL.out.low l[k] hm a m c e h0⟩)
      have hlw : ∀ a m c, l[k].dv = .slice (some a) m c → 0 < m → a.block < wr.heap.size := fun a m c e h0 => Nat.lt_of_lt_of_le (HL.out.low l[k] hm a m c e h0) ON.out.upd.size
      have d0 := (World.cell?_of_block (a := ⟨b, o + k * 3, none⟩) (ON.out.upd.block b hb (fun h => h))).trans c0
      have d1 := (World.cell?_of_block (a := ⟨b, o + k * 3 + 1, none⟩) (ON.out.upd.block b hb (fun h => h))).trans c1
      have d2 := (World.cell?_of_block (a := ⟨b, o + k * 3 + 2, none⟩) (ON.out.upd.block b hb (fun h => h))).trans c2
      have hbr : b < wr.heap.size := Nat.lt_of_lt_of_le hb ON.out.upd.size
      have HDROP := hid (show loadL n l [] = loadL n (l[k] :: l.drop (k + 1)) s.abs.files by rw [HLD.out, List.drop_eq_getElem_cons hlt])
      have HSN := hid (fun h1 h2 h3 h4 => HLD.out.trans (loadL_snoc (cap := n) (acc := s.abs.files) hlt h1 h2 h3 h4))
      obtain ⟨f, hf⟩ : ∃ f, f = l[k] := ⟨_, rfl⟩
      rw [← hf] at d0 d1 d2 hby hlw HDROP HSN
      have HBY0 := hid hby
      obtain ⟨po, pc, hdv, -, -⟩ := hby
      rw [hdv] at d1 hlw
      have HBY := hid (show BytesAt wr (.slice po f.data.length pc) f.data from hdv ▸ HBY0.out)
      have HLW := hid hlw
      have hplt := ON.out.ins.plt
      have cm := ON.out.ins.c_map
      have cu := ON.out.ins.c_used
      rw [ON.out.p] at cm cu hplt
      have hp1 : p < wr.heap.size + 1 := by omega
      have HN := hid (named_any f.name)
      have hal := (Upd.refl (fun _ => False) wr).alloc (.cells #[.string f.name, .slice po f.data.length pc, .int .i64 f.synced] 80)
      have hlk : ∀ m, (Instr.lookup 89 (.map (some s.m)) (.string f.name) true).run Tryz.prog ((wr.alloc (.cells #[.string f.name, .slice po f.data.length pc, .int .i64 f.synced] 80)).drewN m) = .ok (.tuple #[s.ptrAt f.name, .bool (s.fileAt f.name).isSome]) ((wr.alloc (.cells #[.string f.name, .slice po f.data.length pc, .int .i64 f.synced] 80)).drewN m) := fun m => run_lookup_file_ok (ON.out.ins.upd (hal.drewN m) (fun _ _ h => h)) f.name
      rw [isSome_findA] at hlk
      have HDV := hid hdv
      have HAL := hid hal
      clear c0 c1 c2 hm hlw hf hal hdv
      cases hok : nameOk f.name.data.toList with
      | false =>
        rw [hok] at HN
        have HRR := hid (show loadL n l [] = .inl 40 by rw [HDROP.out]; simp [loadL, hok])
        clear hok
        go_wp2_with fail
        go_quiet (fail)
        go_wp2_with (go_at_call 58; refine (HN.out _).mono ?_; rintro e w' ⟨rfl, hww⟩; obtain rfl := hww.symm)
        go_ret2
        refine ⟨ON.out.upd.trans (HAL.out.drewN _) (fun _ _ h => h), ?_⟩
        rw [HR2.out, HRR.out]
        rfl
      | true =>
      rw [hok] at HN
      have HOK := hid hok
      clear hok
      cases hkn : (findA s.abs.files f.name).isSome with
      | true =>
        rw [hkn] at hlk
        have HRR := hid (show loadL n l [] = .inl 41 by rw [HDROP.out]; simp [loadL, HOK.out, hkn])
        clear hkn
        go_wp2_with fail
        go_quiet (fail)
        go_wp2_with (go_at_call 58; refine (HN.out _).mono ?_; rintro e w' ⟨rfl, hww⟩; obtain rfl := hww.symm)
        go_ret2
        refine ⟨ON.out.upd.trans (HAL.out.drewN _) (fun _ _ h => h), ?_⟩
        rw [HR2.out, HRR.out]
        rfl
      | false =>
      rw [hkn] at hlk
      have HKN := hid hkn
      clear hkn
      by_cases hneg : f.synced < 0
      · have HRR := hid (show loadL n l [] = .inl 43 by rw [HDROP.out]; simp [loadL, HOK.out, HKN.out, hneg])
        go_wp2_with fail
        go_quiet (fail)
        go_wp2_with (go_at_call 58; refine (HN.out _).mono ?_; rintro e w' ⟨rfl, hww⟩; obtain rfl := hww.symm)
        go_ret2
        refine ⟨ON.out.upd.trans (HAL.out.drewN _) (fun _ _ h => h), ?_⟩
        rw [HR2.out, HRR.out]
        rfl
      by_cases hbig : (f.data.length : Int) < f.synced
      · have HRR := hid (show loadL n l [] = .inl 43 by rw [HDROP.out]; simp [loadL, HOK.out, HKN.out, hbig])
        go_wp2_with fail
        go_quiet (fail)
        go_wp2_with (go_at_call 58; refine (HN.out _).mono ?_; rintro e w' ⟨rfl, hww⟩; obtain rfl := hww.symm)
        go_ret2
        refine ⟨ON.out.upd.trans (HAL.out.drewN _) (fun _ _ h => h), ?_⟩
        rw [HR2.out, HRR.out]
        rfl
      have hroomle := ON.out.ins.room
      have hcapn : s.cap = n := congrArg DiskA.cap HA.out
      rw [hcapn] at hroomle
      have hwr : IntKind.i64.wrap ((n : Int) - (s.used : Int)) = (n : Int) - (s.used : Int) := by rw [IntKind.wrap_i64]; omega
      have HU := hid (used_abs s)
      by_cases hfull : (n : Int) - (s.used : Int) < (f.data.length : Int)
      · have HRR := hid (show loadL n l [] = .inl 4 by rw [HDROP.out]; simp only [loadL]; rw [if_neg (by rw [HOK.out]; decide), if_neg (by rw [HKN.out]; decide), if_neg (by omega), if_pos (by unfold usedA; rw [← HU.out]; omega)])
        clear hcapn
        go_wp2_with fail
        go_quiet (fail)
        go_wp2_with (go_at_call 58; refine (HN.out _).mono ?_; rintro e w' ⟨rfl, hww⟩; obtain rfl := hww.symm)
        go_quiet (fail)
        go_wp2
        go_ret2
        refine ⟨ON.out.upd.trans ((HAL.out.drewN _).drewN _) (fun _ _ h => h), ?_⟩
        rw [HR2.out, HRR.out]
        rfl
      obtain ⟨sy, hsy⟩ : ∃ sy : Nat, f.synced = (sy : Int) := ⟨f.synced.toNat, by omega⟩
      have hsyl : sy ≤ f.data.length := by omega
      have hfl : s.used + f.data.length ≤ n := by omega
      have HSY := hid hsy; have HCN := hid hcapn
      clear hcapn hsy
      go_wp2_with fail
      go_quiet (fail)
      revert nq
      intro q1
      go_wp2_with (go_at_call 58; refine (HN.out _).mono ?_; rintro e w' ⟨rfl, hww⟩; obtain rfl := hww.symm)
      go_quiet (fail)
      revert nq
      intro q2
      generalize hW : ((wr.alloc (.cells #[.string f.name, .slice po f.data.length pc, .int .i64 f.synced] 80)).drewN q1).drewN q2 = W0
      have hsz0 : W0.heap.size = wr.heap.size + 1 := by rw [← hW]; simp
      have hu0 : Upd (fun _ => False) wr W0 := by rw [← hW]; exact ((Upd.refl _ _).alloc _ |>.drewN _).drewN _
      have hfb : W0.heap[wr.heap.size]? = some (.cells #[.string f.name, .slice po f.data.length pc, .int .i64 f.synced] 80 (0, 0)) := by rw [← hW]; exact heap_alloc_new wr _
      obtain ⟨fb, hfbe⟩ : ∃ fb, fb = wr.heap.size := ⟨_, rfl⟩
      have e0 : W0.cell? ⟨fb, 0, none⟩ = some (.string f.name) := by rw [hfbe, cell_of_row W0 _ 0 _ _ _ hfb]; rfl
      have e1 : W0.cell? ⟨fb, 1, none⟩ = some (.slice po f.data.length pc) := by rw [hfbe, cell_of_row W0 _ 1 _ _ _ hfb]; rfl
      have e2 : W0.cell? ⟨fb, 2, none⟩ = some (.int .i64 f.synced) := by rw [hfbe, cell_of_row W0 _ 2 _ _ _ hfb]; rfl
      have hfbl : fb < W0.heap.size := by omega
      have hin0 := ON.out.ins.upd hu0 (fun _ _ h => h)
      have cm0 := hin0.c_map
      rw [ON.out.p] at cm0
      have hp0 : p < W0.heap.size := by omega
      have HIN0 := hid hin0; have HU0 := hid hu0
      have HMAP := hid (show MapIs W0.drew s.m s.entries from hin0.map.of_block rfl)
      have HBY2 := hid (show BytesAt W0.drew (.slice po f.data.length pc) f.data from HBY.out.upd (hu0.drew) (fun a m c e h0 => ⟨fun h => h, HLW.out a m c e h0⟩))
      rw [← hfbe]
      have HFBE := hid hfbe
      have hdn : f.data.length ≤ 140737488355328 := by omega
      have hfbm := hid (show fb ≠ s.m from fun e => by have := ON.out.ins.map.lt; omega)
      have hpm0 := hid (show p ≠ s.m from by have := ON.out.ins.pm; rw [ON.out.p] at this; exact this)
      clear hW hfb hin0 hu0 d0 d1 d2 cm cu hlk hfbe hp1
      go_wp2_with fail
      go_region_held3 (fun W => W.cell? ⟨fb, 0, none⟩ = some (.string f.name) ∧ W.cell? ⟨fb, 1, none⟩ = some (.slice po f.data.length pc) ∧ W.cell? ⟨fb, 2, none⟩ = some (.int .i64 f.synced) ∧ W.cell? ⟨p, 2, none⟩ = some (.map (some s.m)))
        (first
          | go_keep
          | (go_split_ands
             refine ⟨?_, ?_, ?_, ?_⟩
             · (first | (rw [hbel.cell (p := ⟨fb, 0, none⟩) (by simpa using hfbl)]; assumption) | (rw [World.cell?_of_block (w := W0.drew) (a := ⟨fb, 0, none⟩) (hU23.block fb (by simpa using hfbl) hfbm.out)]; assumption))
             · (first | (rw [hbel.cell (p := ⟨fb, 1, none⟩) (by simpa using hfbl)]; assumption) | (rw [World.cell?_of_block (w := W0.drew) (a := ⟨fb, 1, none⟩) (hU23.block fb (by simpa using hfbl) hfbm.out)]; assumption))
             · (first | (rw [hbel.cell (p := ⟨fb, 2, none⟩) (by simpa using hfbl)]; assumption) | (rw [World.cell?_of_block (w := W0.drew) (a := ⟨fb, 2, none⟩) (hU23.block fb (by simpa using hfbl) hfbm.out)]; assumption))
             · (first | (rw [hbel.cell (p := ⟨p, 2, none⟩) (by simpa using hp0)]; assumption) | (rw [World.cell?_of_block (w := W0.drew) (a := ⟨p, 2, none⟩) (hU23.block p (by simpa using hp0) hpm0.out)]; assumption))))
        (first
          | (go_at_call 37; refine (clone_any (w := W0.drew) HBY2.out hdn).mono ?_; rintro e w2 ⟨vc, rfl, hd, hdo, hbel⟩; obtain ⟨aoc, capc, hsh, -, -, -, -⟩ := hd.shape; subst hsh; obtain ⟨w3, hrun, hmi, hup3⟩ := run_mapUpdate_str (P := Tryz.prog) (w := w2.alloc (.cells #[.slice aoc f.data.length capc, .int .i64 f.synced] 95)) Tryz.underlying89 Tryz.underlying9 (HMAP.out.upd ((Upd.of_below (S := fun _ => False) hbel).alloc _) (fun h => h)) f.name (.pointer (some ⟨w2.heap.size, 0, none⟩)); have hU23 : Upd (fun b => b = s.m) W0.drew w3 := ((Upd.of_below (S := fun b => b = s.m) hbel).alloc _).trans hup3 (fun _ _ h => h)))
      have g1 : w3.cell? ⟨fb, 1, none⟩ = some (.slice po f.data.length pc) := by rw [World.cell?_of_block (w := W0.drew) (a := ⟨fb, 1, none⟩) (hU23.block fb (by simpa using hfbl) hfbm.out)]; exact e1
      have hfb3 : fb < w3.heap.size := Nat.lt_of_lt_of_le hfbl hU23.size
      have htop := hU23.get (o := .cells s.cells 93 (0, 0)) (k := p) (by have := HIN0.out.top; rw [ON.out.p] at this; exact this) hpm0.out
      have t1 : w3.cell? ⟨p, 1, none⟩ = some (.int .i64 s.used) := by rw [cell_of_row w3 p 1 _ _ _ htop]; rfl
      have t2 : w3.frozen? ⟨p, 1, none⟩ = false := frozen_of_row w3 p 1 _ _ htop
      have hp3 : p < w3.heap.size := lt_of_heap htop
      have hbox : w3.heap[w2.heap.size]? = some (.cells #[.slice aoc f.data.length capc, .int .i64 f.synced] 95 (0, 0)) := by
        rw [hup3.block w2.heap.size (by simp) (fun e => by have := HIN0.out.map.lt; have := hbel.size; simp at this; omega)]
        exact heap_alloc_new w2 _
      have hdat : DataIs w3 (.slice aoc f.data.length capc) f.data := by
        refine (hd.upd ((Upd.refl (fun b => b = s.m) w2).alloc (.cells #[.slice aoc f.data.length capc, .int .i64 f.synced] 95)) (fun k hk e => ?_)).upd hup3 (fun k hk e => ?_)
        · have h1 := hdo k hk; have := HIN0.out.map.lt; simp at h1; omega
        · have h1 := hdo k hk; have := HIN0.out.map.lt; simp at h1; omega
      have H1 := hid hmi; have H2 := hid hU23; have H3 := hid hbox; have H4 := hid hdat; have H5 := hid hdo; have H6 := hid htop
      have H7 := hid (show W0.heap.size ≤ w2.heap.size from by have := hbel.size; simpa using this)
      have H8 := hid hd
      have hwr2 : IntKind.i64.wrap ((s.used : Int) + (f.data.length : Int)) = (s.used : Int) + (f.data.length : Int) := by rw [IntKind.wrap_i64]; omega
      clear hmi hU23 hbox hdat hdo htop hup3 hbel hd hrun hwr
      go_wp2_with fail
      go_region
      have hst : Step W0 ((w3.setCell ⟨p, 1, none⟩ (.int .i64 ((s.used : Int) + (f.data.length : Int)))).drew) s { s with recs := s.recs ++ [⟨f.name, w2.heap.size, .slice aoc f.data.length capc, f.data, sy⟩] } := by
        have hpp := ON.out.p
        refine HIN0.out.joined (by have h := isSome_findA s f.name; rw [HKN.out] at h; simpa using h) HOK.out (by have := HLEN.out; omega) H7.out (fun k hk => ⟨H5.out k hk, fun e => by have h8 := H8.out.lt k hk; have e' : k = w2.heap.size := e; omega⟩) (by have h9 := HCN.out; show s.used + f.data.length ≤ s.cap; omega) hsyl ?_ ?_ ?_ ?_ ?_
        · exact ((((Upd.refl (fun k => k = s.p ∨ k = s.m) W0).drew.trans H2.out (fun k _ e => .inr e)).setCell (p := ⟨p, 1, none⟩) (fun _ => .inl hpp.symm) _).drew)
        · rw [hpp]
          refine (heap_setCell_at w3 p 1 _ _ _ H6.out).trans ?_
          simp [DS.cells, DS.used, usedOf]
        · exact H1.out.of_block (heap_setCell_ne _ _ _ _ (fun e => hpm0.out e.symm))
        · refine (heap_setCell_ne w3 _ _ _ (fun e => by have e' : w2.heap.size = p := e; have := H7.out; omega)).trans ?_
          rw [H3.out]
          simp [FRec.cells, HSY.out]
        · exact H4.out.of_block (fun k hk => heap_setCell_ne w3 _ _ _ (fun e => by have e' : k = p := e; have h5 : W0.heap.size ≤ k := H5.out k hk; omega))
      have ON3 := hid ((ON.out.more HU0.out).step hst)
      clear hst
      go_wp2
      go_roundw
      case rel =>
        refine ⟨k + 1, by omega, by go_num, _, ON3.out, ?_, by simp [HLEN.out], ?_⟩
        · have := HA.out
          simp only [DS.abs, DiskA.mk.injEq] at this ⊢
          exact ⟨this.1, trivial, this.2.2⟩
        · refine (HSN.out HOK.out HKN.out (by omega) (by unfold usedA; rw [← used_abs]; omega)).trans ?_
          congr 1
          simp [DS.abs, FRec.abs, FileI.abs, HSY.out]
      case measure => simp [intOf]; omega
    · obtain rfl : k = l.length := by omega
      go_wp2
      go_ret2
      refine ⟨ON.out.upd, ?_⟩
      rw [HR2.out, HLD.out, List.drop_length]
      exact ⟨s, by rw [ON.out.p]; rfl, ON.out.ins, by rw [HA.out]; simp, ON.out.low⟩

end Go.Proofs.YtohpgmeflmppaaaGreat

namespace Go.Proofs.YtohpgmeflmppaaaGreat
set_option linter.unusedVariables false
set_option linter.unusedSimpArgs false
set_option linter.unnecessarySimpa false
set_option linter.unusedSectionVars false
open Go Go.RowKit

theorem nameA_inj : ∀ {l : List FileA}, (l.map (·.name)).Nodup → ∀ {x y : FileA}, x ∈ l → y ∈ l → x.name = y.name → x = y
  | [], _, _, _, hx, _, _ => by cases hx
  | a :: t, hnd, x, y, hx, hy, h => by
    simp only [List.map_cons, List.nodup_cons, List.mem_map, not_exists, not_and] at hnd
    rcases List.mem_cons.1 hx with hx | hx
    · rcases List.mem_cons.1 hy with hy | hy
      · rw [hx, hy]
      · exact absurd (by rw [← h, hx]) (hnd.1 y hy)
    · rcases List.mem_cons.1 hy with hy | hy
      · exact absurd (by rw [h, hy]) (hnd.1 x hx)
      · exact nameA_inj hnd.2 hx hy h

theorem findA_mem {l : List FileA} {n : ByteArray} {f : FileA} (h : findA l n = some f) : f ∈ l ∧ f.name = n := ⟨List.mem_of_find?_eq_some h, findA_name h⟩

theorem findA_of_mem {l : List FileA} (hnd : (l.map (·.name)).Nodup) {f : FileA} (h : f ∈ l) : findA l f.name = some f := by
  cases hc : findA l f.name with
  | none =>
    unfold findA at hc
    rw [List.find?_eq_none] at hc
    exact absurd (by simp [beq_bytes]) (hc f h)
  | some g =>
    obtain ⟨hg, hn⟩ := findA_mem hc
    rw [nameA_inj hnd hg h hn]

theorem findA_perm {a b : List FileA} (hp : a.Perm b) (hnd : (a.map (·.name)).Nodup) (n : ByteArray) : findA a n = findA b n := by
  have hnb : (b.map (·.name)).Nodup := (hp.map _).nodup_iff.1 hnd
  cases hc : findA a n with
  | some f =>
    obtain ⟨hm, rfl⟩ := findA_mem hc
    rw [findA_of_mem hnb (hp.mem_iff.1 hm)]
  | none =>
    cases hd : findA b n with
    | none => rfl
    | some g =>
      obtain ⟨hm, rfl⟩ := findA_mem hd
      rw [findA_of_mem hnd (hp.mem_iff.2 hm)] at hc
      cases hc

/-- Plans alike but for the files' order. -/
def PlanLike : Plan → Plan → Prop
  | .inl e, .inl e' => e = e'
  | .inr (co, F), .inr (co', F') => co = co' ∧ F.Perm F'
  | _, _ => False

theorem sum_perm {a b : List FileA} (hp : a.Perm b) : (a.map (·.data.length)).sum = (b.map (·.data.length)).sum := by
  induction hp with
  | nil => rfl
  | cons x h ih => simp [ih]
  | swap x y l => simp; omega
  | trans h1 h2 i1 i2 => exact i1.trans i2

theorem planA_perm {cap : Nat} {a b : List FileA} (hp : a.Perm b) (hnd : (a.map (·.name)).Nodup) (x : DidA) : PlanLike (planA cap a x) (planA cap b x) := by
  unfold planA
  rw [findA_perm hp hnd, hp.length_eq, sum_perm hp]
  by_cases k1 : x.kind = 1
  · rw [if_pos k1, if_pos k1]
    split
    · rfl
    · split
      · rfl
      · exact ⟨rfl, hp.append_right _⟩
  rw [if_neg k1, if_neg k1]
  by_cases k2 : x.kind = 2
  · rw [if_pos k2, if_pos k2]
    split
    · rfl
    · split
      · rfl
      · split
        · rfl
        · exact ⟨rfl, hp.map _⟩
  rw [if_neg k2, if_neg k2]
  by_cases k3 : x.kind = 3
  · rw [if_pos k3, if_pos k3]
    split
    · exact ⟨rfl, hp.map _⟩
    · rfl
  rw [if_neg k3, if_neg k3]
  by_cases k4 : x.kind = 4
  · rw [if_pos k4, if_pos k4]
    split
    · rfl
    · refine ⟨rfl, ?_⟩
      unfold renameF
      split
      · exact hp
      · exact ((hp.filter _).filter _).append_right _
  rw [if_neg k4, if_neg k4]
  split
  · exact ⟨rfl, hp.filter _⟩
  · rfl

/-- Two disks of the same files, in whatever order, neither armed nor down. -/
structure Like (sd st : DS) : Prop where
  files : sd.abs.files.Perm st.abs.files
  cap : sd.abs.cap = st.abs.cap
  dd : sd.down = false
  dt : st.down = false
  ad : sd.armed = 0
  at' : st.armed = 0

theorem didA_calm {s s2 : DS} {x : DidA} (hd : s.down = false) (ha : s.armed = 0) (h : s2.abs = (didA s x).2) : s2.down = false ∧ s2.armed = 0 ∧ s2.cap = s.cap := by
  have ha' : s.abs.armed = 0 := ha
  by_cases hk : x.kind < 1 ∨ 5 < x.kind
  · rw [didA_other hk] at h
    exact ⟨(congrArg DiskA.down h).trans hd, (congrArg DiskA.armed h).trans ha, congrArg DiskA.cap h⟩
  · rw [didA_plan hd (by omega) (by omega)] at h
    cases hp : planA s.abs.cap s.abs.files x with
    | inl e =>
      rw [hp] at h
      exact ⟨(congrArg DiskA.down h).trans hd, (congrArg DiskA.armed h).trans ha, congrArg DiskA.cap h⟩
    | inr p =>
      rw [hp] at h
      simp only [planRes, actA] at h
      rw [if_pos ha'] at h
      exact ⟨(congrArg DiskA.down h).trans hd, (congrArg DiskA.armed h).trans ha, congrArg DiskA.cap h⟩

theorem Like.step {sd st sd2 st2 : DS} {x : DidA} (h : Like sd st) (hnd : (sd.abs.files.map (·.name)).Nodup) (hd : sd2.abs = (didA sd x).2) (ht : st2.abs = (didA st x).2) :
    (didA sd x).1 = (didA st x).1 ∧ Like sd2 st2 := by
  obtain ⟨d1, d2, d3⟩ := didA_calm h.dd h.ad hd
  obtain ⟨t1, t2, t3⟩ := didA_calm h.dt h.at' ht
  have hcap : sd2.abs.cap = st2.abs.cap := by
    have e1 : sd2.abs.cap = sd.abs.cap := d3
    have e2 : st2.abs.cap = st.abs.cap := t3
    rw [e1, e2]; exact h.cap
  by_cases hk : x.kind < 1 ∨ 5 < x.kind
  · rw [didA_other hk] at hd ht
    rw [didA_other hk, didA_other hk]
    refine ⟨rfl, ?_, hcap, d1, t1, d2, t2⟩
    rw [hd, ht]; exact h.files
  · have pd := didA_plan (x := x) h.dd (by omega) (by omega)
    have pt := didA_plan (x := x) h.dt (by omega) (by omega)
    have hpl := planA_perm (cap := st.abs.cap) h.files hnd x
    have ha : sd.abs.armed = 0 := h.ad
    have hb : st.abs.armed = 0 := h.at'
    rw [h.cap] at pd
    rw [pd] at hd ⊢
    rw [pt] at ht ⊢
    cases p1 : planA st.abs.cap sd.abs.files x with
    | inl e =>
      cases p2 : planA st.abs.cap st.abs.files x with
      | inl e' =>
        rw [p1, p2] at hpl
        rw [p1] at hd
        rw [p2] at ht
        simp only [planRes] at hd ht ⊢
        refine ⟨hpl, ?_, hcap, d1, t1, d2, t2⟩
        rw [hd, ht]; exact h.files
      | inr q => rw [p1, p2] at hpl; exact hpl.elim
    | inr q =>
      obtain ⟨co, F⟩ := q
      cases p2 : planA st.abs.cap st.abs.files x with
      | inl e' => rw [p1, p2] at hpl; exact hpl.elim
      | inr q2 =>
        obtain ⟨co2, F2⟩ := q2
        rw [p1, p2] at hpl
        rw [p1] at hd
        rw [p2] at ht
        simp only [planRes, actA] at hd ht ⊢
        rw [if_pos ha] at hd ⊢
        rw [if_pos hb] at ht ⊢
        refine ⟨rfl, ?_, hcap, d1, t1, d2, t2⟩
        rw [hd, ht]; exact hpl.2

theorem names_nodup {w : World} {s : DS} (hs : s.In w) : (s.abs.files.map (·.name)).Nodup := by rw [abs_names]; exact hs.names

theorem fileList_perm {w : World} {sd st : DS} (hs : sd.In w) (h : sd.abs.files.Perm st.abs.files) : fileList sd = fileList st := by
  rw [fileList_findA, fileList_findA, sortNames_congr (h.map _)]
  exact filterMap_cong (fun n _ => findA_perm h (names_nodup hs) n)

theorem filterMap_findA {l : List FileA} (hnd : (l.map (·.name)).Nodup) : ∀ (t : List FileA), (∀ f ∈ t, f ∈ l) → (t.map (·.name)).filterMap (findA l) = t
  | [], _ => rfl
  | a :: t, h => by
    rw [List.map_cons, List.filterMap_cons, findA_of_mem hnd (h a (by simp))]
    simp only
    rw [filterMap_findA hnd t (fun f hf => h f (by simp [hf]))]

/-- What Files tells is the files, in another order. -/
theorem fileList_files_perm {w : World} {s : DS} (hs : s.In w) : (fileList s).Perm s.abs.files := by
  rw [fileList_findA]
  have h := (sortNames_perm (s.abs.files.map (·.name))).filterMap (findA s.abs.files)
  rw [filterMap_findA (names_nodup hs) s.abs.files (fun f hf => hf)] at h
  exact h

theorem loadL_ok {cap : Nat} : ∀ (l : List FileI) (acc : List FileA), (∀ f ∈ l, nameOk f.name.data.toList = true ∧ 0 ≤ f.synced ∧ f.synced ≤ (f.data.length : Int)) → ((acc ++ l.map FileI.abs).map (·.name)).Nodup →
    usedA acc + usedA (l.map FileI.abs) ≤ cap → loadL cap l acc = .inr (acc ++ l.map FileI.abs)
  | [], acc, _, _, _ => by simp [loadL]
  | f :: t, acc, h1, h2, h3 => by
    obtain ⟨g1, g2, g3⟩ := h1 f (by simp)
    have hu : usedA ((f :: t).map FileI.abs) = f.data.length + usedA (t.map FileI.abs) := by simp [usedA, FileI.abs]
    have hua : usedA (acc ++ [f.abs]) = usedA acc + f.data.length := by simp [usedA, FileI.abs]
    have hno : (findA acc f.name).isSome = false := by
      cases hc : findA acc f.name with
      | none => rfl
      | some g =>
        obtain ⟨hm, hn⟩ := findA_mem hc
        rw [List.map_append, List.nodup_append] at h2
        exact absurd hn (h2.2.2 g.name (List.mem_map_of_mem hm) f.name (by simp [FileI.abs]))
    unfold loadL
    rw [if_neg (by rw [g1]; decide), if_neg (by rw [hno]; decide), if_neg (by omega), if_neg (by omega)]
    rw [loadL_ok t (acc ++ [f.abs]) (fun x hx => h1 x (by simp [hx])) (by simpa using h2) (by omega)]
    simp

def FV.toI (f : FV) : FileI := ⟨f.name, f.dv, f.data, f.synced⟩
theorem toI_abs (f : FV) : f.toI.abs = f.abs := by simp [FV.toI, FileI.abs, FV.abs]

theorem FilesAt.toIn {w : World} {base : Nat} {v : Value} {l : List FV} (h : FilesAt w base v l) : FilesIn w v (l.map FV.toI) := by
  obtain ⟨ao, cap, hv, h1, h2, h3⟩ := h.shape
  refine ⟨⟨ao, cap, by simpa using hv, by simpa using h1, by simpa [maxLen] using Nat.le_trans h2 (by decide : maxLen ≤ 9223372036854775807), fun k hk => ?_⟩, fun f hf => ?_, fun f hf a m c e _ => ?_⟩
  · have hk' : k < l.length := by simpa using hk
    obtain ⟨g, h4, -, h5, h6, h7, h8⟩ := h3 k hk'
    refine ⟨g, 0, h4, h5, ?_, ?_, ?_⟩
    · simpa [FV.toI] using h6
    · simpa [FV.toI] using h7
    · simpa [FV.toI] using h8
  · obtain ⟨x, hx, rfl⟩ := List.mem_map.1 hf
    exact (h.data x hx).bytes
  · obtain ⟨x, hx, rfl⟩ := List.mem_map.1 hf
    have e' : x.dv = .slice (some a) m c := e
    exact (h.data x hx).lt a.block (by rw [e']; rfl)

/-- Load of what Files told. -/
theorem load_told {w : World} {s : DS} (hs : s.In w) {l : List FV} (h : l.map FV.abs = fileList s) : loadA s.cap (l.map FV.toI) = .inr (fileList s) := by
  have habs : (l.map FV.toI).map FileI.abs = fileList s := by
    rw [← h, List.map_map]
    exact List.map_congr_left (fun f _ => toI_abs f)
  have hlen := fileList_le hs
  have hl : l.length = (fileList s).length := by rw [← h]; simp
  have hcap := hs.cap
  have hroom := hs.room
  have hmem : ∀ f ∈ l, f.abs ∈ s.abs.files := fun f hf => (fileList_files_perm hs).mem_iff.1 (by rw [← h]; exact List.mem_map_of_mem hf)
  unfold loadA
  rw [if_neg (by omega), if_neg (by simp; omega)]
  have hnat : ((s.cap : Int)).toNat = s.cap := by simp
  have hok : ∀ f ∈ l.map FV.toI, nameOk f.name.data.toList = true ∧ 0 ≤ f.synced ∧ f.synced ≤ (f.data.length : Int) := by
    intro f hf
    obtain ⟨x, hx, rfl⟩ := List.mem_map.1 hf
    have hm := hmem x hx
    obtain ⟨r, hr, hra⟩ := List.mem_map.1 hm
    have hin := hs.files r hr
    have e1 : x.name = r.name := (congrArg FileA.name hra).symm
    have e2 : x.data = r.data := (congrArg FileA.data hra).symm
    have e3 : x.synced = r.synced := (congrArg FileA.synced hra).symm
    simp only [FV.toI]
    rw [e1, e2, e3]
    have := hin.synced
    exact ⟨hin.name, by omega, by omega⟩
  have hus : usedA [] + usedA ((l.map FV.toI).map FileI.abs) ≤ s.cap := by
    rw [habs]
    have e1 : usedA (fileList s) = s.used := by rw [used_abs]; exact sum_perm (fileList_files_perm hs)
    have e2 : usedA [] = 0 := rfl
    omega
  rw [hnat, loadL_ok _ [] hok (by rw [List.nil_append, habs]; exact fileList_nodup hs) hus, List.nil_append, habs]

end Go.Proofs.YtohpgmeflmppaaaGreat
