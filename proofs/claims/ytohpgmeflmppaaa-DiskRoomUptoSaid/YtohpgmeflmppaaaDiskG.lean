/-
  Package disk, walked: Append, the call itself.
-/
import Derived.Test.YtohpgmeflmppaaaDiskF
namespace Go.Proofs.Ytohpgmeflmppaaa
set_option linter.unusedVariables false
set_option linter.unusedSimpArgs false
set_option linter.unnecessarySimpa false
set_option linter.unusedSectionVars false
open Go Go.RowKit

/-- What Append makes of a disk. -/
def appendA (s : DS) (n : ByteArray) (bs : List UInt8) : Int × DiskA :=
  if lookRes s.down (nameOk n.data.toList) false (s.fileAt n).isSome ≠ 0 then (lookRes s.down (nameOk n.data.toList) false (s.fileAt n).isSome, s.abs)
  else if 67108864 < bs.length then (2, s.abs)
  else match s.fileAt n with
    | none => (42, s.abs)
    | some _ => if s.cap - s.used < bs.length then (4, s.abs) else actA s.abs (some 6) (updA s.abs.files n (fun f => { f with data := f.data ++ bs }))

set_option maxRecDepth 100000 in
set_option maxHeartbeats 2000000 in
theorem append_any {w : World} {s : DS} (hs : s.In w) (n : ByteArray) {v : Value} {bs : List UInt8} (hv : BytesAt w v bs) (hvb : ∀ a l c, v = .slice (some a) l c → 0 < l → a.block ≠ s.p ∧ a.block < w.heap.size) :
    Calls Try.prog 31 #[.pointer (some ⟨s.p, 0, none⟩), .string n, v] w fun e w' => e = .returned (.int .i64 (appendA s n bs).1) ∧ ∃ s2, Step w w' s s2 ∧ s2.abs = (appendA s n bs).2 := by
  have hu2 : Upd (fun _ => False) w ((w.alloc (.cells #[.pointer (some ⟨s.p, 0, none⟩)] 23)).alloc (.cells #[v] 30)) := ((Upd.refl _ _).alloc _).alloc _
  have hin := hs.upd hu2 (fun _ _ h => h)
  have hst := Step.of_upd hs hu2
  have HL := hid (look_any hin n false)
  have hplt := hs.plt
  have hp1 : s.p < w.heap.size + 1 := by omega
  have hp2 : s.p < w.heap.size + 1 + 1 := by omega
  have cm := hin.c_map
  have hlk := run_lookup_file hin n
  unfold DS.ptrAt at hlk
  have HIN := hid hin; have HST := hid hst; have HS0 := hid hs
  obtain ⟨ao, cap, hvv, hv2, hv3⟩ := hv
  subst hvv
  have HV := hid hv2; have HV3 := hid hv3; have HVB := hid hvb
  clear hu2 hst hv2 hv3 hvb
  by_cases h1 : lookRes s.down (nameOk n.data.toList) false (s.fileAt n).isSome = 0
  · rw [h1] at HL
    by_cases h2 : 67108864 < bs.length
    · have hc : appendA s n bs = (2, s.abs) := by unfold appendA; rw [if_neg (by rw [h1]; simp), if_pos h2]
      rw [hc]
      have h2' : (67108864 : Int) < (bs.length : Int) := by omega
      clear h1 hc hs hin cm hlk h2
      go_enter Try.func31, Try.ntmps31
      go_wp2_with (go_at_call 47; refine HL.out.mono ?_; rintro e w' ⟨rfl, rfl⟩)
      go_ret
      exact ⟨rfl, s, HST.out, rfl⟩
    · have h2' : (bs.length : Int) ≤ 67108864 := by omega
      cases hf : s.fileAt n with
      | none =>
        have hc : appendA s n bs = (42, s.abs) := by unfold appendA; rw [if_neg (by rw [h1]; simp), if_neg h2]; simp only [hf]
        rw [hc]
        rw [hf] at hlk
        simp only [] at hlk
        clear h1 hc hs hin hf h2
        go_enter Try.func31, Try.ntmps31
        go_wp2_with (go_at_call 47; refine HL.out.mono ?_; rintro e w' ⟨rfl, rfl⟩)
        go_ret
        exact ⟨rfl, s, HST.out.trans (Step.of_upd HIN.out ((Upd.refl _ _).alloc _)), rfl⟩
      | some r =>
        rw [hf] at hlk
        simp only [] at hlk
        obtain ⟨hr, hnm⟩ := fileAt_mem hf
        have hin3 := hin.upd ((Upd.refl (fun _ => False) _).alloc (.cells #[.pointer (some ⟨r.blk, 0, none⟩)] 93)) (fun _ _ h => h)
        have hroomle := hs.room
        have hcaple := hs.cap
        by_cases h3 : s.cap - s.used < bs.length
        · have hc : appendA s n bs = (4, s.abs) := by unfold appendA; rw [if_neg (by rw [h1]; simp), if_neg h2]; simp only [hf]; rw [if_pos h3]
          rw [hc]
          have h3' : (((s.cap - s.used : Nat) : Int)) < (bs.length : Int) := by omega
          have HF := hid (fun k => free_any (hin3.upd ((Upd.refl (fun _ => False) _).drewN k) (fun _ _ h => h)))
          have HIN3 := hid hin3
          clear h1 hc hs hin hf h2 hr hnm hin3 h3 hroomle hcaple
          go_enter Try.func31, Try.ntmps31
          go_wp2_with (go_at_call 47; refine HL.out.mono ?_; rintro e w' ⟨rfl, rfl⟩)
          go_quiet ((go_at_call 25; exact Calls.quiet_of (HF.out _)))
          go_wp2
          go_ret
          exact ⟨rfl, s, (HST.out.trans (Step.of_upd HIN.out ((Upd.refl _ _).alloc _))).trans (Step.of_upd HIN3.out ((Upd.refl _ _).drewN _)), rfl⟩
        · have hc : appendA s n bs = actA s.abs (some 6) (updA s.abs.files n (fun f => { f with data := f.data ++ bs })) := by unfold appendA; rw [if_neg (by rw [h1]; simp), if_neg h2]; simp only [hf]; rw [if_neg h3]
          rw [hc]
          have h3' : (bs.length : Int) ≤ (((s.cap - s.used : Nat) : Int)) := by omega
          have hroom : s.used + bs.length ≤ s.cap := by omega
          have HF := hid (fun k => free_any (hin3.upd ((Upd.refl (fun _ => False) _).drewN k) (fun _ _ h => h)))
          have hen := fun caps W => run_enters (P := Try.prog) (G := 52) Try.func52 (by kernel_rfl) (by kernel_rfl) caps W
          have hnb : ∀ k, w.heap.size ≤ k → k ∉ s.blocks := fun k hk hm => by have := hs.lt k hm; omega
          have HE := hid hen; have HR := hid hr; have HN := hid hnm; have HNB := hid hnb; have HRM := hid hroom
          clear h1 hc hs hin hf h2 hr hnm hin3 h3 hroomle hcaple hen hnb hroom
          go_enter Try.func31, Try.ntmps31
          go_wp2_with (go_at_call 47; refine HL.out.mono ?_; rintro e w' ⟨rfl, rfl⟩)
          go_quiet ((go_at_call 25; exact Calls.quiet_of (HF.out _)))
          go_wp2_with fail
          have hup : Upd (fun _ => False) w ((((w.alloc (.cells #[.pointer (some ⟨s.p, 0, none⟩)] 23)).alloc (.cells #[.slice ao bs.length cap] 30)).alloc (.cells #[.pointer (some ⟨r.blk, 0, none⟩)] 93)).drewN nq) := (((((Upd.refl _ _).alloc _).alloc _).alloc _).drewN _)
          have p1 : ((((w.alloc (.cells #[.pointer (some ⟨s.p, 0, none⟩)] 23)).alloc (.cells #[.slice ao bs.length cap] 30)).alloc (.cells #[.pointer (some ⟨r.blk, 0, none⟩)] 93)).drewN nq).cell? ⟨w.heap.size, 0, none⟩ = some (.pointer (some ⟨s.p, 0, none⟩)) := by simp [go_sem]
          have p2 : ((((w.alloc (.cells #[.pointer (some ⟨s.p, 0, none⟩)] 23)).alloc (.cells #[.slice ao bs.length cap] 30)).alloc (.cells #[.pointer (some ⟨r.blk, 0, none⟩)] 93)).drewN nq).cell? ⟨w.heap.size + 1, 0, none⟩ = some (.slice ao bs.length cap) := by simp [go_sem]
          have p3 : ((((w.alloc (.cells #[.pointer (some ⟨s.p, 0, none⟩)] 23)).alloc (.cells #[.slice ao bs.length cap] 30)).alloc (.cells #[.pointer (some ⟨r.blk, 0, none⟩)] 93)).drewN nq).cell? ⟨w.heap.size + 1 + 1, 0, none⟩ = some (.pointer (some ⟨r.blk, 0, none⟩)) := by simp [go_sem]
          have p4 : ((((w.alloc (.cells #[.pointer (some ⟨s.p, 0, none⟩)] 23)).alloc (.cells #[.slice ao bs.length cap] 30)).alloc (.cells #[.pointer (some ⟨r.blk, 0, none⟩)] 93)).drewN nq).heap.size = w.heap.size + 1 + 1 + 1 := by simp [World.drewN]
          have HUP := hid hup
          clear hup hlk cm h3'
          generalize ((((w.alloc (.cells #[.pointer (some ⟨s.p, 0, none⟩)] 23)).alloc (.cells #[.slice ao bs.length cap] 30)).alloc (.cells #[.pointer (some ⟨r.blk, 0, none⟩)] 93)).drewN nq) = W at *
          have HIN2 := hid (HS0.out.upd HUP.out (fun _ _ h => h))
          go_still_tail 6, (by kernel_rfl)
          change wpList _ _ _ _ _ W.drew
          go_wp2_with fail
          refine (act_any (co := some 6) (HIN2.out.upd ((Upd.refl (fun _ => False) W).drew) (fun _ _ h => h)) (HE.out _) (F := updA s.abs.files n (fun f => { f with data := f.data ++ bs })) ?_ (by simp)).mono ?_
          · intro W1 s1 hi1 hu1 e1 e2 e3 e4 e5
            have keep : ∀ k i, w.heap.size ≤ k → k < W.heap.size → W1.cell? ⟨k, i, none⟩ = W.cell? ⟨k, i, none⟩ := fun k i h1 h2 => World.cell?_of_block (hu1.block k h2 (by show k ≠ s.p; omega))
            have hb1 : s1.blocks = s.blocks := by simp [DS.blocks, e1, e2, e3]
            have hused : s1.used = s.used := by simp [DS.used, e3]
            have hby : BytesAt W1 (.slice ao bs.length cap) bs := by
              refine ⟨ao, cap, rfl, HV.out, fun a ha j u hu => ?_⟩
              rw [← HV3.out a ha j u hu]
              have h0l : 0 < bs.length := by
                rcases Nat.eq_zero_or_pos bs.length with h | h
                · rw [List.getElem?_eq_none (by simp; omega)] at hu; cases hu
                · exact h
              obtain ⟨v1, v2⟩ := HVB.out a _ _ (by rw [ha]) h0l
              have hab : (a.add j).block = a.block := by unfold Addr.add; split <;> rfl
              rw [World.cell?_of_block (w := W) (hu1.block _ (by rw [hab]; show a.block < W.heap.size; omega) (by rw [hab]; exact v1)), World.cell?_of_block (w := w) (HUP.out.block _ (by rw [hab]; exact v2) (fun h => h))]
            refine (append1_any hi1 (r := r) (by rw [e3]; exact HR.out) hby (by rw [hused, e4]; exact HRM.out) ((keep _ 0 (by omega) (by omega)).trans p3) ((keep _ 0 (by omega) (by omega)).trans p2) (((keep _ 0 (by omega) (by omega)).trans p1).trans (by rw [e1]))
              (by rw [hb1]; exact HNB.out _ (by omega)) (by rw [hb1]; exact HNB.out _ (by omega)) (by rw [hb1]; exact HNB.out _ (by omega))).mono ?_
            rintro e W' ⟨rfl, s2, hst, c1, c2, c3, c4, c5⟩
            exact ⟨rfl, s2, hst, c1, c2, c3, c4, by rw [c5, e3, HN.out]; rfl⟩
          · rintro e w1 ⟨rfl, s2, hst, habs⟩
            have H1 := hid hst; have H2 := hid habs
            clear hst habs
            go_wp2
            go_ret
            exact ⟨rfl, s2, ((Step.of_upd HS0.out HUP.out).trans (Step.of_upd HIN2.out ((Upd.refl _ _).drew))).trans H1.out, H2.out⟩
  · have hc : appendA s n bs = (lookRes s.down (nameOk n.data.toList) false (s.fileAt n).isSome, s.abs) := by unfold appendA; rw [if_pos h1]
    rw [hc]
    generalize lookRes s.down (nameOk n.data.toList) false (s.fileAt n).isSome = e0 at *
    have hb : (e0 != 0) = true := by simpa using h1
    clear h1 hc hs hin cm hlk
    go_enter Try.func31, Try.ntmps31
    go_wp2_with (go_at_call 47; refine HL.out.mono ?_; rintro e w' ⟨rfl, rfl⟩)
    go_ret
    exact ⟨rfl, s, HST.out, rfl⟩

end Go.Proofs.Ytohpgmeflmppaaa
