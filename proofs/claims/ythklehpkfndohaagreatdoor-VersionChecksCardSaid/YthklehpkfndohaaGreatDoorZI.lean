/-
  VersionChecks: the walk.
-/
import Derived.Test.YthklehpkfndohaaGreatDoorZH
import Derived.Test.YthklehpkfndohaaGreatDoorYU
import Derived.Test.YthklehpkfndohaaGreatDoorZF
import Derived.Test.YthklehpkfndohaaGreatDoorYQ
import Derived.Test.YthklehpkfndohaaGreatDoorYP
namespace Go.Proofs.YthklehpkfndohaaGreatDoor
set_option linter.unusedVariables false
set_option linter.unusedSimpArgs false
set_option linter.unnecessarySimpa false
set_option linter.unusedSectionVars false
open Go Go.RowKit

def encR (x : VerA) : List UInt8 := if okA x then encodeB x else []

theorem checkA_in (x : VerA) : 0 ≤ checkA x ∧ checkA x ≤ 101 := by
  unfold checkA; split <;> omega

theorem enc_all {w : World} {v : Value} {x : VerA} (hT : TabIn w) (hv : VerAt w v x) (hl : ∀ r ∈ x.runs, r.first.length ≤ 140737488351232 ∧ r.last.length ≤ 140737488351232) :
    Calls Tryz.prog 16 #[v] w fun e w' => ∃ v', e = .returned (.tuple #[v', .int .i64 (checkA x)]) ∧ NewB w w' v' (encR x) := by
  by_cases hb : okA x = true
  · refine (encode_any hT hv hb).mono ?_
    rintro e w' ⟨v', rfl, h⟩
    refine ⟨v', by unfold checkA; rw [if_pos hb], ?_⟩
    unfold encR
    rw [if_pos hb]; exact h
  · have hb := eq_false_of_ne_true hb
    refine (encode_bad hv hl hb).mono ?_
    rintro e w' ⟨rfl, h⟩
    refine ⟨_, by unfold checkA; rw [hb]; rfl, ?_⟩
    unfold encR
    rw [hb]
    exact ⟨.inl ⟨rfl, rfl⟩, (fun k e => by cases e), h⟩

theorem refEnc_all {w : World} {v : Value} {x : VerA} (hv : VerAt w v x) (hl : ∀ r ∈ x.runs, r.first.length ≤ 140737488351232 ∧ r.last.length ≤ 140737488351232) :
    Calls Tryz.prog 17 #[v] w fun e w' => ∃ v', e = .returned (.tuple #[v', .int .i64 (checkA x)]) ∧ NewB w w' v' (encR x) := by
  by_cases hb : okA x = true
  · refine (refEncode_any hv hb).mono ?_
    rintro e w' ⟨v', rfl, h⟩
    refine ⟨v', by unfold checkA; rw [if_pos hb], ?_⟩
    unfold encR
    rw [if_pos hb]; exact h
  · have hb := eq_false_of_ne_true hb
    refine (refEncode_bad hv hl hb).mono ?_
    rintro e w' ⟨rfl, h⟩
    refine ⟨_, by unfold checkA; rw [hb]; rfl, ?_⟩
    unfold encR
    rw [hb]
    exact ⟨.inl ⟨rfl, rfl⟩, (fun k e => by cases e), h⟩

theorem LaidAt.keep {w W W' : World} {v wv : Value} {x : VerA} {sv : Value} {gr cr : Nat} {L : List MV} {WL : List WB} (h : LaidAt w W v wv x sv gr cr L WL) (hu : Upd (fun _ => False) W W') : LaidAt w W' v wv x sv gr cr L WL :=
  ⟨h.eq, h.st.upd hu (fun _ _ e => e), h.runs.keepT hu (fun _ e => e.elim), h.map, h.arr.keep hu, h.link, h.own⟩

theorem LaidAt.low {w W : World} {v wv : Value} {x : VerA} {sv : Value} {gr cr : Nat} {L : List MV} {WL : List WB} (h : LaidAt w W v wv x sv gr cr L WL) {k : Nat} (hk : k = gr ∨ ArrIn WL k) : w.heap.size ≤ k ∧ k < W.heap.size := by
  rcases hk with rfl | ⟨y, hy, rfl⟩
  · obtain ⟨-, hr⟩ := h.runs.row
    rcases hr with ⟨e, -⟩ | ⟨g, cap, cur, e, hb, hg, -⟩
    · cases e
    · injection e with e1
      injection e1 with e1
      injection e1 with e1
      subst e1
      exact ⟨hb, lt_of_heap hg⟩
  · refine ⟨h.own.2 y.g ?_, (h.arr.data y hy).lt _ rfl⟩
    rw [← h.link]
    exact List.mem_map.2 ⟨y, hy, rfl⟩

theorem tabIs_keep {w w' : World} {name : String} {k : IntKind} {zs : List Int} (h : Lib.TabIs Tryz.prog w name k zs) (hu : Upd (fun _ => False) w w') : Lib.TabIs Tryz.prog w' name k zs := by
  unfold Lib.TabIs at h ⊢
  unfold World.var? at h ⊢
  cases hg : Tryz.prog.globalNamed name with
  | none => rw [hg] at h; cases h
  | some g =>
    rw [hg] at h
    simp only [Option.bind_some] at h ⊢
    cases hw : w.heap[g]? with
    | none => rw [hw] at h; cases h
    | some o => rw [hu.get hw (fun e => e)]; rw [hw] at h; exact h

set_option maxRecDepth 100000 in
set_option maxHeartbeats 6400000 in
theorem versionChecks_walk {w : World} {v : Value} {x : VerA} {pre : ByteArray} {n : Int} (hT : TabIn w) (hv : VerAt w v x) (hin : VerIn x) (hp : pre.size ≤ 140737488355328) (hn : n ≤ 9223372036854775807) (htab : Lib.TabIs Tryz.prog w "internal/strconv.uint64pow10" .u64 Lib.pow10Tab) :
    Calls Tryz.prog 4 #[v, .string pre, .int .i64 n] w fun e w' => e = .returned (.bool true) ∧ Upd (fun _ => False) w w' := by
  have HV := hid hv; have HT := hid hT; have HIN := hid hin; have HTAB := hid htab
  have HLK := hid (show ∀ r ∈ x.runs, r.first.length ≤ 140737488351232 ∧ r.last.length ≤ 140737488351232 from fun r hr => (hin.2.2.2.2.2.2.2 r hr).2.2.2.2.2.2)
  obtain ⟨s1, d1, s2, d2, rfl, -, -⟩ := hv
  obtain ⟨m1, hm1⟩ : ∃ m, m = x.state.length := ⟨_, rfl⟩
  obtain ⟨m2, hm2⟩ : ∃ m, m = x.runs.length := ⟨_, rfl⟩
  rw [← hm1, ← hm2] at HV ⊢
  have HM1 := hid hm1; have HM2 := hid hm2; have HPN := hid (And.intro hp hn)
  clear hm1 hm2 hT hin htab hp hn
  go_enter Tryz.func4, Tryz.ntmps4
  go_upto_region 1 with fail
  have hua := (Upd.refl (fun _ => False) w).alloc (.cells #[.int .i64 x.gen, .int .i64 x.flushed, .int .i64 x.next, .int .i64 x.low, .int .i64 x.clock, .slice s1 m1 d1, .slice s2 m2 d2] 27)
  have hra := heap_alloc_new w (.cells #[.int .i64 x.gen, .int .i64 x.flushed, .int .i64 x.next, .int .i64 x.low, .int .i64 x.clock, .slice s1 m1 d1, .slice s2 m2 d2] 27)
  obtain ⟨p3, hp3⟩ : ∃ p, p = w.heap.size := ⟨_, rfl⟩
  rw [← hp3] at hra ⊢
  have HRp3 := hid hra; have HUA := hid hua

  generalize w.alloc (.cells #[.int .i64 x.gen, .int .i64 x.flushed, .int .i64 x.next, .int .i64 x.low, .int .i64 x.clock, .slice s1 m1 d1, .slice s2 m2 d2] 27) = W1 at HUA HRp3 ⊢
  clear hra hua hp3
  have HA1 := hid (HV.out.keep HUA.out)
  have HU1 := HUA
  obtain ⟨⟨z0, z1, z2, z3, z4, z5, z6⟩, -, hzl⟩ := verCells HRp3.out
  have HCO := hid (copied_any HA1.out HIN.out)
  go_wp2_with fail
  refine HCO.out.mono ?_
  rintro e W2 ⟨v2, rfl, hown, hu2⟩
  have HA2 := hid hown.at
  obtain ⟨t1, e1, t2, e2, rfl, -, -⟩ := hown.at
  rw [← HM1.out, ← HM2.out] at HA2 ⊢
  have HU2 := hid (HU1.out.trans hu2 (fun _ _ e => e))
  clear hown hu2 z0 z1 z2 z3 z4 z5 z6 hzl HCO HRp3 HUA HU1 HA1
  go_upto_region 2 with fail
  have hua := (Upd.refl (fun _ => False) W2).alloc (.cells #[.int .i64 x.gen, .int .i64 x.flushed, .int .i64 x.next, .int .i64 x.low, .int .i64 x.clock, .slice t1 m1 e1, .slice t2 m2 e2] 27)
  have hra := heap_alloc_new W2 (.cells #[.int .i64 x.gen, .int .i64 x.flushed, .int .i64 x.next, .int .i64 x.low, .int .i64 x.clock, .slice t1 m1 e1, .slice t2 m2 e2] 27)
  obtain ⟨p7, hp7⟩ : ∃ p, p = W2.heap.size := ⟨_, rfl⟩
  rw [← hp7] at hra ⊢
  have HRp7 := hid hra; have HUA := hid hua

  generalize W2.alloc (.cells #[.int .i64 x.gen, .int .i64 x.flushed, .int .i64 x.next, .int .i64 x.low, .int .i64 x.clock, .slice t1 m1 e1, .slice t2 m2 e2] 27) = W3 at HUA HRp7 ⊢
  clear hra hua hp7
  have HA3 := hid (HA2.out.keep HUA.out)
  have HU3 := hid (HU2.out.trans HUA.out (fun _ _ e => e))
  have HP7 := hid (lt_of_heap HRp7.out)
  clear HA2 HUA HU2
  have HLD := hid (laid_any HA3.out HIN.out)
  obtain ⟨⟨z0, z1, z2, z3, z4, z5, z6⟩, -, hzl⟩ := verCells HRp7.out
  go_wp2_with fail
  refine HLD.out.mono ?_
  rintro e W4 ⟨v4, wv, sv, gr, cr, L, WL, rfl, hlaid, hu4⟩
  obtain ⟨q1, f1, esv, -⟩ := hlaid.st.bat
  subst esv
  have hv4 := hlaid.eq
  obtain ⟨wa, wc, ew⟩ := hlaid.arr.shape
  obtain ⟨LW, hLW⟩ : ∃ l, l = WL.length := ⟨_, rfl⟩
  rw [← hLW] at ew
  subst ew
  subst hv4
  rw [← HM1.out, ← HM2.out] at hlaid ⊢
  have HLA4 := hid hlaid
  have HA4 := hid (HA3.out.keep hu4); have HU4 := hid (HU3.out.trans hu4 (fun _ _ e => e)); have HR4 := hid (hu4.get HRp7.out (fun e => e))
  have HQ4 := hid hu4
  clear hlaid hu4 hLW z0 z1 z2 z3 z4 z5 z6 hzl HLD HRp7
  go_upto_region 3 with fail
  have hua := (Upd.refl (fun _ => False) W4).alloc (.cells #[.int .i64 x.gen, .int .i64 x.flushed, .int .i64 x.next, .int .i64 x.low, .int .i64 x.clock, .slice q1 m1 f1, .slice (some ⟨gr, 0, none⟩) m2 cr] 27)
  have hra := heap_alloc_new W4 (.cells #[.int .i64 x.gen, .int .i64 x.flushed, .int .i64 x.next, .int .i64 x.low, .int .i64 x.clock, .slice q1 m1 f1, .slice (some ⟨gr, 0, none⟩) m2 cr] 27)
  obtain ⟨p8, hp8⟩ : ∃ p, p = W4.heap.size := ⟨_, rfl⟩
  rw [← hp8] at hra ⊢
  have HRp8 := hid hra; have HUA := hid hua

  generalize W4.alloc (.cells #[.int .i64 x.gen, .int .i64 x.flushed, .int .i64 x.next, .int .i64 x.low, .int .i64 x.clock, .slice q1 m1 f1, .slice (some ⟨gr, 0, none⟩) m2 cr] 27) = W5 at HUA HRp8 ⊢
  clear hra hua hp8
  have HLA5 := hid (HLA4.out.keep HUA.out); have HA5 := hid (HA4.out.keep HUA.out); have HU5 := hid (HU4.out.trans HUA.out (fun _ _ e => e)); have HR5 := hid (HUA.out.get HR4.out (fun e => e)); have HQ5 := hid (HQ4.out.trans HUA.out (fun _ _ e => e))
  have HB5 := hid (show ∀ k, (k = gr ∨ ArrIn WL k) → k < W5.heap.size from fun k hk => Nat.lt_of_lt_of_le (HLA4.out.low hk).2 HUA.out.size)
  clear HLA4 HUA HU4 HR4
  have HCK := hid (verCheck_any HLA5.out.at HLK.out)
  obtain ⟨⟨z0, z1, z2, z3, z4, z5, z6⟩, -, hzl⟩ := verCells HRp8.out
  go_wp2_with fail
  refine HCK.out.mono ?_
  rintro e W6 ⟨rfl, hu6⟩
  have HLA6 := hid (HLA5.out.keep hu6); have HA6 := hid (HA5.out.keep hu6); have HU6 := hid (HU5.out.trans hu6 (fun _ _ e => e)); have HR6 := hid (hu6.get HR5.out (fun e => e)); have HR6b := hid (hu6.get HRp8.out (fun e => e)); have HS6 := hid hu6.size; have HQ6 := hid (HQ5.out.trans hu6 (fun _ _ e => e))
  clear hu6 z0 z1 z2 z3 z4 z5 z6 hzl HCK HLA5 HA5 HR5 HRp8 HU5
  have HEN := hid (enc_all (HT.out.keep HU6.out) HLA6.out.at HLK.out)
  obtain ⟨⟨z0, z1, z2, z3, z4, z5, z6⟩, -, hzl⟩ := verCells HR6b.out
  go_wp2_with fail
  refine HEN.out.mono ?_
  rintro e W7 ⟨v7, rfl, hn7⟩
  obtain ⟨b1, b2, e7, -, -⟩ := hn7.shape
  obtain ⟨n7, hn7l⟩ : ∃ n, n = (encR x).length := ⟨_, rfl⟩
  rw [← hn7l] at e7
  subst e7
  have HLA7 := hid (HLA6.out.keep hn7.upd); have HA7 := hid (HA6.out.keep hn7.upd); have HU7 := hid (HU6.out.trans hn7.upd (fun _ _ e => e)); have HR7 := hid (hn7.upd.get HR6.out (fun e => e)); have HR7b := hid (hn7.upd.get HR6b.out (fun e => e)); have HS7 := hid (Nat.le_trans HS6.out hn7.upd.size); have HQ7 := hid (HQ6.out.trans hn7.upd (fun _ _ e => e))
  have HD7 := hid (hn7.data); have HN7 := hid (show ∀ k, (Value.slice b1 n7 b2).ownBlock = some k → W5.heap.size ≤ k from fun k e => Nat.le_trans HS6.out (hn7.new k e))
  have HNL := hid hn7l
  clear hn7 z0 z1 z2 z3 z4 z5 z6 hzl HEN HLA6 HA6 HR6 HR6b HU6 HS6 hn7l
  have HEN := hid (refEnc_all HA7.out HLK.out)
  obtain ⟨⟨z0, z1, z2, z3, z4, z5, z6⟩, -, hzl⟩ := verCells HR7.out
  go_wp2_with fail
  refine HEN.out.mono ?_
  rintro e W8 ⟨v8, rfl, hn8⟩
  obtain ⟨c1, c2, e8, -, -⟩ := hn8.shape
  rw [← HNL.out] at e8
  subst e8
  have HLA8 := hid (HLA7.out.keep hn8.upd); have HA8 := hid (HA7.out.keep hn8.upd); have HU8 := hid (HU7.out.trans hn8.upd (fun _ _ e => e)); have HR8 := hid (hn8.upd.get HR7.out (fun e => e)); have HR8b := hid (hn8.upd.get HR7b.out (fun e => e)); have HQ8 := hid (HQ7.out.trans hn8.upd (fun _ _ e => e))
  have HD8 := hid hn8.data; have HN8 := hid (show ∀ k, (Value.slice c1 n7 c2).ownBlock = some k → W5.heap.size ≤ k from fun k e => Nat.le_trans HS7.out (hn8.new k e))
  have HD8b := hid (HD7.out.upd hn8.upd (fun _ _ e => e))
  clear hn8 z0 z1 z2 z3 z4 z5 z6 hzl HEN HLA7 HA7 HR7 HR7b HU7 HS7 HD7
  have HKE := hid (kept_any HLA8.out HA8.out HIN.out)
  obtain ⟨⟨z0, z1, z2, z3, z4, z5, z6⟩, -, hzl⟩ := verCells HR8.out
  obtain ⟨⟨y0, y1, y2, y3, y4, y5, y6⟩, -, hyl⟩ := verCells HR8b.out
  go_wp2_with fail
  refine HKE.out.mono ?_
  rintro e W9 ⟨rfl, hu9⟩
  have HU9 := hid (HU8.out.trans hu9 (fun k hk e => by have := (HLA8.out.low e).1; have := HU3.out.size; omega))
  have HR9 := hid (hu9.get HR8.out (fun e => by have := (HLA8.out.low e).1; have := HP7.out; omega))
  have HD9 := hid (HD8.out.upd hu9 (fun k e e2 => by have := HN8.out k e; have := HB5.out k e2; omega))
  have HD9b := hid (HD8b.out.upd hu9 (fun k e e2 => by have := HN7.out k e; have := HB5.out k e2; omega))
  have HA9 := hid (HA3.out.keep (HQ8.out.trans hu9 (fun k hk e => by have := (HLA8.out.low e).1; omega)))
  clear hu9 z0 z1 z2 z3 z4 z5 z6 hzl y0 y1 y2 y3 y4 y5 y6 hyl HKE HLA8 HA8 HR8 HR8b HU8 HD8 HD8b HN7 HN8 HB5 HU3 HP7 HA3 HQ4 HQ5 HQ6 HQ7 HQ8 HA4
  go_upto_region 7 with fail
  obtain ⟨ck, hck⟩ : ∃ c, c = checkA x := ⟨_, rfl⟩
  rw [← hck]
  have HCB := hid (show 0 ≤ ck ∧ ck ≤ 101 from by rw [hck]; exact checkA_in x)
  have HCE := hid hck
  obtain ⟨rn, hrn⟩ : ∃ r, r = runName pre n := ⟨_, rfl⟩
  have HRN := hid hrn
  clear hck hrn HM1 HM2 HV HIN HNL
  have hHeld : W9.drew.heap[p7]? = some (.cells #[.int .i64 x.gen, .int .i64 x.flushed, .int .i64 x.next, .int .i64 x.low, .int .i64 x.clock, .slice t1 m1 e1, .slice t2 m2 e2] 27 (0, 0)) := HR9.out
  clear HR9
  refine wp_region_l (fun W => W.heap[p7]? = some (.cells #[.int .i64 x.gen, .int .i64 x.flushed, .int .i64 x.next, .int .i64 x.low, .int .i64 x.clock, .slice t1 m1 e1, .slice t2 m2 e2] 27 (0, 0))) 29 30 rfl (by kernel_rfl) ?_
  refine' wpAnyL_take 0 [1, 4, 5, 10, 11, 16, 17, 20, 21, 29] (v := _) rfl (by kernel_rfl) (by kernel_rfl) (by kernel_rfl) (by kernel_rfl) (by simp) (fun _ _ _ h => h) (Or.inl ⟨by rfl, ?hy0⟩) (by assumption) ?rest0
  case hy0 => (intro wS hSw; (try dsimp only at hSw); go_simp; (try with_reducible rfl))
  (try simp only [Act.put, List.setIfInBounds_toArray, List.set_cons_zero, List.set_cons_succ])
  refine' wpAnyL_take 2 [3, 4, 5, 10, 11, 16, 17, 20, 21, 29] (v := _) rfl (by kernel_rfl) (by kernel_rfl) (by kernel_rfl) (by kernel_rfl) (by simp) (fun _ _ _ h => h) (Or.inl ⟨by rfl, ?hy2⟩) (by assumption) ?rest2
  case hy2 => (intro wS hSw; obtain ⟨⟨r0, r1, r2, r3, r4, r5, r6⟩, -, -⟩ := verCells hSw; go_simp; (try with_reducible rfl))
  (try simp only [Act.put, List.setIfInBounds_toArray, List.set_cons_zero, List.set_cons_succ])
  refine wpAnyL_one 1 rfl (by kernel_rfl) (fun K hK => ?_)
  go_simp
  go_at_call 8
  refine (lawNum_any _ _ (by have := HCB.out; omega)).mono ?_
  rintro e W ⟨rfl, hww⟩
  obtain rfl := hww.symm
  refine hK.out _ _ (fun _ => hHeld) ?_
  clear hK K
  (try simp only [Act.put, List.setIfInBounds_toArray, List.set_cons_zero, List.set_cons_succ])
  refine wpAnyL_one 3 rfl (by kernel_rfl) (fun K hK => ?_)
  go_simp
  go_at_call 19
  refine (refCheck10_any (HA9.out.keep (Upd.refl (fun _ => False) W9).drew) HLK.out).mono ?_
  rintro e W10 ⟨rfl, hu10⟩
  have hHeld10 := hu10.get hHeld (fun e => e)
  have HU10 := hid (HU9.out.drew.trans hu10 (fun _ _ e => e))
  have HSM := hid (lawSame_any (HD9b.out.upd ((Upd.refl (fun _ => False) W9).drew.trans hu10 (fun _ _ e => e)) (fun _ _ e => e)).bat (HD9.out.upd ((Upd.refl (fun _ => False) W9).drew.trans hu10 (fun _ _ e => e)) (fun _ _ e => e)).bat)
  rw [decide_eq_true rfl] at HSM
  rw [← HCE.out]
  clear hu10
  refine hK.out _ _ (fun _ => hHeld10) ?_
  clear hK K
  (try simp only [Act.put, List.setIfInBounds_toArray, List.set_cons_zero, List.set_cons_succ])
  refine wpAnyL_one 4 rfl (by kernel_rfl) (fun K hK => ?_)
  go_simp
  refine hK.out _ _ (fun _ => hHeld10) ?_
  clear hK K
  (try simp only [Act.put, List.setIfInBounds_toArray, List.set_cons_zero, List.set_cons_succ])
  refine wpAnyL_one 5 rfl (by kernel_rfl) (fun K hK => ?_)
  go_simp
  refine hK.out _ _ (fun _ => hHeld10) ?_
  clear hK K
  (try simp only [Act.put, List.setIfInBounds_toArray, List.set_cons_zero, List.set_cons_succ])
  refine' wpAnyL_take 6 [7, 9, 10, 11, 16, 17, 20, 21, 29] (v := _) rfl (by kernel_rfl) (by kernel_rfl) (by kernel_rfl) (by kernel_rfl) (by simp) (fun _ _ _ h => h) (Or.inl ⟨by rfl, ?hy6⟩) (by assumption) ?rest6
  case hy6 => (intro wS hSw; (try dsimp only at hSw); go_simp; (try with_reducible rfl))
  (try simp only [Act.put, List.setIfInBounds_toArray, List.set_cons_zero, List.set_cons_succ])
  refine' wpAnyL_take 8 [9, 10, 11, 16, 17, 20, 21, 29] (v := _) rfl (by kernel_rfl) (by kernel_rfl) (by kernel_rfl) (by kernel_rfl) (by simp) (fun _ _ _ h => h) (Or.inl ⟨by rfl, ?hy8⟩) (by assumption) ?rest8
  case hy8 => (intro wS hSw; (try dsimp only at hSw); go_simp; (try with_reducible rfl))
  (try simp only [Act.put, List.setIfInBounds_toArray, List.set_cons_zero, List.set_cons_succ])
  refine wpAnyL_one 7 rfl (by kernel_rfl) (fun K hK => ?_)
  go_simp
  go_at_call 8
  refine (lawNum_any _ _ (by have := HCB.out; omega)).mono ?_
  rintro e W ⟨rfl, hww⟩
  obtain rfl := hww.symm
  refine hK.out _ _ (fun _ => hHeld10) ?_
  clear hK K
  (try simp only [Act.put, List.setIfInBounds_toArray, List.set_cons_zero, List.set_cons_succ])
  refine wpAnyL_one 9 rfl (by kernel_rfl) (fun K hK => ?_)
  go_simp
  refine hK.out _ _ (fun _ => hHeld10) ?_
  clear hK K
  (try simp only [Act.put, List.setIfInBounds_toArray, List.set_cons_zero, List.set_cons_succ])
  refine wpAnyL_one 10 rfl (by kernel_rfl) (fun K hK => ?_)
  go_simp
  refine hK.out _ _ (fun _ => hHeld10) ?_
  clear hK K
  (try simp only [Act.put, List.setIfInBounds_toArray, List.set_cons_zero, List.set_cons_succ])
  refine wpAnyL_one 11 rfl (by kernel_rfl) (fun K hK => ?_)
  go_simp
  refine hK.out _ _ (fun _ => hHeld10) ?_
  clear hK K
  (try simp only [Act.put, List.setIfInBounds_toArray, List.set_cons_zero, List.set_cons_succ])
  refine' wpAnyL_take 12 [14, 15, 16, 17, 20, 21, 29] (v := _) rfl (by kernel_rfl) (by kernel_rfl) (by kernel_rfl) (by kernel_rfl) (by simp) (fun _ _ _ h => h) (Or.inl ⟨by rfl, ?hy12⟩) (by assumption) ?rest12
  case hy12 => (intro wS hSw; (try dsimp only at hSw); go_simp; (try with_reducible rfl))
  (try simp only [Act.put, List.setIfInBounds_toArray, List.set_cons_zero, List.set_cons_succ])
  refine' wpAnyL_take 13 [14, 15, 16, 17, 20, 21, 29] (v := _) rfl (by kernel_rfl) (by kernel_rfl) (by kernel_rfl) (by kernel_rfl) (by simp) (fun _ _ _ h => h) (Or.inl ⟨by rfl, ?hy13⟩) (by assumption) ?rest13
  case hy13 => (intro wS hSw; (try dsimp only at hSw); go_simp; (try with_reducible rfl))
  (try simp only [Act.put, List.setIfInBounds_toArray, List.set_cons_zero, List.set_cons_succ])
  refine wpAnyL_one 14 rfl (by kernel_rfl) (fun K hK => ?_)
  go_simp
  go_at_call 10
  refine HSM.out.mono ?_
  rintro e W ⟨rfl, hww⟩
  obtain rfl := hww.symm
  refine hK.out _ _ (fun _ => hHeld10) ?_
  clear hK K
  (try simp only [Act.put, List.setIfInBounds_toArray, List.set_cons_zero, List.set_cons_succ])
  refine wpAnyL_one 15 rfl (by kernel_rfl) (fun K hK => ?_)
  go_simp
  refine hK.out _ _ (fun _ => hHeld10) ?_
  clear hK K
  (try simp only [Act.put, List.setIfInBounds_toArray, List.set_cons_zero, List.set_cons_succ])
  refine wpAnyL_one 16 rfl (by kernel_rfl) (fun K hK => ?_)
  go_simp
  refine hK.out _ _ (fun _ => hHeld10) ?_
  clear hK K
  (try simp only [Act.put, List.setIfInBounds_toArray, List.set_cons_zero, List.set_cons_succ])
  refine wpAnyL_one 17 rfl (by kernel_rfl) (fun K hK => ?_)
  go_simp
  refine hK.out _ _ (fun _ => hHeld10) ?_
  clear hK K
  (try simp only [Act.put, List.setIfInBounds_toArray, List.set_cons_zero, List.set_cons_succ])
  refine wpAnyL_one 18 rfl (by kernel_rfl) (fun K hK => ?_)
  go_simp
  refine hK.out _ _ (fun _ => hHeld10) ?_
  clear hK K
  (try simp only [Act.put, List.setIfInBounds_toArray, List.set_cons_zero, List.set_cons_succ])
  refine wpAnyL_one 19 rfl (by kernel_rfl) (fun K hK => ?_)
  go_simp
  refine hK.out _ _ (fun _ => hHeld10) ?_
  clear hK K
  (try simp only [Act.put, List.setIfInBounds_toArray, List.set_cons_zero, List.set_cons_succ])
  refine wpAnyL_one 20 rfl (by kernel_rfl) (fun K hK => ?_)
  go_simp
  refine hK.out _ _ (fun _ => hHeld10) ?_
  clear hK K
  (try simp only [Act.put, List.setIfInBounds_toArray, List.set_cons_zero, List.set_cons_succ])
  refine wpAnyL_one 21 rfl (by kernel_rfl) (fun K hK => ?_)
  go_simp
  refine hK.out _ _ (fun _ => hHeld10) ?_
  clear hK K
  (try simp only [Act.put, List.setIfInBounds_toArray, List.set_cons_zero, List.set_cons_succ])
  refine' wpAnyL_take 22 [24, 28, 29] (v := _) rfl (by kernel_rfl) (by kernel_rfl) (by kernel_rfl) (by kernel_rfl) (by simp) (fun _ _ _ h => h) (Or.inl ⟨by rfl, ?hy22⟩) (by assumption) ?rest22
  case hy22 => (intro wS hSw; (try dsimp only at hSw); go_simp; (try with_reducible rfl))
  (try simp only [Act.put, List.setIfInBounds_toArray, List.set_cons_zero, List.set_cons_succ])
  refine' wpAnyL_take 23 [24, 28, 29] (v := _) rfl (by kernel_rfl) (by kernel_rfl) (by kernel_rfl) (by kernel_rfl) (by simp) (fun _ _ _ h => h) (Or.inl ⟨by rfl, ?hy23⟩) (by assumption) ?rest23
  case hy23 => (intro wS hSw; (try dsimp only at hSw); go_simp; (try with_reducible rfl))
  (try simp only [Act.put, List.setIfInBounds_toArray, List.set_cons_zero, List.set_cons_succ])
  refine' wpAnyL_take 25 [27, 28, 29] (v := _) rfl (by kernel_rfl) (by kernel_rfl) (by kernel_rfl) (by kernel_rfl) (by simp) (fun _ _ _ h => h) (Or.inl ⟨by rfl, ?hy25⟩) (by assumption) ?rest25
  case hy25 => (intro wS hSw; (try dsimp only at hSw); go_simp; (try with_reducible rfl))
  (try simp only [Act.put, List.setIfInBounds_toArray, List.set_cons_zero, List.set_cons_succ])
  refine' wpAnyL_take 26 [27, 28, 29] (v := _) rfl (by kernel_rfl) (by kernel_rfl) (by kernel_rfl) (by kernel_rfl) (by simp) (fun _ _ _ h => h) (Or.inl ⟨by rfl, ?hy26⟩) (by assumption) ?rest26
  case hy26 => (intro wS hSw; (try dsimp only at hSw); go_simp; (try with_reducible rfl))
  (try simp only [Act.put, List.setIfInBounds_toArray, List.set_cons_zero, List.set_cons_succ])
  refine wpAnyL_one 24 rfl (by kernel_rfl) (fun K hK => ?_)
  go_simp
  go_at_call 20
  refine (runName_any W10 pre n HPN.out.1 HPN.out.2 (tabIs_keep HTAB.out HU10.out)).mono ?_
  rintro e W11 ⟨rfl, hu11⟩
  rw [← HRN.out]
  have hHeld11 := hu11.get hHeld10 (fun e => e)
  have HU11 := hid (HU10.out.trans hu11 (fun _ _ e => e))
  clear hu11
  refine hK.out _ _ (fun _ => hHeld11) ?_
  clear hK K
  (try simp only [Act.put, List.setIfInBounds_toArray, List.set_cons_zero, List.set_cons_succ])
  refine wpAnyL_one 27 rfl (by kernel_rfl) (fun K hK => ?_)
  go_simp
  go_at_call 21
  refine (refRunName_any W11 pre n HPN.out.1 HPN.out.2).mono ?_
  rintro e W12 ⟨rfl, hu12⟩
  rw [← HRN.out]
  have hHeld12 := hu12.get hHeld11 (fun e => e)
  have HU12 := hid (HU11.out.trans hu12 (fun _ _ e => e))
  clear hu12
  refine hK.out _ _ (fun _ => hHeld12) ?_
  clear hK K
  (try simp only [Act.put, List.setIfInBounds_toArray, List.set_cons_zero, List.set_cons_succ])
  refine wpAnyL_one 28 rfl (by kernel_rfl) (fun K hK => ?_)
  go_simp
  refine hK.out _ _ (fun _ => hHeld12) ?_
  clear hK K
  (try simp only [Act.put, List.setIfInBounds_toArray, List.set_cons_zero, List.set_cons_succ])
  refine wpAnyL_one 29 rfl (by kernel_rfl) (fun K hK => ?_)
  go_simp
  refine hK.out _ _ (fun _ => hHeld12) ?_
  clear hK K
  (try simp only [Act.put, List.setIfInBounds_toArray, List.set_cons_zero, List.set_cons_succ])
  refine wpAnyL_done (by kernel_rfl) ?_ _
  clear hHeld hHeld10 hHeld11 hHeld12
  go_wp2_with fail
  refine (started_any (HT.out.keep HU12.out)).mono ?_
  rintro e W13 ⟨rfl, hu13⟩
  have HU13 := hid (HU12.out.trans hu13 (fun _ _ e => e))
  clear hu13
  go_wp2
  go_ret
  exact ⟨rfl, HU13.out⟩

end Go.Proofs.YthklehpkfndohaaGreatDoor
