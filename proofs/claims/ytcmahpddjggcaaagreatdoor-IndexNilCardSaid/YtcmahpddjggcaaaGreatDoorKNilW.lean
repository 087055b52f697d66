/- latticelaw12.IndexNil: the walk. -/
import Derived.Test.YtcmahpddjggcaaaGreatDoorKGoes
import Derived.Test.YtcmahpddjggcaaaGreatDoorKOwnE
namespace Go.Proofs.YtcmahpddjggcaaaGreatDoor
open Go Go.RowKit
set_option maxHeartbeats 8000000
set_option maxRecDepth 100000
theorem indexNil_walk (v : V) (I : Nat → Prop) (w : World) (cs : List Value) (h : V.ty.rep I w v cs) (hL : v.Lens) (hT : Tabs w) :
    Calls Tryz.prog 3 #[.agg cs.toArray] w fun e w' => e = .returned (.bool true) ∧ Below w.heap.size w w' := by
  have hv := V.ty.lt h
  obtain ⟨A1, c1, A2, c2, rfl, _⟩ := V.rep_open h
  have hB0 := below_alloc' (Below.refl w.heap.size w) (Nat.le_refl _) (.cells #[.int .i64 v.kind, .bool v.bool, .int .i64 v.int, .string v.text, .slice A1 v.keys.length c1, .slice A2 v.list.length c2] 26)
  have hb0 := Blk.new w [.int .i64 v.kind, .bool v.bool, .int .i64 v.int, .string v.text, .slice A1 v.keys.length c1, .slice A2 v.list.length c2] 26
  have HS := Lib.hid (valueSize_any v 3000 _ _ _ (V.ty.below hB0 hv) hL)
  have HV := Lib.hid hv
  have HBL := Lib.hid hb0
  have HB0 := Lib.hid hB0
  have HW := Lib.hid (fun W (hW : Below w.heap.size w W) => works_any W (hT.below hW))
  obtain ⟨y0, z0, l0⟩ := hb0.facts
  clear h hv hb0 hB0 hL
  go_enter Tryz.func3, Tryz.ntmps3
  go_wp2_with fail
  refine HS.out.mono ?_
  rintro e w1 ⟨⟨n, rfl⟩, hb1⟩
  have hw1 := below_call HB0.out HB0.out.size hb1
  have hbl1 := HBL.out.below hb1
  clear HS y0 z0 l0
  by_cases hn : 3000 < n
  · go_wp2_with fail
    refine (HW.out _ hw1).mono ?_
    rintro e w2 ⟨rfl, hb2⟩
    go_wp2_with fail
    go_ret
    exact ⟨rfl, below_call hw1 hw1.size hb2⟩
  · have hn1 : decide (3000 < n) = false := decide_eq_false hn
    go_wp2_with fail
    have hB2 := below_alloc' (below_alloc' (Below.refl w1.heap.size w1) (Nat.le_refl _) (.cells #[.string ⟨#[]⟩, .string ⟨#[]⟩, .slice none 0 0, .map none] 33)) (Nat.le_refl _) (.cells #[.pointer none, .pointer (some ⟨w1.heap.size, 0, none⟩)] 29)
    have bz := (Blk.new w1 [.string ⟨#[]⟩, .string ⟨#[]⟩, .slice none 0 0, .map none] 33).alloc (.cells #[.pointer none, .pointer (some ⟨w1.heap.size, 0, none⟩)] 29)
    have bl := Blk.new (w1.alloc (.cells #[.string ⟨#[]⟩, .string ⟨#[]⟩, .slice none 0 0, .map none] 33)) [.pointer none, .pointer (some ⟨w1.heap.size, 0, none⟩)] 29
    rw [show (w1.alloc (.cells #[.string ⟨#[]⟩, .string ⟨#[]⟩, .slice none 0 0, .map none] 33)).heap.size = w1.heap.size + 1 by simp] at bl
    have hbl2 := hbl1.below hB2
    have hw2 := below_call hw1 hw1.size hB2
    generalize (w1.alloc (.cells #[.string ⟨#[]⟩, .string ⟨#[]⟩, .slice none 0 0, .map none] 33)).alloc (.cells #[.pointer none, .pointer (some ⟨w1.heap.size, 0, none⟩)] 29) = W2 at *
    clear hB2 hbl1 hw1 hb1
    go_loopw [5] (fun i wr => ∃ k : Nat, k ≤ 2 ∧ i = .int .i64 k ∧ Below W2.heap.size W2 wr) (fun i _ => 2 - (intOf i).toNat)
    case atStart => exact ⟨0, by omega, rfl, Below.refl _ _⟩
    case round =>
      obtain ⟨k, hk, rfl, hB⟩ := hrel
      have bzr := bz.below hB
      obtain ⟨yl, zl, ll⟩ := (bl.below hB).facts
      by_cases hlt : k < 2
      · obtain ⟨y, hy, hno⟩ : ∃ y, wr.cell? ⟨w1.heap.size + 1, k, none⟩ = some y ∧ NoIdx wr y := by
          have hk2 : k = 0 ∨ k = 1 := by omega
          rcases hk2 with rfl | rfl
          · exact ⟨_, yl 0, .inl rfl⟩
          · exact ⟨_, yl 1, .inr ⟨_, rfl, bzr⟩⟩
        have HNO := Lib.hid hno
        have hlt2 : (k : Int) < 2 := by omega
        clear yl zl hno
        go_wp2_with fail
        refine (name_no _ _ HNO.out).mono ?_
        rintro e w3 ⟨rfl, rfl⟩
        go_wp2_with fail
        refine (len_no _ _ HNO.out).mono ?_
        rintro e w4 ⟨rfl, rfl⟩
        go_wp2_with fail
        refine (value_no _ _ 0 HNO.out).mono ?_
        rintro e w5 ⟨rfl, hb5⟩
        go_wp2_with fail
        have hB5 : Below W2.heap.size W2 (w5.alloc (.cells #[.int .i64 0, .bool false, .int .i64 0, .string ⟨#[]⟩, .slice none 0 0, .slice none 0 0] 26)) := below_alloc' (below_call hB hB.size hb5) (Nat.le_refl _) _
        have hb3 := hbl2.below hB5
        have hw3 := below_call hw2 hw2.size hB5
        have hno3 := HNO.out.below (below_alloc' (Below.trans (Below.refl _ _) hb5) (Nat.le_refl _) (.cells #[.int .i64 0, .bool false, .int .i64 0, .string ⟨#[]⟩, .slice none 0 0, .slice none 0 0] 26))
        generalize (w5.alloc (.cells #[.int .i64 0, .bool false, .int .i64 0, .string ⟨#[]⟩, .slice none 0 0, .slice none 0 0] 26)) = W3 at *
        have HVR := Lib.hid (show ∀ W, Below W3.heap.size W3 W → V.ty.rep (fun b => I b ∧ b < w.heap.size) W v [.int .i64 v.kind, .bool v.bool, .int .i64 v.int, .string v.text, .slice A1 v.keys.length c1, .slice A2 v.list.length c2] from fun W hW => V.ty.below (below_call hw3 hw3.size hW) HV.out)
        have HN3 := Lib.hid (show ∀ W, Below W3.heap.size W3 W → NoIdx W y from fun W hW => hno3.below hW)
        have KS := Lib.hid (show ∀ w' : World, Below W3.heap.size W3 w' → w'.cell? ⟨w.heap.size, 0, none⟩ = some (.int .i64 v.kind) ∧ w'.cell? ⟨w.heap.size, 1, none⟩ = some (.bool v.bool) ∧ w'.cell? ⟨w.heap.size, 2, none⟩ = some (.int .i64 v.int) ∧ w'.cell? ⟨w.heap.size, 3, none⟩ = some (.string v.text) ∧ w'.cell? ⟨w.heap.size, 4, none⟩ = some (.slice A1 v.keys.length c1) ∧ w'.cell? ⟨w.heap.size, 5, none⟩ = some (.slice A2 v.list.length c2) ∧ Below W3.heap.size W3 w' from fun w' hb => by
          have g := (hb3.below hb).rd.1
          exact ⟨g 0, g 1, g 2, g 3, g 4, g 5, hb⟩)
        have HTh := Lib.hid (fun W (hW : Below W3.heap.size W3 W) => there_no W y (HN3.out W hW))
        have HSk := Lib.hid (fun W (hW : Below W3.heap.size W3 W) => (seek_no W y v _ _ (HN3.out W hW) (HVR.out W hW)).mono fun e w' q => (⟨q.1, hW.trans (q.2.mono hW.size)⟩ : e = .returned (.slice none 0 0) ∧ Below W3.heap.size W3 w'))
        have HBe := Lib.hid (fun W (hW : Below W3.heap.size W3 W) => (below_no W y v true _ _ (HN3.out W hW) (HVR.out W hW)).mono fun e w' q => (⟨q.1, hW.trans (q.2.mono hW.size)⟩ : e = .returned (.slice none 0 0) ∧ Below W3.heap.size W3 w'))
        have HAb := Lib.hid (fun W (hW : Below W3.heap.size W3 W) => (above_no W y v true _ _ (HN3.out W hW) (HVR.out W hW)).mono fun e w' q => (⟨q.1, hW.trans (q.2.mono hW.size)⟩ : e = .returned (.slice none 0 0) ∧ Below W3.heap.size W3 w'))
        have HCh := Lib.hid (fun W (hW : Below W3.heap.size W3 W) => change_no W y (.slice none 0 0) (HN3.out W hW))
        have HCp := Lib.hid (fun W (hW : Below W3.heap.size W3 W) => copyix_no W y (HN3.out W hW))
        have HEn := Lib.hid (fun W (hW : Below W3.heap.size W3 W) => entries_no W y (HN3.out W hW))
        have HGo := Lib.hid (fun W (hW : Below W3.heap.size W3 W) => (goes_nil W.heap.size (W.alloc (.cells #[.slice none 0 0] 30)) (Blk.new W [.slice none 0 0] 30)).mono fun e w' q => (⟨q.1, (below_alloc' hW (Nat.le_refl _) _).trans (q.2.mono (Nat.le_trans hW.size (by simp)))⟩ : e = .returned (.bool true) ∧ Below W3.heap.size W3 w'))
        have HNu := Lib.hid (fun W => num_any 1 W)
        obtain ⟨m1, m2, m3, m4, m5, m6, m7⟩ := KS.out W3 (Below.refl _ _)
        clear m7 hno3 hb3 hbl2 hb5 HNO HVR HN3 bz bl bzr hy
        have hwz : IntKind.i64.wrap 0 = 0 := by decide
        refine wp_region_held_drew (S := (fun w' => w'.cell? ⟨w.heap.size, 0, none⟩ = some (.int .i64 v.kind) ∧ w'.cell? ⟨w.heap.size, 1, none⟩ = some (.bool v.bool) ∧ w'.cell? ⟨w.heap.size, 2, none⟩ = some (.int .i64 v.int) ∧ w'.cell? ⟨w.heap.size, 3, none⟩ = some (.string v.text) ∧ w'.cell? ⟨w.heap.size, 4, none⟩ = some (.slice A1 v.keys.length c1) ∧ w'.cell? ⟨w.heap.size, 5, none⟩ = some (.slice A2 v.list.length c2) ∧ Below W3.heap.size W3 w')) (by kernel_rfl) ?o1 (fun hH0 => ?_)
        case o1 => ((try dsimp only); first | done | ((go_split_ands; refine KS.out _ ?_; repeat (first | with_reducible assumption | with_reducible exact Below.refl _ _ | with_reducible refine below_drew ?_ | with_reducible refine below_alloc' ?_ (Nat.le_refl _) _))))
        refine own_take (v := ?v2) 0 (some 46) rfl rfl (by kernel_rfl) (fun _ _ _ h => h) rfl (by assumption) ?o2 ?_
        case o2 => (intro w hSw; (try dsimp only at hSw); go_simp; try (with_reducible rfl))
        try simp only [Act.put, List.setIfInBounds_toArray, List.set_cons_zero, List.set_cons_succ]
        refine own_step 1 (by kernel_rfl) rfl (fun K hK => ?_)
        go_simp
        ((first | (go_at_call 20; refine (HTh.out _ ?_).mono ?_; (go_split_ands; assumption); rintro e w9 ⟨rfl, rfl⟩) | (go_at_call 21; refine (HSk.out _ ?_).mono ?_; (go_split_ands; assumption); rintro e w9 ⟨rfl, hb9⟩) | (go_at_call 22; refine (HBe.out _ ?_).mono ?_; (go_split_ands; assumption); rintro e w9 ⟨rfl, hb9⟩) | (go_at_call 23; refine (HAb.out _ ?_).mono ?_; (go_split_ands; assumption); rintro e w9 ⟨rfl, hb9⟩) | (go_at_call 25; refine (HCh.out _ ?_).mono ?_; (go_split_ands; assumption); rintro e w9 ⟨rfl, rfl⟩) | (go_at_call 24; refine (HNu.out _).mono ?_; rintro e w9 ⟨rfl, rfl⟩) | (go_at_call 26; refine (HCp.out _ ?_).mono ?_; (go_split_ands; assumption); rintro e w9 ⟨rfl, rfl⟩) | (go_at_call 28; refine (HEn.out _ ?_).mono ?_; (go_split_ands; assumption); rintro e w9 ⟨rfl, rfl⟩) | (go_at_call 27; refine (HGo.out _ ?_).mono ?_; (go_split_ands; assumption); rintro e w9 ⟨rfl, hb9⟩)))
        go_wp2_with fail
        refine hK.out _ _ ?o4 (fun hH1 => ?_)
        case o4 => ((try dsimp only); first | done | ((go_split_ands; refine KS.out _ ?_; repeat (first | with_reducible assumption | with_reducible exact Below.refl _ _ | with_reducible refine below_drew ?_ | with_reducible refine below_alloc' ?_ (Nat.le_refl _) _))))
        clear hK K hH0
        try simp only [Act.put, List.setIfInBounds_toArray, List.set_cons_zero, List.set_cons_succ]
        refine own_take (v := ?v5) 2 (some 48) rfl rfl (by kernel_rfl) (fun _ _ _ h => h) rfl (by assumption) ?o5 ?_
        case o5 => (intro w hSw; (try dsimp only at hSw); go_simp; try (with_reducible rfl))
        try simp only [Act.put, List.setIfInBounds_toArray, List.set_cons_zero, List.set_cons_succ]
        refine own_take (v := ?v6) 3 (some 49) rfl rfl (by kernel_rfl) (fun _ _ _ h => h) rfl (by assumption) ?o6 ?_
        case o6 => (intro w hSw; (try dsimp only at hSw); go_simp; try (with_reducible rfl))
        try simp only [Act.put, List.setIfInBounds_toArray, List.set_cons_zero, List.set_cons_succ]
        refine own_take (v := ?v7) 4 (some 50) rfl rfl (by kernel_rfl) (fun _ _ _ h => h) rfl (by assumption) ?o7 ?_
        case o7 => (intro w hSw; (try dsimp only at hSw); go_simp; try (with_reducible rfl))
        try simp only [Act.put, List.setIfInBounds_toArray, List.set_cons_zero, List.set_cons_succ]
        refine own_take (v := ?v8) 5 (some 51) rfl rfl (by kernel_rfl) (fun _ _ _ h => h) rfl (by assumption) ?o8 ?_
        case o8 => (intro w hSw; (try dsimp only at hSw); go_simp; try (with_reducible rfl))
        try simp only [Act.put, List.setIfInBounds_toArray, List.set_cons_zero, List.set_cons_succ]
        refine own_take (v := ?v9) 6 (some 52) rfl rfl (by kernel_rfl) (fun _ _ _ h => h) rfl (by assumption) ?o9 ?_
        case o9 => (intro w hSw; (try dsimp only at hSw); go_simp; try (with_reducible rfl))
        try simp only [Act.put, List.setIfInBounds_toArray, List.set_cons_zero, List.set_cons_succ]
        refine own_take (v := ?v10) 7 (some 53) rfl rfl (by kernel_rfl) (fun _ _ _ h => h) rfl (by assumption) ?o10 ?_
        case o10 => (intro w hSw; (try dsimp only at hSw); go_simp; try (with_reducible rfl))
        try simp only [Act.put, List.setIfInBounds_toArray, List.set_cons_zero, List.set_cons_succ]
        refine own_take (v := ?v11) 8 (some 54) rfl rfl (by kernel_rfl) (fun _ _ _ h => h) rfl (by assumption) ?o11 ?_
        case o11 => (intro w hSw; (try dsimp only at hSw); go_simp; try (with_reducible rfl))
        try simp only [Act.put, List.setIfInBounds_toArray, List.set_cons_zero, List.set_cons_succ]
        refine own_take (v := ?v12) 9 (some 55) rfl rfl (by kernel_rfl) (fun _ _ _ h => h) rfl (by assumption) ?o12 ?_
        case o12 => (intro w hSw; (try dsimp only at hSw); go_simp; try (with_reducible rfl))
        try simp only [Act.put, List.setIfInBounds_toArray, List.set_cons_zero, List.set_cons_succ]
        refine own_take (v := ?v13) 10 (some 56) rfl rfl (by kernel_rfl) (fun _ _ _ h => h) rfl (by assumption) ?o13 ?_
        case o13 => (intro w hSw; (try dsimp only at hSw); go_simp; try (with_reducible rfl))
        try simp only [Act.put, List.setIfInBounds_toArray, List.set_cons_zero, List.set_cons_succ]
        refine own_take (v := ?v14) 11 (some 57) rfl rfl (by kernel_rfl) (fun _ _ _ h => h) rfl (by assumption) ?o14 ?_
        case o14 => (intro w hSw; (try dsimp only at hSw); go_simp; try (with_reducible rfl))
        try simp only [Act.put, List.setIfInBounds_toArray, List.set_cons_zero, List.set_cons_succ]
        refine own_take (v := ?v15) 12 (some 58) rfl rfl (by kernel_rfl) (fun _ _ _ h => h) rfl (by assumption) ?o15 ?_
        case o15 => (intro w hSw; (try dsimp only at hSw); go_simp; try (with_reducible rfl))
        try simp only [Act.put, List.setIfInBounds_toArray, List.set_cons_zero, List.set_cons_succ]
        refine own_take (v := ?v16) 13 (some 59) rfl rfl (by kernel_rfl) (fun _ _ _ h => h) rfl (by assumption) ?o16 ?_
        case o16 => (intro w hSw; (try dsimp only at hSw); go_simp; try (with_reducible rfl))
        try simp only [Act.put, List.setIfInBounds_toArray, List.set_cons_zero, List.set_cons_succ]
        refine own_take (v := ?v17) 14 (some 60) rfl rfl (by kernel_rfl) (fun _ _ _ h => h) rfl (by assumption) ?o17 ?_
        case o17 => (intro w hSw; (try dsimp only at hSw); go_simp; try (with_reducible rfl))
        try simp only [Act.put, List.setIfInBounds_toArray, List.set_cons_zero, List.set_cons_succ]
        refine own_take (v := ?v18) 15 (some 61) rfl rfl (by kernel_rfl) (fun _ _ _ h => h) rfl (by assumption) ?o18 ?_
        case o18 => (intro w hSw; (try dsimp only at hSw); go_simp; try (with_reducible rfl))
        try simp only [Act.put, List.setIfInBounds_toArray, List.set_cons_zero, List.set_cons_succ]
        refine own_take (v := ?v19) 16 (some 62) rfl rfl (by kernel_rfl) (fun _ _ _ h => h) rfl (by assumption) ?o19 ?_
        case o19 => (intro w hSw; (try dsimp only at hSw); go_simp; try (with_reducible rfl))
        try simp only [Act.put, List.setIfInBounds_toArray, List.set_cons_zero, List.set_cons_succ]
        refine own_take (v := ?v20) 17 (some 63) rfl rfl (by kernel_rfl) (fun _ _ _ h => h) rfl (by assumption) ?o20 ?_
        case o20 => (intro w hSw; (try dsimp only at hSw); go_simp; try (with_reducible rfl))
        try simp only [Act.put, List.setIfInBounds_toArray, List.set_cons_zero, List.set_cons_succ]
        refine own_take (v := ?v21) 18 (some 64) rfl rfl (by kernel_rfl) (fun _ _ _ h => h) rfl (by assumption) ?o21 ?_
        case o21 => (intro w hSw; (try dsimp only at hSw); go_simp; try (with_reducible rfl))
        try simp only [Act.put, List.setIfInBounds_toArray, List.set_cons_zero, List.set_cons_succ]
        refine own_take (v := ?v22) 19 (some 65) rfl rfl (by kernel_rfl) (fun _ _ _ h => h) rfl (by assumption) ?o22 ?_
        case o22 => (intro w hSw; (try dsimp only at hSw); go_simp; try (with_reducible rfl))
        try simp only [Act.put, List.setIfInBounds_toArray, List.set_cons_zero, List.set_cons_succ]
        refine own_take (v := ?v23) 20 (some 66) rfl rfl (by kernel_rfl) (fun _ _ _ h => h) rfl (by assumption) ?o23 ?_
        case o23 => (intro w hSw; (try dsimp only at hSw); go_simp; try (with_reducible rfl))
        try simp only [Act.put, List.setIfInBounds_toArray, List.set_cons_zero, List.set_cons_succ]
        refine own_take (v := ?v24) 21 (some 67) rfl rfl (by kernel_rfl) (fun _ _ _ h => h) rfl (by assumption) ?o24 ?_
        case o24 => (intro w hSw; (try dsimp only at hSw); go_simp; try (with_reducible rfl))
        try simp only [Act.put, List.setIfInBounds_toArray, List.set_cons_zero, List.set_cons_succ]
        refine own_take (v := ?v25) 24 (some 70) rfl rfl (by kernel_rfl) (fun _ _ _ h => h) rfl (by assumption) ?o25 ?_
        case o25 => (intro w hSw; (try dsimp only at hSw); go_simp; try (with_reducible rfl))
        try simp only [Act.put, List.setIfInBounds_toArray, List.set_cons_zero, List.set_cons_succ]
        refine own_take (v := ?v26) 25 (some 71) rfl rfl (by kernel_rfl) (fun _ _ _ h => h) rfl (by assumption) ?o26 ?_
        case o26 => (intro w hSw; (try dsimp only at hSw); go_simp; try (with_reducible rfl))
        try simp only [Act.put, List.setIfInBounds_toArray, List.set_cons_zero, List.set_cons_succ]
        refine own_take (v := ?v27) 29 (some 75) rfl rfl (by kernel_rfl) (fun _ _ _ h => h) rfl (by assumption) ?o27 ?_
        case o27 => (intro w hSw; (try dsimp only at hSw); go_simp; try (with_reducible rfl))
        try simp only [Act.put, List.setIfInBounds_toArray, List.set_cons_zero, List.set_cons_succ]
        refine own_take (v := ?v28) 30 (some 76) rfl rfl (by kernel_rfl) (fun _ _ _ h => h) rfl (by assumption) ?o28 ?_
        case o28 => (intro w hSw; (try dsimp only at hSw); go_simp; try (with_reducible rfl))
        try simp only [Act.put, List.setIfInBounds_toArray, List.set_cons_zero, List.set_cons_succ]
        refine own_step 22 (by kernel_rfl) rfl (fun K hK => ?_)
        go_simp
        ((first | (go_at_call 20; refine (HTh.out _ ?_).mono ?_; (go_split_ands; assumption); rintro e w9 ⟨rfl, rfl⟩) | (go_at_call 21; refine (HSk.out _ ?_).mono ?_; (go_split_ands; assumption); rintro e w9 ⟨rfl, hb9⟩) | (go_at_call 22; refine (HBe.out _ ?_).mono ?_; (go_split_ands; assumption); rintro e w9 ⟨rfl, hb9⟩) | (go_at_call 23; refine (HAb.out _ ?_).mono ?_; (go_split_ands; assumption); rintro e w9 ⟨rfl, hb9⟩) | (go_at_call 25; refine (HCh.out _ ?_).mono ?_; (go_split_ands; assumption); rintro e w9 ⟨rfl, rfl⟩) | (go_at_call 24; refine (HNu.out _).mono ?_; rintro e w9 ⟨rfl, rfl⟩) | (go_at_call 26; refine (HCp.out _ ?_).mono ?_; (go_split_ands; assumption); rintro e w9 ⟨rfl, rfl⟩) | (go_at_call 28; refine (HEn.out _ ?_).mono ?_; (go_split_ands; assumption); rintro e w9 ⟨rfl, rfl⟩) | (go_at_call 27; refine (HGo.out _ ?_).mono ?_; (go_split_ands; assumption); rintro e w9 ⟨rfl, hb9⟩)))
        go_wp2_with fail
        refine hK.out _ _ ?o30 (fun hH2 => ?_)
        case o30 => ((try dsimp only); first | done | ((go_split_ands; refine KS.out _ ?_; repeat (first | with_reducible assumption | with_reducible exact Below.refl _ _ | with_reducible refine below_drew ?_ | with_reducible refine below_alloc' ?_ (Nat.le_refl _) _))))
        clear hK K hH1
        try simp only [Act.put, List.setIfInBounds_toArray, List.set_cons_zero, List.set_cons_succ]
        refine own_take (v := ?v31) 23 (some 69) rfl rfl (by kernel_rfl) (fun _ _ _ h => h) rfl (by assumption) ?o31 ?_
        case o31 => (intro w hSw; (try dsimp only at hSw); go_simp; try (with_reducible rfl))
        try simp only [Act.put, List.setIfInBounds_toArray, List.set_cons_zero, List.set_cons_succ]
        refine own_step 26 (by kernel_rfl) rfl (fun K hK => ?_)
        go_simp
        ((first | (go_at_call 20; refine (HTh.out _ ?_).mono ?_; (go_split_ands; assumption); rintro e w9 ⟨rfl, rfl⟩) | (go_at_call 21; refine (HSk.out _ ?_).mono ?_; (go_split_ands; assumption); rintro e w9 ⟨rfl, hb9⟩) | (go_at_call 22; refine (HBe.out _ ?_).mono ?_; (go_split_ands; assumption); rintro e w9 ⟨rfl, hb9⟩) | (go_at_call 23; refine (HAb.out _ ?_).mono ?_; (go_split_ands; assumption); rintro e w9 ⟨rfl, hb9⟩) | (go_at_call 25; refine (HCh.out _ ?_).mono ?_; (go_split_ands; assumption); rintro e w9 ⟨rfl, rfl⟩) | (go_at_call 24; refine (HNu.out _).mono ?_; rintro e w9 ⟨rfl, rfl⟩) | (go_at_call 26; refine (HCp.out _ ?_).mono ?_; (go_split_ands; assumption); rintro e w9 ⟨rfl, rfl⟩) | (go_at_call 28; refine (HEn.out _ ?_).mono ?_; (go_split_ands; assumption); rintro e w9 ⟨rfl, rfl⟩) | (go_at_call 27; refine (HGo.out _ ?_).mono ?_; (go_split_ands; assumption); rintro e w9 ⟨rfl, hb9⟩)))
        go_wp2_with fail
        refine hK.out _ _ ?o33 (fun hH3 => ?_)
        case o33 => ((try dsimp only); first | done | ((go_split_ands; refine KS.out _ ?_; repeat (first | with_reducible assumption | with_reducible exact Below.refl _ _ | with_reducible refine below_drew ?_ | with_reducible refine below_alloc' ?_ (Nat.le_refl _) _))))
        clear hK K hH2
        try simp only [Act.put, List.setIfInBounds_toArray, List.set_cons_zero, List.set_cons_succ]
        refine own_take (v := ?v34) 27 (some 73) rfl rfl (by kernel_rfl) (fun _ _ _ h => h) rfl (by assumption) ?o34 ?_
        case o34 => (intro w hSw; (try dsimp only at hSw); go_simp; try (with_reducible rfl))
        try simp only [Act.put, List.setIfInBounds_toArray, List.set_cons_zero, List.set_cons_succ]
        refine own_take (v := ?v35) 28 (some 74) rfl rfl (by kernel_rfl) (fun _ _ _ h => h) rfl (by assumption) ?o35 ?_
        case o35 => (intro w hSw; (try dsimp only at hSw); go_simp; try (with_reducible rfl))
        try simp only [Act.put, List.setIfInBounds_toArray, List.set_cons_zero, List.set_cons_succ]
        refine own_step 31 (by kernel_rfl) rfl (fun K hK => ?_)
        go_simp
        ((first | (go_at_call 20; refine (HTh.out _ ?_).mono ?_; (go_split_ands; assumption); rintro e w9 ⟨rfl, rfl⟩) | (go_at_call 21; refine (HSk.out _ ?_).mono ?_; (go_split_ands; assumption); rintro e w9 ⟨rfl, hb9⟩) | (go_at_call 22; refine (HBe.out _ ?_).mono ?_; (go_split_ands; assumption); rintro e w9 ⟨rfl, hb9⟩) | (go_at_call 23; refine (HAb.out _ ?_).mono ?_; (go_split_ands; assumption); rintro e w9 ⟨rfl, hb9⟩) | (go_at_call 25; refine (HCh.out _ ?_).mono ?_; (go_split_ands; assumption); rintro e w9 ⟨rfl, rfl⟩) | (go_at_call 24; refine (HNu.out _).mono ?_; rintro e w9 ⟨rfl, rfl⟩) | (go_at_call 26; refine (HCp.out _ ?_).mono ?_; (go_split_ands; assumption); rintro e w9 ⟨rfl, rfl⟩) | (go_at_call 28; refine (HEn.out _ ?_).mono ?_; (go_split_ands; assumption); rintro e w9 ⟨rfl, rfl⟩) | (go_at_call 27; refine (HGo.out _ ?_).mono ?_; (go_split_ands; assumption); rintro e w9 ⟨rfl, hb9⟩)))
        go_wp2_with fail
        refine hK.out _ _ ?o37 (fun hH4 => ?_)
        case o37 => ((try dsimp only); first | done | ((go_split_ands; refine KS.out _ ?_; repeat (first | with_reducible assumption | with_reducible exact Below.refl _ _ | with_reducible refine below_drew ?_ | with_reducible refine below_alloc' ?_ (Nat.le_refl _) _))))
        clear hK K hH3
        try simp only [Act.put, List.setIfInBounds_toArray, List.set_cons_zero, List.set_cons_succ]
        refine own_take (v := ?v38) 32 (some 78) rfl rfl (by kernel_rfl) (fun _ _ _ h => h) rfl (by assumption) ?o38 ?_
        case o38 => (intro w hSw; (try dsimp only at hSw); go_simp; try (with_reducible rfl))
        try simp only [Act.put, List.setIfInBounds_toArray, List.set_cons_zero, List.set_cons_succ]
        refine own_take (v := ?v39) 33 (some 79) rfl rfl (by kernel_rfl) (fun _ _ _ h => h) rfl (by assumption) ?o39 ?_
        case o39 => (intro w hSw; (try dsimp only at hSw); go_simp; try (with_reducible rfl))
        try simp only [Act.put, List.setIfInBounds_toArray, List.set_cons_zero, List.set_cons_succ]
        refine own_take (v := ?v40) 34 (some 80) rfl rfl (by kernel_rfl) (fun _ _ _ h => h) rfl (by assumption) ?o40 ?_
        case o40 => (intro w hSw; (try dsimp only at hSw); go_simp; try (with_reducible rfl))
        try simp only [Act.put, List.setIfInBounds_toArray, List.set_cons_zero, List.set_cons_succ]
        refine own_take (v := ?v41) 35 (some 81) rfl rfl (by kernel_rfl) (fun _ _ _ h => h) rfl (by assumption) ?o41 ?_
        case o41 => (intro w hSw; (try dsimp only at hSw); go_simp; try (with_reducible rfl))
        try simp only [Act.put, List.setIfInBounds_toArray, List.set_cons_zero, List.set_cons_succ]
        refine own_take (v := ?v42) 36 (some 82) rfl rfl (by kernel_rfl) (fun _ _ _ h => h) rfl (by assumption) ?o42 ?_
        case o42 => (intro w hSw; (try dsimp only at hSw); go_simp; try (with_reducible rfl))
        try simp only [Act.put, List.setIfInBounds_toArray, List.set_cons_zero, List.set_cons_succ]
        refine own_take (v := ?v43) 37 (some 83) rfl rfl (by kernel_rfl) (fun _ _ _ h => h) rfl (by assumption) ?o43 ?_
        case o43 => (intro w hSw; (try dsimp only at hSw); go_simp; try (with_reducible rfl))
        try simp only [Act.put, List.setIfInBounds_toArray, List.set_cons_zero, List.set_cons_succ]
        refine own_step 38 (by kernel_rfl) rfl (fun K hK => ?_)
        go_simp
        ((first | (go_at_call 20; refine (HTh.out _ ?_).mono ?_; (go_split_ands; assumption); rintro e w9 ⟨rfl, rfl⟩) | (go_at_call 21; refine (HSk.out _ ?_).mono ?_; (go_split_ands; assumption); rintro e w9 ⟨rfl, hb9⟩) | (go_at_call 22; refine (HBe.out _ ?_).mono ?_; (go_split_ands; assumption); rintro e w9 ⟨rfl, hb9⟩) | (go_at_call 23; refine (HAb.out _ ?_).mono ?_; (go_split_ands; assumption); rintro e w9 ⟨rfl, hb9⟩) | (go_at_call 25; refine (HCh.out _ ?_).mono ?_; (go_split_ands; assumption); rintro e w9 ⟨rfl, rfl⟩) | (go_at_call 24; refine (HNu.out _).mono ?_; rintro e w9 ⟨rfl, rfl⟩) | (go_at_call 26; refine (HCp.out _ ?_).mono ?_; (go_split_ands; assumption); rintro e w9 ⟨rfl, rfl⟩) | (go_at_call 28; refine (HEn.out _ ?_).mono ?_; (go_split_ands; assumption); rintro e w9 ⟨rfl, rfl⟩) | (go_at_call 27; refine (HGo.out _ ?_).mono ?_; (go_split_ands; assumption); rintro e w9 ⟨rfl, hb9⟩)))
        go_wp2_with fail
        refine hK.out _ _ ?o45 (fun hH5 => ?_)
        case o45 => ((try dsimp only); first | done | ((go_split_ands; refine KS.out _ ?_; repeat (first | with_reducible assumption | with_reducible exact Below.refl _ _ | with_reducible refine below_drew ?_ | with_reducible refine below_alloc' ?_ (Nat.le_refl _) _))))
        clear hK K hH4
        try simp only [Act.put, List.setIfInBounds_toArray, List.set_cons_zero, List.set_cons_succ]
        refine own_step 39 (by kernel_rfl) rfl (fun K hK => ?_)
        go_simp
        ((first | (go_at_call 20; refine (HTh.out _ ?_).mono ?_; (go_split_ands; assumption); rintro e w9 ⟨rfl, rfl⟩) | (go_at_call 21; refine (HSk.out _ ?_).mono ?_; (go_split_ands; assumption); rintro e w9 ⟨rfl, hb9⟩) | (go_at_call 22; refine (HBe.out _ ?_).mono ?_; (go_split_ands; assumption); rintro e w9 ⟨rfl, hb9⟩) | (go_at_call 23; refine (HAb.out _ ?_).mono ?_; (go_split_ands; assumption); rintro e w9 ⟨rfl, hb9⟩) | (go_at_call 25; refine (HCh.out _ ?_).mono ?_; (go_split_ands; assumption); rintro e w9 ⟨rfl, rfl⟩) | (go_at_call 24; refine (HNu.out _).mono ?_; rintro e w9 ⟨rfl, rfl⟩) | (go_at_call 26; refine (HCp.out _ ?_).mono ?_; (go_split_ands; assumption); rintro e w9 ⟨rfl, rfl⟩) | (go_at_call 28; refine (HEn.out _ ?_).mono ?_; (go_split_ands; assumption); rintro e w9 ⟨rfl, rfl⟩) | (go_at_call 27; refine (HGo.out _ ?_).mono ?_; (go_split_ands; assumption); rintro e w9 ⟨rfl, hb9⟩)))
        go_wp2_with fail
        refine hK.out _ _ ?o47 (fun hH6 => ?_)
        case o47 => ((try dsimp only); first | done | ((go_split_ands; refine KS.out _ ?_; repeat (first | with_reducible assumption | with_reducible exact Below.refl _ _ | with_reducible refine below_drew ?_ | with_reducible refine below_alloc' ?_ (Nat.le_refl _) _))))
        clear hK K hH5
        try simp only [Act.put, List.setIfInBounds_toArray, List.set_cons_zero, List.set_cons_succ]
        refine own_take (v := ?v48) 40 (some 86) rfl rfl (by kernel_rfl) (fun _ _ _ h => h) rfl (by assumption) ?o48 ?_
        case o48 => (intro w hSw; (try dsimp only at hSw); go_simp; try (with_reducible rfl))
        try simp only [Act.put, List.setIfInBounds_toArray, List.set_cons_zero, List.set_cons_succ]
        refine own_take (v := ?v49) 41 (some 87) rfl rfl (by kernel_rfl) (fun _ _ _ h => h) rfl (by assumption) ?o49 ?_
        case o49 => (intro w hSw; (try dsimp only at hSw); go_simp; try (with_reducible rfl))
        try simp only [Act.put, List.setIfInBounds_toArray, List.set_cons_zero, List.set_cons_succ]
        refine own_take (v := ?v50) 42 (some 88) rfl rfl (by kernel_rfl) (fun _ _ _ h => h) rfl (by assumption) ?o50 ?_
        case o50 => (intro w hSw; (try dsimp only at hSw); go_simp; try (with_reducible rfl))
        try simp only [Act.put, List.setIfInBounds_toArray, List.set_cons_zero, List.set_cons_succ]
        refine own_take (v := ?v51) 43 (some 89) rfl rfl (by kernel_rfl) (fun _ _ _ h => h) rfl (by assumption) ?o51 ?_
        case o51 => (intro w hSw; (try dsimp only at hSw); go_simp; try (with_reducible rfl))
        try simp only [Act.put, List.setIfInBounds_toArray, List.set_cons_zero, List.set_cons_succ]
        refine own_step 44 (by kernel_rfl) rfl (fun K hK => ?_)
        go_simp
        ((first | (go_at_call 20; refine (HTh.out _ ?_).mono ?_; (go_split_ands; assumption); rintro e w9 ⟨rfl, rfl⟩) | (go_at_call 21; refine (HSk.out _ ?_).mono ?_; (go_split_ands; assumption); rintro e w9 ⟨rfl, hb9⟩) | (go_at_call 22; refine (HBe.out _ ?_).mono ?_; (go_split_ands; assumption); rintro e w9 ⟨rfl, hb9⟩) | (go_at_call 23; refine (HAb.out _ ?_).mono ?_; (go_split_ands; assumption); rintro e w9 ⟨rfl, hb9⟩) | (go_at_call 25; refine (HCh.out _ ?_).mono ?_; (go_split_ands; assumption); rintro e w9 ⟨rfl, rfl⟩) | (go_at_call 24; refine (HNu.out _).mono ?_; rintro e w9 ⟨rfl, rfl⟩) | (go_at_call 26; refine (HCp.out _ ?_).mono ?_; (go_split_ands; assumption); rintro e w9 ⟨rfl, rfl⟩) | (go_at_call 28; refine (HEn.out _ ?_).mono ?_; (go_split_ands; assumption); rintro e w9 ⟨rfl, rfl⟩) | (go_at_call 27; refine (HGo.out _ ?_).mono ?_; (go_split_ands; assumption); rintro e w9 ⟨rfl, hb9⟩)))
        go_wp2_with fail
        refine hK.out _ _ ?o53 (fun hH7 => ?_)
        case o53 => ((try dsimp only); first | done | ((go_split_ands; refine KS.out _ ?_; repeat (first | with_reducible assumption | with_reducible exact Below.refl _ _ | with_reducible refine below_drew ?_ | with_reducible refine below_alloc' ?_ (Nat.le_refl _) _))))
        clear hK K hH6
        try simp only [Act.put, List.setIfInBounds_toArray, List.set_cons_zero, List.set_cons_succ]
        refine own_take (v := ?v54) 45 (some 91) rfl rfl (by kernel_rfl) (fun _ _ _ h => h) rfl (by assumption) ?o54 ?_
        case o54 => (intro w hSw; (try dsimp only at hSw); go_simp; try (with_reducible rfl))
        try simp only [Act.put, List.setIfInBounds_toArray, List.set_cons_zero, List.set_cons_succ]
        refine own_take (v := ?v55) 46 (some 92) rfl rfl (by kernel_rfl) (fun _ _ _ h => h) rfl (by assumption) ?o55 ?_
        case o55 => (intro w hSw; (try dsimp only at hSw); go_simp; try (with_reducible rfl))
        try simp only [Act.put, List.setIfInBounds_toArray, List.set_cons_zero, List.set_cons_succ]
        refine own_take (v := ?v56) 47 (some 93) rfl rfl (by kernel_rfl) (fun _ _ _ h => h) rfl (by assumption) ?o56 ?_
        case o56 => (intro w hSw; (try dsimp only at hSw); go_simp; try (with_reducible rfl))
        try simp only [Act.put, List.setIfInBounds_toArray, List.set_cons_zero, List.set_cons_succ]
        refine own_take (v := ?v57) 48 (some 94) rfl rfl (by kernel_rfl) (fun _ _ _ h => h) rfl (by assumption) ?o57 ?_
        case o57 => (intro w hSw; (try dsimp only at hSw); go_simp; try (with_reducible rfl))
        try simp only [Act.put, List.setIfInBounds_toArray, List.set_cons_zero, List.set_cons_succ]
        refine own_step 49 (by kernel_rfl) rfl (fun K hK => ?_)
        go_simp
        ((first | (go_at_call 20; refine (HTh.out _ ?_).mono ?_; (go_split_ands; assumption); rintro e w9 ⟨rfl, rfl⟩) | (go_at_call 21; refine (HSk.out _ ?_).mono ?_; (go_split_ands; assumption); rintro e w9 ⟨rfl, hb9⟩) | (go_at_call 22; refine (HBe.out _ ?_).mono ?_; (go_split_ands; assumption); rintro e w9 ⟨rfl, hb9⟩) | (go_at_call 23; refine (HAb.out _ ?_).mono ?_; (go_split_ands; assumption); rintro e w9 ⟨rfl, hb9⟩) | (go_at_call 25; refine (HCh.out _ ?_).mono ?_; (go_split_ands; assumption); rintro e w9 ⟨rfl, rfl⟩) | (go_at_call 24; refine (HNu.out _).mono ?_; rintro e w9 ⟨rfl, rfl⟩) | (go_at_call 26; refine (HCp.out _ ?_).mono ?_; (go_split_ands; assumption); rintro e w9 ⟨rfl, rfl⟩) | (go_at_call 28; refine (HEn.out _ ?_).mono ?_; (go_split_ands; assumption); rintro e w9 ⟨rfl, rfl⟩) | (go_at_call 27; refine (HGo.out _ ?_).mono ?_; (go_split_ands; assumption); rintro e w9 ⟨rfl, hb9⟩)))
        go_wp2_with fail
        refine hK.out _ _ ?o59 (fun hH8 => ?_)
        case o59 => ((try dsimp only); first | done | ((go_split_ands; refine KS.out _ ?_; repeat (first | with_reducible assumption | with_reducible exact Below.refl _ _ | with_reducible refine below_drew ?_ | with_reducible refine below_alloc' ?_ (Nat.le_refl _) _))))
        clear hK K hH7
        try simp only [Act.put, List.setIfInBounds_toArray, List.set_cons_zero, List.set_cons_succ]
        refine own_step 50 (by kernel_rfl) rfl (fun K hK => ?_)
        go_simp
        ((first | (go_at_call 20; refine (HTh.out _ ?_).mono ?_; (go_split_ands; assumption); rintro e w9 ⟨rfl, rfl⟩) | (go_at_call 21; refine (HSk.out _ ?_).mono ?_; (go_split_ands; assumption); rintro e w9 ⟨rfl, hb9⟩) | (go_at_call 22; refine (HBe.out _ ?_).mono ?_; (go_split_ands; assumption); rintro e w9 ⟨rfl, hb9⟩) | (go_at_call 23; refine (HAb.out _ ?_).mono ?_; (go_split_ands; assumption); rintro e w9 ⟨rfl, hb9⟩) | (go_at_call 25; refine (HCh.out _ ?_).mono ?_; (go_split_ands; assumption); rintro e w9 ⟨rfl, rfl⟩) | (go_at_call 24; refine (HNu.out _).mono ?_; rintro e w9 ⟨rfl, rfl⟩) | (go_at_call 26; refine (HCp.out _ ?_).mono ?_; (go_split_ands; assumption); rintro e w9 ⟨rfl, rfl⟩) | (go_at_call 28; refine (HEn.out _ ?_).mono ?_; (go_split_ands; assumption); rintro e w9 ⟨rfl, rfl⟩) | (go_at_call 27; refine (HGo.out _ ?_).mono ?_; (go_split_ands; assumption); rintro e w9 ⟨rfl, hb9⟩)))
        go_wp2_with fail
        refine hK.out _ _ ?o61 (fun hH9 => ?_)
        case o61 => ((try dsimp only); first | done | ((go_split_ands; refine KS.out _ ?_; repeat (first | with_reducible assumption | with_reducible exact Below.refl _ _ | with_reducible refine below_drew ?_ | with_reducible refine below_alloc' ?_ (Nat.le_refl _) _))))
        clear hK K hH8
        try simp only [Act.put, List.setIfInBounds_toArray, List.set_cons_zero, List.set_cons_succ]
        refine own_take (v := ?v62) 51 (some 97) rfl rfl (by kernel_rfl) (fun _ _ _ h => h) rfl (by assumption) ?o62 ?_
        case o62 => (intro w hSw; (try dsimp only at hSw); go_simp; try (with_reducible rfl))
        try simp only [Act.put, List.setIfInBounds_toArray, List.set_cons_zero, List.set_cons_succ]
        refine own_take (v := ?v63) 52 (some 98) rfl rfl (by kernel_rfl) (fun _ _ _ h => h) rfl (by assumption) ?o63 ?_
        case o63 => (intro w hSw; (try dsimp only at hSw); go_simp; try (with_reducible rfl))
        try simp only [Act.put, List.setIfInBounds_toArray, List.set_cons_zero, List.set_cons_succ]
        refine wpAnyH_done (by kernel_rfl) ?_ _
        go_wp2_with fail
        go_roundw
        case rel => exact ⟨k + 1, by omega, by go_num, below_call hB5 hB5.size (by go_split_ands; assumption)⟩
        case measure => simp [intOf]; omega
      · obtain rfl : k = 2 := by omega
        have hwr := below_call hw2 hw2.size hB
        go_wp2_with fail
        refine (HW.out _ hwr).mono ?_
        rintro e w3 ⟨rfl, hb3⟩
        go_wp2_with fail
        go_ret
        exact ⟨rfl, below_call hwr hwr.size hb3⟩
end Go.Proofs.YtcmahpddjggcaaaGreatDoor
