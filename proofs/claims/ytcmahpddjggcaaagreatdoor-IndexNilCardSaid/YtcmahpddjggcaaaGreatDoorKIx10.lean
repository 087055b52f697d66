/- index.Len. -/
import Derived.Test.YtcmahpddjggcaaaGreatDoorKIx8
import Derived.Test.YtcmahpddjggcaaaGreatDoorKOwnE
namespace Go.Proofs.YtcmahpddjggcaaaGreatDoor
open Go Go.RowKit Go.Maps
set_option maxHeartbeats 4000000
set_option maxRecDepth 100000
def eAt (l : List EntD) (i : Nat) : EntD := l.getD i ⟨0, V.zero⟩
theorem eAt_some {l : List EntD} {i : Nat} {e : EntD} (h : l[i]? = some e) : eAt l i = e := by unfold eAt; rw [List.getD_eq_getElem?_getD, h]; rfl
/-- Is the entry's value not that of the one before? -/
def newAt (l : List EntD) (i : Nat) : Bool := i == 0 || !(V.Same (eAt l (i - 1)).val (eAt l i).val)
def valuesTo (l : List EntD) (k : Nat) : Nat := ((List.range k).filter (newAt l)).length
theorem valuesTo_succ (l : List EntD) (k : Nat) : valuesTo l (k + 1) = valuesTo l k + if newAt l k then 1 else 0 := by
  unfold valuesTo
  rw [List.range_succ, List.filter_append, List.length_append]
  by_cases h : newAt l k = true <;> simp [h]
theorem valuesTo_le (l : List EntD) (k : Nat) : valuesTo l k ≤ k := by
  unfold valuesTo
  have := List.length_filter_le (newAt l) (List.range k)
  simpa using this
def IdxD.values (x : IdxD) : Nat := valuesTo x.l x.l.length
/-- An index that is read: its entries' row. -/
theorem IdxIn.row {B N : Nat} {I : Nat → Prop} {w : World} {p mb : Nat} {sl : Value} {x : IdxD} (h : IdxIn B N I w p sl mb x) : ∃ As cs, sl = .slice As x.l.length cs ∧ x.l.length ≤ cs ∧ Row 7 (EntD.ty.rep (fun _ => True) w) (fun _ => True) w As x.l := by
  obtain ⟨h1, h2, h3, h4, h5, h6, h7, _⟩ := h
  obtain ⟨As, cs, hsl, hcs, hrow⟩ := h7.slice
  refine ⟨As, cs, by injection hsl, hcs, hrow.imp (fun _ _ hr => EntD.ty.mono (fun _ _ => trivial) hr) (fun b _ hl => ⟨trivial, hl⟩) (fun _ _ _ => rfl)⟩
theorem len_any (B N : Nat) (I : Nat → Prop) (w : World) (p : Nat) (sl : Value) (mb : Nat) (x : IdxD) (h : IdxIn B N I w p sl mb x) (hxo : IdxOk x) (hT : Tabs w) :
    Calls Tryz.prog 18 #[.pointer (some ⟨p, 0, none⟩)] w fun e w' => e = .returned (.tuple #[.int .i64 x.l.length, .int .i64 x.values]) ∧ Below w.heap.size w w' := by
  obtain ⟨As, cs, rfl, hcs, hrow⟩ := h.row
  have hp := h.1
  obtain ⟨y, z, l⟩ := hp.facts
  have HX := Lib.hid hxo.2
  have hnI : (x.l.length : Int) ≤ 1073741824 := by have := hxo.1; rw [BIG_eq] at this; omega
  have HTh := Lib.hid (there_any p _ _ _ _ w hp)
  have HP := Lib.hid hp
  have HV := Lib.hid (show x.values = valuesTo x.l x.l.length from rfl)
  generalize x.values = vals at *
  clear h hxo hp
  go_enter Tryz.func18, Tryz.ntmps18
  go_wp2_with fail
  refine HTh.out.mono ?_
  rintro e w1 ⟨rfl, rfl⟩
  go_wp2_with fail
  go_loopw [3, 14] (fun m i wr => ∃ k : Nat, k ≤ x.l.length ∧ i = .int .i64 k ∧ m = .int .i64 (valuesTo x.l k) ∧ Below w1.heap.size w1 wr) (fun _ i _ => x.l.length - (intOf i).toNat)
  case atStart => exact ⟨0, Nat.zero_le _, rfl, rfl, Below.refl _ _⟩
  case round =>
    obtain ⟨k, hk, rfl, rfl, hB⟩ := hrel
    by_cases hlt : k < x.l.length
    · obtain ⟨en, hen, henm⟩ := get_some hlt
      obtain ⟨b, off, ecs, rfl, _, hbl, hes, hat⟩ := hrow.get hen
      have hes' := EntD.ty.belowB (fun b hb => hb.2) hB (EntD.ty.lt hes)
      obtain ⟨A1, c1, A2, c2, rfl, hv⟩ := EntD.rep_open hes'
      have hat' := hat.below hbl hB
      obtain ⟨g0, g1, g2, g3, g4, g5, g6⟩ := hat'.seven
      have HE := Lib.hid hen
      have hvk := valuesTo_le x.l k
      have HVS := Lib.hid (valuesTo_succ x.l k)
      generalize valuesTo x.l k = m at *
      by_cases h0 : k = 0
      · subst h0
        simp only [Nat.zero_mul, Nat.add_zero] at g0 g1 g2 g3 g4 g5 g6
        clear hat hat' hes hes' hv hen
        have HVS1 := Lib.hid (show valuesTo x.l (0 + 1) = m + 1 from by rw [HVS.out]; simp [newAt])
        go_wp2_with fail
        go_quiet (fail)
        go_wp2_with fail
        go_roundw
        case rel => exact ⟨0 + 1, by omega, by go_num, by rw [HVS1.out]; go_num, below_drewN (below_alloc' hB (Nat.le_refl _) _) _⟩
        case measure => simp [intOf]; omega
      · obtain ⟨j, rfl⟩ : ∃ j, k = j + 1 := ⟨k - 1, by omega⟩
        obtain ⟨eo, heo, heom⟩ := get_some (l := x.l) (k := j) (by omega)
        obtain ⟨b', off', ocs, hbb, _, hbl', hos, hato⟩ := hrow.get heo
        obtain ⟨rfl, rfl⟩ : b = b' ∧ off = off' := by injection hbb with q; injection q with q1 q2 q3; exact ⟨q1, q2⟩
        have hos' := EntD.ty.belowB (fun b hb => hb.2) hB (EntD.ty.lt hos)
        obtain ⟨O1, d1, O2, d2, rfl, hov⟩ := EntD.rep_open hos'
        have HAO := Lib.hid (hato.below hbl hB)
        have HN := Lib.hid (show newAt x.l (j + 1) = !(V.Same eo.val en.val) from by unfold newAt; rw [eAt_some HE.out, Nat.add_sub_cancel, eAt_some heo]; simp)
        have HXE := Lib.hid (HX.out en henm)
        have HXO := Lib.hid (HX.out eo heom)
        have HVo := Lib.hid hov
        have HVe := Lib.hid hv
        have HPr := Lib.hid (HP.out.below hB)
        clear hat hat' hes hes' hv hen heo hos hos' hov hato hbb
        have hTr := hT.below hB
        have hw0 : IntKind.i64.wrap (j : Int) = (j : Int) := IntWalk.i64_in _ (by omega)
        have hj2 : (j : Int) < (x.l.length : Int) := by omega
        have hj3 : (0 : Int) ≤ (j : Int) := by omega
        have hj0 : ¬ ((j : Int) + 1 = 0) := by omega
        have hj1 : ((j : Int) + 1 == 0) = false := by simp; omega
        go_wp2_with fail
        have HB0 := Lib.hid (below_alloc' (Below.refl wr.heap.size wr) (Nat.le_refl _) (.cells #[.int .i64 en.id, .int .i64 en.val.kind, .bool en.val.bool, .int .i64 en.val.int, .string en.val.text, .slice A1 en.val.keys.length c1, .slice A2 en.val.list.length c2] 148))
        have HBE := Lib.hid (Blk.new wr [.int .i64 en.id, .int .i64 en.val.kind, .bool en.val.bool, .int .i64 en.val.int, .string en.val.text, .slice A1 en.val.keys.length c1, .slice A2 en.val.list.length c2] 148)
        generalize wr.alloc (.cells #[.int .i64 en.id, .int .i64 en.val.kind, .bool en.val.bool, .int .i64 en.val.int, .string en.val.text, .slice A1 en.val.keys.length c1, .slice A2 en.val.list.length c2] 148) = W0 at *
        have HC := Lib.hid (show ∀ W, Below W0.heap.size W0 W → Calls Tryz.prog 76 #[.agg #[.int .i64 eo.val.kind, .bool eo.val.bool, .int .i64 eo.val.int, .string eo.val.text, .slice O1 eo.val.keys.length d1, .slice O2 eo.val.list.length d2], .agg #[.int .i64 en.val.kind, .bool en.val.bool, .int .i64 en.val.int, .string en.val.text, .slice A1 en.val.keys.length c1, .slice A2 en.val.list.length c2]] W (fun e w' => e = .returned (.bool (V.Same eo.val en.val)) ∧ Below W0.heap.size W0 w') from fun W hW => by
          have hh := below_call HB0.out HB0.out.size hW
          exact (Same_any eo.val en.val _ _ W _ _ (V.ty.below hh HVo.out) (V.ty.below hh HVe.out) HXO.out HXE.out (hTr.below hh)).mono (fun e w' h => ⟨h.1, hW.trans (h.2.mono hW.size)⟩))
        have KS := Lib.hid (show ∀ w' : World, Below W0.heap.size W0 w' → w'.cell? ⟨p, 2, none⟩ = some (.slice (some ⟨b, off, none⟩) x.l.length cs) ∧ w'.cell? ⟨b, off + j * 7 + 1, none⟩ = some (.int .i64 eo.val.kind) ∧ w'.cell? ⟨b, off + j * 7 + 2, none⟩ = some (.bool eo.val.bool) ∧ w'.cell? ⟨b, off + j * 7 + 3, none⟩ = some (.int .i64 eo.val.int) ∧ w'.cell? ⟨b, off + j * 7 + 4, none⟩ = some (.string eo.val.text) ∧ w'.cell? ⟨b, off + j * 7 + 5, none⟩ = some (.slice O1 eo.val.keys.length d1) ∧ w'.cell? ⟨b, off + j * 7 + 6, none⟩ = some (.slice O2 eo.val.list.length d2) ∧
            w'.cell? ⟨wr.heap.size, 1, none⟩ = some (.int .i64 en.val.kind) ∧ w'.cell? ⟨wr.heap.size, 2, none⟩ = some (.bool en.val.bool) ∧ w'.cell? ⟨wr.heap.size, 3, none⟩ = some (.int .i64 en.val.int) ∧ w'.cell? ⟨wr.heap.size, 4, none⟩ = some (.string en.val.text) ∧ w'.cell? ⟨wr.heap.size, 5, none⟩ = some (.slice A1 en.val.keys.length c1) ∧ w'.cell? ⟨wr.heap.size, 6, none⟩ = some (.slice A2 en.val.list.length c2) ∧ Below W0.heap.size W0 w' from fun w' hb => by
          have hh := below_call HB0.out HB0.out.size hb
          obtain ⟨q0, q1, q2, q3, q4, q5, q6⟩ := (HAO.out.below (Nat.lt_of_lt_of_le hbl hB.size) hh).seven
          have gb := (HBE.out.below hb).rd.1
          exact ⟨(HPr.out.below hh).rd.1 2, q1, q2, q3, q4, q5, q6, gb 1, gb 2, gb 3, gb 4, gb 5, gb 6, hb⟩)
        generalize V.Same eo.val en.val = sm at *
        obtain ⟨m1, m2, m3, m4, m5, m6, m7, m8, m9, m10, m11, m12, m13, m14⟩ := KS.out W0 (Below.refl _ _)
        clear m14 y z g0 g1 g2 g3 g4 g5 g6
        cases sm with
        | true =>
          have HVS1 := Lib.hid (show valuesTo x.l (j + 1 + 1) = m from by rw [HVS.out, HN.out]; simp)
          refine wp_region_held_drew (S := (fun w' => w'.cell? ⟨p, 2, none⟩ = some (.slice (some ⟨b, off, none⟩) x.l.length cs) ∧ w'.cell? ⟨b, off + j * 7 + 1, none⟩ = some (.int .i64 eo.val.kind) ∧ w'.cell? ⟨b, off + j * 7 + 2, none⟩ = some (.bool eo.val.bool) ∧ w'.cell? ⟨b, off + j * 7 + 3, none⟩ = some (.int .i64 eo.val.int) ∧ w'.cell? ⟨b, off + j * 7 + 4, none⟩ = some (.string eo.val.text) ∧ w'.cell? ⟨b, off + j * 7 + 5, none⟩ = some (.slice O1 eo.val.keys.length d1) ∧ w'.cell? ⟨b, off + j * 7 + 6, none⟩ = some (.slice O2 eo.val.list.length d2) ∧ w'.cell? ⟨wr.heap.size, 1, none⟩ = some (.int .i64 en.val.kind) ∧ w'.cell? ⟨wr.heap.size, 2, none⟩ = some (.bool en.val.bool) ∧ w'.cell? ⟨wr.heap.size, 3, none⟩ = some (.int .i64 en.val.int) ∧ w'.cell? ⟨wr.heap.size, 4, none⟩ = some (.string en.val.text) ∧ w'.cell? ⟨wr.heap.size, 5, none⟩ = some (.slice A1 en.val.keys.length c1) ∧ w'.cell? ⟨wr.heap.size, 6, none⟩ = some (.slice A2 en.val.list.length c2) ∧ Below W0.heap.size W0 w')) (by kernel_rfl) ?o1 (fun hH0 => ?_)
          case o1 => ((try dsimp only); first | done | ((go_split_ands; refine KS.out _ ?_; repeat (first | with_reducible assumption | with_reducible exact Below.refl _ _ | with_reducible refine below_drew ?_))))
          refine own_take (v := ?v2) 0 (some 19) rfl rfl (by kernel_rfl) (fun _ _ _ h => h) rfl (by assumption) ?o2 ?_
          case o2 => (intro w hSw; (try dsimp only at hSw); go_simp; try (with_reducible rfl))
          try simp only [Act.put, List.setIfInBounds_toArray, List.set_cons_zero, List.set_cons_succ]
          refine own_take (v := ?v3) 1 (some 20) rfl rfl (by kernel_rfl) (fun _ _ _ h => h) rfl (by assumption) ?o3 ?_
          case o3 => (intro w hSw; (try dsimp only at hSw); go_simp; try (with_reducible rfl))
          try simp only [Act.put, List.setIfInBounds_toArray, List.set_cons_zero, List.set_cons_succ]
          refine own_take (v := ?v4) 2 (some 21) rfl rfl (by kernel_rfl) (fun _ _ _ h => h) rfl (by assumption) ?o4 ?_
          case o4 => (intro w hSw; (try dsimp only at hSw); go_simp; try (with_reducible rfl))
          try simp only [Act.put, List.setIfInBounds_toArray, List.set_cons_zero, List.set_cons_succ]
          refine own_take (v := ?v5) 3 (some 22) rfl rfl (by kernel_rfl) (fun _ _ _ h => h) rfl (by assumption) ?o5 ?_
          case o5 => (intro w hSw; (try dsimp only at hSw); go_simp; try (with_reducible rfl))
          try simp only [Act.put, List.setIfInBounds_toArray, List.set_cons_zero, List.set_cons_succ]
          refine own_take (v := ?v6) 4 (some 23) rfl rfl (by kernel_rfl) (fun _ _ _ h => h) rfl (by assumption) ?o6 ?_
          case o6 => (intro w hSw; (try dsimp only at hSw); go_simp; try (with_reducible rfl))
          try simp only [Act.put, List.setIfInBounds_toArray, List.set_cons_zero, List.set_cons_succ]
          refine own_take (v := ?v7) 5 (some 24) rfl rfl (by kernel_rfl) (fun _ _ _ h => h) rfl (by assumption) ?o7 ?_
          case o7 => (intro w hSw; (try dsimp only at hSw); go_simp; try (with_reducible rfl))
          try simp only [Act.put, List.setIfInBounds_toArray, List.set_cons_zero, List.set_cons_succ]
          refine own_take (v := ?v8) 6 (some 25) rfl rfl (by kernel_rfl) (fun _ _ _ h => h) rfl (by assumption) ?o8 ?_
          case o8 => (intro w hSw; (try dsimp only at hSw); go_simp; try (with_reducible rfl))
          try simp only [Act.put, List.setIfInBounds_toArray, List.set_cons_zero, List.set_cons_succ]
          refine own_take (v := ?v9) 7 (some 26) rfl rfl (by kernel_rfl) (fun _ _ _ h => h) rfl (by assumption) ?o9 ?_
          case o9 => (intro w hSw; (try dsimp only at hSw); go_simp; try (with_reducible rfl))
          try simp only [Act.put, List.setIfInBounds_toArray, List.set_cons_zero, List.set_cons_succ]
          refine own_take (v := ?v10) 8 (some 27) rfl rfl (by kernel_rfl) (fun _ _ _ h => h) rfl (by assumption) ?o10 ?_
          case o10 => (intro w hSw; (try dsimp only at hSw); go_simp; try (with_reducible rfl))
          try simp only [Act.put, List.setIfInBounds_toArray, List.set_cons_zero, List.set_cons_succ]
          refine own_take (v := ?v11) 9 (some 28) rfl rfl (by kernel_rfl) (fun _ _ _ h => h) rfl (by assumption) ?o11 ?_
          case o11 => (intro w hSw; (try dsimp only at hSw); go_simp; try (with_reducible rfl))
          try simp only [Act.put, List.setIfInBounds_toArray, List.set_cons_zero, List.set_cons_succ]
          refine own_take (v := ?v12) 10 (some 29) rfl rfl (by kernel_rfl) (fun _ _ _ h => h) rfl (by assumption) ?o12 ?_
          case o12 => (intro w hSw; (try dsimp only at hSw); go_simp; try (with_reducible rfl))
          try simp only [Act.put, List.setIfInBounds_toArray, List.set_cons_zero, List.set_cons_succ]
          refine own_take (v := ?v13) 11 (some 30) rfl rfl (by kernel_rfl) (fun _ _ _ h => h) rfl (by assumption) ?o13 ?_
          case o13 => (intro w hSw; (try dsimp only at hSw); go_simp; try (with_reducible rfl))
          try simp only [Act.put, List.setIfInBounds_toArray, List.set_cons_zero, List.set_cons_succ]
          refine own_take (v := ?v14) 12 (some 31) rfl rfl (by kernel_rfl) (fun _ _ _ h => h) rfl (by assumption) ?o14 ?_
          case o14 => (intro w hSw; (try dsimp only at hSw); go_simp; try (with_reducible rfl))
          try simp only [Act.put, List.setIfInBounds_toArray, List.set_cons_zero, List.set_cons_succ]
          refine own_take (v := ?v15) 13 (some 32) rfl rfl (by kernel_rfl) (fun _ _ _ h => h) rfl (by assumption) ?o15 ?_
          case o15 => (intro w hSw; (try dsimp only at hSw); go_simp; try (with_reducible rfl))
          try simp only [Act.put, List.setIfInBounds_toArray, List.set_cons_zero, List.set_cons_succ]
          refine own_step 14 (by kernel_rfl) rfl (fun K hK => ?_)
          go_simp
          ((go_at_call 76; refine (HC.out _ ?_).mono ?_; (go_split_ands; assumption); rintro e w2 ⟨rfl, hb2⟩))
          go_wp2_with fail
          refine hK.out _ _ ?o17 (fun hH1 => ?_)
          case o17 => ((try dsimp only); first | done | ((go_split_ands; refine KS.out _ ?_; repeat (first | with_reducible assumption | with_reducible exact Below.refl _ _ | with_reducible refine below_drew ?_))))
          clear hK K hH0
          try simp only [Act.put, List.setIfInBounds_toArray, List.set_cons_zero, List.set_cons_succ]
          refine own_take (v := ?v18) 15 (some 34) rfl rfl (by kernel_rfl) (fun _ _ _ h => h) rfl (by assumption) ?o18 ?_
          case o18 => (intro w hSw; (try dsimp only at hSw); go_simp; try (with_reducible rfl))
          try simp only [Act.put, List.setIfInBounds_toArray, List.set_cons_zero, List.set_cons_succ]
          refine own_take (v := ?v19) 16 (some 35) rfl rfl (by kernel_rfl) (fun _ _ _ h => h) rfl (by assumption) ?o19 ?_
          case o19 => (intro w hSw; (try dsimp only at hSw); go_simp; try (with_reducible rfl))
          try simp only [Act.put, List.setIfInBounds_toArray, List.set_cons_zero, List.set_cons_succ]
          refine wpAnyH_done (by kernel_rfl) ?_ _
          go_wp2_with fail
          go_roundw
          case rel => exact ⟨j + 1 + 1, by omega, by go_num, by rw [HVS1.out], below_call hB hB.size (below_call HB0.out HB0.out.size (by go_split_ands; assumption))⟩
          case measure => simp [intOf]; omega
        | false =>
          have HVS1 := Lib.hid (show valuesTo x.l (j + 1 + 1) = m + 1 from by rw [HVS.out, HN.out]; simp)
          refine wp_region_held_drew (S := (fun w' => w'.cell? ⟨p, 2, none⟩ = some (.slice (some ⟨b, off, none⟩) x.l.length cs) ∧ w'.cell? ⟨b, off + j * 7 + 1, none⟩ = some (.int .i64 eo.val.kind) ∧ w'.cell? ⟨b, off + j * 7 + 2, none⟩ = some (.bool eo.val.bool) ∧ w'.cell? ⟨b, off + j * 7 + 3, none⟩ = some (.int .i64 eo.val.int) ∧ w'.cell? ⟨b, off + j * 7 + 4, none⟩ = some (.string eo.val.text) ∧ w'.cell? ⟨b, off + j * 7 + 5, none⟩ = some (.slice O1 eo.val.keys.length d1) ∧ w'.cell? ⟨b, off + j * 7 + 6, none⟩ = some (.slice O2 eo.val.list.length d2) ∧ w'.cell? ⟨wr.heap.size, 1, none⟩ = some (.int .i64 en.val.kind) ∧ w'.cell? ⟨wr.heap.size, 2, none⟩ = some (.bool en.val.bool) ∧ w'.cell? ⟨wr.heap.size, 3, none⟩ = some (.int .i64 en.val.int) ∧ w'.cell? ⟨wr.heap.size, 4, none⟩ = some (.string en.val.text) ∧ w'.cell? ⟨wr.heap.size, 5, none⟩ = some (.slice A1 en.val.keys.length c1) ∧ w'.cell? ⟨wr.heap.size, 6, none⟩ = some (.slice A2 en.val.list.length c2) ∧ Below W0.heap.size W0 w')) (by kernel_rfl) ?o20 (fun hH0 => ?_)
          case o20 => ((try dsimp only); first | done | ((go_split_ands; refine KS.out _ ?_; repeat (first | with_reducible assumption | with_reducible exact Below.refl _ _ | with_reducible refine below_drew ?_))))
          refine own_take (v := ?v21) 0 (some 19) rfl rfl (by kernel_rfl) (fun _ _ _ h => h) rfl (by assumption) ?o21 ?_
          case o21 => (intro w hSw; (try dsimp only at hSw); go_simp; try (with_reducible rfl))
          try simp only [Act.put, List.setIfInBounds_toArray, List.set_cons_zero, List.set_cons_succ]
          refine own_take (v := ?v22) 1 (some 20) rfl rfl (by kernel_rfl) (fun _ _ _ h => h) rfl (by assumption) ?o22 ?_
          case o22 => (intro w hSw; (try dsimp only at hSw); go_simp; try (with_reducible rfl))
          try simp only [Act.put, List.setIfInBounds_toArray, List.set_cons_zero, List.set_cons_succ]
          refine own_take (v := ?v23) 2 (some 21) rfl rfl (by kernel_rfl) (fun _ _ _ h => h) rfl (by assumption) ?o23 ?_
          case o23 => (intro w hSw; (try dsimp only at hSw); go_simp; try (with_reducible rfl))
          try simp only [Act.put, List.setIfInBounds_toArray, List.set_cons_zero, List.set_cons_succ]
          refine own_take (v := ?v24) 3 (some 22) rfl rfl (by kernel_rfl) (fun _ _ _ h => h) rfl (by assumption) ?o24 ?_
          case o24 => (intro w hSw; (try dsimp only at hSw); go_simp; try (with_reducible rfl))
          try simp only [Act.put, List.setIfInBounds_toArray, List.set_cons_zero, List.set_cons_succ]
          refine own_take (v := ?v25) 4 (some 23) rfl rfl (by kernel_rfl) (fun _ _ _ h => h) rfl (by assumption) ?o25 ?_
          case o25 => (intro w hSw; (try dsimp only at hSw); go_simp; try (with_reducible rfl))
          try simp only [Act.put, List.setIfInBounds_toArray, List.set_cons_zero, List.set_cons_succ]
          refine own_take (v := ?v26) 5 (some 24) rfl rfl (by kernel_rfl) (fun _ _ _ h => h) rfl (by assumption) ?o26 ?_
          case o26 => (intro w hSw; (try dsimp only at hSw); go_simp; try (with_reducible rfl))
          try simp only [Act.put, List.setIfInBounds_toArray, List.set_cons_zero, List.set_cons_succ]
          refine own_take (v := ?v27) 6 (some 25) rfl rfl (by kernel_rfl) (fun _ _ _ h => h) rfl (by assumption) ?o27 ?_
          case o27 => (intro w hSw; (try dsimp only at hSw); go_simp; try (with_reducible rfl))
          try simp only [Act.put, List.setIfInBounds_toArray, List.set_cons_zero, List.set_cons_succ]
          refine own_take (v := ?v28) 7 (some 26) rfl rfl (by kernel_rfl) (fun _ _ _ h => h) rfl (by assumption) ?o28 ?_
          case o28 => (intro w hSw; (try dsimp only at hSw); go_simp; try (with_reducible rfl))
          try simp only [Act.put, List.setIfInBounds_toArray, List.set_cons_zero, List.set_cons_succ]
          refine own_take (v := ?v29) 8 (some 27) rfl rfl (by kernel_rfl) (fun _ _ _ h => h) rfl (by assumption) ?o29 ?_
          case o29 => (intro w hSw; (try dsimp only at hSw); go_simp; try (with_reducible rfl))
          try simp only [Act.put, List.setIfInBounds_toArray, List.set_cons_zero, List.set_cons_succ]
          refine own_take (v := ?v30) 9 (some 28) rfl rfl (by kernel_rfl) (fun _ _ _ h => h) rfl (by assumption) ?o30 ?_
          case o30 => (intro w hSw; (try dsimp only at hSw); go_simp; try (with_reducible rfl))
          try simp only [Act.put, List.setIfInBounds_toArray, List.set_cons_zero, List.set_cons_succ]
          refine own_take (v := ?v31) 10 (some 29) rfl rfl (by kernel_rfl) (fun _ _ _ h => h) rfl (by assumption) ?o31 ?_
          case o31 => (intro w hSw; (try dsimp only at hSw); go_simp; try (with_reducible rfl))
          try simp only [Act.put, List.setIfInBounds_toArray, List.set_cons_zero, List.set_cons_succ]
          refine own_take (v := ?v32) 11 (some 30) rfl rfl (by kernel_rfl) (fun _ _ _ h => h) rfl (by assumption) ?o32 ?_
          case o32 => (intro w hSw; (try dsimp only at hSw); go_simp; try (with_reducible rfl))
          try simp only [Act.put, List.setIfInBounds_toArray, List.set_cons_zero, List.set_cons_succ]
          refine own_take (v := ?v33) 12 (some 31) rfl rfl (by kernel_rfl) (fun _ _ _ h => h) rfl (by assumption) ?o33 ?_
          case o33 => (intro w hSw; (try dsimp only at hSw); go_simp; try (with_reducible rfl))
          try simp only [Act.put, List.setIfInBounds_toArray, List.set_cons_zero, List.set_cons_succ]
          refine own_take (v := ?v34) 13 (some 32) rfl rfl (by kernel_rfl) (fun _ _ _ h => h) rfl (by assumption) ?o34 ?_
          case o34 => (intro w hSw; (try dsimp only at hSw); go_simp; try (with_reducible rfl))
          try simp only [Act.put, List.setIfInBounds_toArray, List.set_cons_zero, List.set_cons_succ]
          refine own_step 14 (by kernel_rfl) rfl (fun K hK => ?_)
          go_simp
          ((go_at_call 76; refine (HC.out _ ?_).mono ?_; (go_split_ands; assumption); rintro e w2 ⟨rfl, hb2⟩))
          go_wp2_with fail
          refine hK.out _ _ ?o36 (fun hH1 => ?_)
          case o36 => ((try dsimp only); first | done | ((go_split_ands; refine KS.out _ ?_; repeat (first | with_reducible assumption | with_reducible exact Below.refl _ _ | with_reducible refine below_drew ?_))))
          clear hK K hH0
          try simp only [Act.put, List.setIfInBounds_toArray, List.set_cons_zero, List.set_cons_succ]
          refine own_take (v := ?v37) 15 (some 34) rfl rfl (by kernel_rfl) (fun _ _ _ h => h) rfl (by assumption) ?o37 ?_
          case o37 => (intro w hSw; (try dsimp only at hSw); go_simp; try (with_reducible rfl))
          try simp only [Act.put, List.setIfInBounds_toArray, List.set_cons_zero, List.set_cons_succ]
          refine own_take (v := ?v38) 16 (some 35) rfl rfl (by kernel_rfl) (fun _ _ _ h => h) rfl (by assumption) ?o38 ?_
          case o38 => (intro w hSw; (try dsimp only at hSw); go_simp; try (with_reducible rfl))
          try simp only [Act.put, List.setIfInBounds_toArray, List.set_cons_zero, List.set_cons_succ]
          refine wpAnyH_done (by kernel_rfl) ?_ _
          go_wp2_with fail
          go_roundw
          case rel => exact ⟨j + 1 + 1, by omega, by go_num, by rw [HVS1.out]; go_num, below_call hB hB.size (below_call HB0.out HB0.out.size (by go_split_ands; assumption))⟩
          case measure => simp [intOf]; omega
    · obtain rfl : k = x.l.length := by omega
      have y' := (HP.out.below hB).rd.1
      have HV' := Lib.hid HV.out.symm
      rw [HV'.out]
      go_wp2_with fail
      refine bodyPost_ret (v := .tuple #[.int .i64 x.l.length, .int .i64 vals]) (by simp [results, Tryz.results18, go_sem]) rfl ⟨rfl, hB⟩
end Go.Proofs.YtcmahpddjggcaaaGreatDoor
/- index.Seek. -/
namespace Go.Proofs.YtcmahpddjggcaaaGreatDoor
open Go Go.RowKit Go.Maps
set_option maxHeartbeats 4000000
set_option maxRecDepth 100000
/-- Where the values begin that are not less. -/
def seekFrom (v : V) (l : List EntD) : Nat := srch (fun o => decide (0 ≤ V.Cmp o.val v)) l
def seekOk (v : V) (e : EntD) : Bool := V.Equal e.val v == 2
/-- The nodes of a value. -/
def IdxD.seek (x : IdxD) (v : V) : List Int := if v.check = 0 then ((x.l.drop (seekFrom v x.l)).takeWhile (seekOk v)).map EntD.id else []
def IntsOut (w : World) (l : List Int) (e : Ending) (w' : World) : Prop := ∃ v B, e = .returned v ∧ w.heap.size ≤ B ∧ Own (Ty.int .i64) 2 B (fun _ => True) w' v l ∧ Below w.heap.size w w'
theorem takeWhile_more {α : Type} {p : α → Bool} {l : List α} {k : Nat} {x : α} (h : (l.take k).all p = true) (hx : l[k]? = some x) (hp : p x = true) : (l.take (k + 1)).all p = true := by
  rw [take_snoc' hx, List.all_append, h]; simp [hp]
theorem takeWhile_stop {α : Type} {p : α → Bool} {l : List α} {k : Nat} {x : α} (h : (l.take k).all p = true) (hx : l[k]? = some x) (hp : p x = false) : l.takeWhile p = l.take k := by
  have e : l = l.take k ++ x :: l.drop (k + 1) := by rw [← drop_get hx, List.take_append_drop]
  conv => lhs; rw [e]
  rw [List.takeWhile_append_of_pos (by simpa using h), List.takeWhile_cons_of_neg (by simp [hp]), List.append_nil]
theorem takeWhile_all {α : Type} {p : α → Bool} : ∀ {l : List α}, l.all p = true → l.takeWhile p = l
  | [], _ => rfl
  | x :: xs, h => by
    simp only [List.all_cons, Bool.and_eq_true] at h
    rw [List.takeWhile_cons_of_pos h.1, takeWhile_all h.2]
theorem seek_no_check (B N : Nat) (I J : Nat → Prop) (w : World) (p : Nat) (sl : Value) (mb : Nat) (x : IdxD) (v : V) (ds : List Value) (h : IdxIn B N I w p sl mb x) (hv : V.ty.rep J w v ds) (hs : v.size + 1 ≤ BIG) (hT : Tabs w) (hc : v.check ≠ 0) :
    Calls Tryz.prog 21 #[.pointer (some ⟨p, 0, none⟩), .agg ds.toArray] w (IntsOut w []) := by
  obtain ⟨B1, d1, B2, d2, rfl, _⟩ := V.rep_open hv
  have hB0 := below_alloc' (Below.refl w.heap.size w) (Nat.le_refl _) (.cells #[.int .i64 v.kind, .bool v.bool, .int .i64 v.int, .string v.text, .slice B1 v.keys.length d1, .slice B2 v.list.length d2] 26)
  have HTh := Lib.hid (there_any p _ _ _ _ _ (h.1.below hB0))
  have HC := Lib.hid (check_any v J _ _ (V.ty.below hB0 hv) hs (hT.below hB0))
  have hc1 : (v.check == 0) = false := by simpa using hc
  have HB := Lib.hid hB0
  generalize v.check = c at *
  clear h hv
  go_enter Tryz.func21, Tryz.ntmps21
  go_wp2_with fail
  refine HTh.out.mono ?_
  rintro e w1 ⟨rfl, rfl⟩
  go_wp2_with fail
  refine HC.out.mono ?_
  rintro e w2 ⟨rfl, hb2⟩
  go_wp2_with fail
  go_ret
  exact ⟨_, w.heap.size, rfl, Nat.le_refl _, Own.nil _ _ _ _ _, below_call HB.out HB.out.size hb2⟩
theorem seek_any (B N : Nat) (I J : Nat → Prop) (w : World) (p : Nat) (sl : Value) (mb : Nat) (x : IdxD) (v : V) (ds : List Value) (h : IdxIn B N I w p sl mb x) (hxo : IdxOk x) (hv : V.ty.rep J w v ds) (hs : v.size + 1 ≤ BIG) (hT : Tabs w) :
    Calls Tryz.prog 21 #[.pointer (some ⟨p, 0, none⟩), .agg ds.toArray] w (IntsOut w (x.seek v)) := by
  by_cases hc : v.check = 0
  case neg =>
    have := seek_no_check B N I J w p sl mb x v ds h hv hs hT hc
    unfold IdxD.seek
    rw [if_neg hc]
    exact this
  obtain ⟨As, cs, rfl, hcs, hrow⟩ := h.row
  obtain ⟨B1, d1, B2, d2, rfl, _⟩ := V.rep_open hv
  have hB0 := below_alloc' (Below.refl w.heap.size w) (Nat.le_refl _) (.cells #[.int .i64 v.kind, .bool v.bool, .int .i64 v.int, .string v.text, .slice B1 v.keys.length d1, .slice B2 v.list.length d2] 26)
  have hbv := Blk.new w [.int .i64 v.kind, .bool v.bool, .int .i64 v.int, .string v.text, .slice B1 v.keys.length d1, .slice B2 v.list.length d2] 26
  have hv0 := V.ty.below hB0 (V.ty.lt hv)
  have hT0 := hT.below hB0
  have hrow0 := Row.at EntD.ty hrow hB0
  have hp0 := h.1.below hB0
  have HB := Lib.hid hB0
  have hB00 := hB0.size
  generalize hW0 : w.alloc (.cells #[.int .i64 v.kind, .bool v.bool, .int .i64 v.int, .string v.text, .slice B1 v.keys.length d1, .slice B2 v.list.length d2] 26) = W0 at *
  have HW0 := Lib.hid hW0
  clear hW0
  have HTh := Lib.hid (there_any p _ _ _ _ _ hp0)
  have HC := Lib.hid (check_any v _ W0 _ hv0 hs hT0)
  rw [hc] at HC
  have hnI : (x.l.length : Int) ≤ 1073741824 := by have := hxo.1; rw [BIG_eq] at this; omega
  have HXO := Lib.hid hxo.2
  have hsk : x.seek v = ((x.l.drop (seekFrom v x.l)).takeWhile (seekOk v)).map EntD.id := by unfold IdxD.seek; rw [if_pos hc]
  have hfle : seekFrom v x.l ≤ x.l.length := srch_le _ _
  have HS := Lib.hid (show ∀ W, Below W0.heap.size W0 W → Calls Tryz.prog 79 #[.slice As x.l.length cs, .func (.func 80) #[] #[.pointer (some ⟨w.heap.size, 0, none⟩)]] W (fun e w' => e = .returned (.int .i64 (seekFrom v x.l)) ∧ Below W0.heap.size W0 w') from fun W hW => by
    refine (search_ent 80 #[.pointer (some ⟨w.heap.size, 0, none⟩)] (enters_of Tryz.func80 (by kernel_rfl) rfl) (fun o => decide (0 ≤ V.Cmp o.val v)) x.l _ As cs W (Row.at EntD.ty hrow0 hW) (by have := hxo.1; omega)
      (fun o ho W' ocs hB' hr' => seek1_any o v _ _ W' ocs _ w.heap.size hr' (V.ty.below hB' (V.ty.below hW hv0)) ((hbv.below hW).below hB') (hxo.2 o ho) hs ((hT0.below hW).below hB'))).mono ?_
    rintro e w' ⟨rfl, hb⟩
    exact ⟨rfl, hW.trans (hb.mono hW.size)⟩)
  have HP := Lib.hid hp0
  have HBV := Lib.hid hbv
  have HV0 := Lib.hid hv0
  obtain ⟨fr, HFR⟩ : ∃ q, Hid (seekFrom v x.l = q) := ⟨_, Lib.hid rfl⟩
  rw [HFR.out] at HS hfle hsk
  obtain ⟨outl, HSK⟩ : ∃ q, Hid (x.seek v = q) := ⟨_, Lib.hid rfl⟩
  rw [HSK.out] at hsk ⊢
  have HOUT := Lib.hid hsk
  clear hsk h hv hxo hrow hp0 hbv hv0 hc hB0
  go_enter Tryz.func21, Tryz.ntmps21
  go_wp2_with fail
  rw [HW0.out]
  refine HTh.out.mono ?_
  rintro e w1 ⟨rfl, rfl⟩
  obtain ⟨yv, zv, lv⟩ := HBV.out.facts
  go_wp2_with fail
  refine HC.out.mono ?_
  rintro e w2 ⟨rfl, hb2⟩
  obtain ⟨y, z, l⟩ := (HP.out.below hb2).facts
  go_wp2_with fail
  refine (HS.out _ hb2).mono ?_
  rintro e w3 ⟨rfl, hb3⟩
  obtain ⟨y3, z3, l3⟩ := (HP.out.below hb3).facts
  have hcI : (x.l.length : Int) ≤ (cs : Int) := by omega
  have hfI : (fr : Int) ≤ (x.l.length : Int) := by omega
  by_cases hlt0 : fr < x.l.length
  case neg =>
    have hfe : fr = x.l.length := by omega
    have HE := Lib.hid (show outl = [] from by rw [HOUT.out, hfe, List.drop_length]; rfl)
    subst hfe
    have fin := Lib.hid (show IntsOut w outl (.returned (.slice none 0 0)) w3 from by rw [HE.out]; exact ⟨_, w.heap.size, rfl, Nat.le_refl _, Own.nil _ _ _ _ _, below_call HB.out hB00 hb3⟩)
    clear HS HOUT HSK HFR HC
    have hz : (0 : Int) ≤ (x.l.length : Int) := by omega
    go_wp2_with fail
    all_goals
      go_loopw [5, 30] (fun o i wr => o = .slice none 0 0 ∧ i = .int .i64 0 ∧ wr = w3) (fun _ _ _ => 0)
      case atStart => exact ⟨rfl, rfl, rfl⟩
      case round =>
        obtain ⟨rfl, rfl, rfl⟩ := hrel
        go_wp2_with fail
        go_ret
        exact fin.out
  case pos =>
    obtain ⟨e0, he0, _⟩ := get_some hlt0
    obtain ⟨b, off, _, rfl, _, hbl, _, _⟩ := hrow0.get he0
    have hcf : ¬ cs = fr := by omega
    have hn1 : x.l.length - fr ≤ x.l.length := by omega
    clear he0 HS HSK HFR HC HTh
    obtain ⟨n, hn⟩ : ∃ n, x.l.length - fr = n := ⟨_, rfl⟩
    have HNN := Lib.hid hn
    have hnI2 : (n : Int) ≤ 1073741824 := by omega
    rw [hn] at hn1
    go_wp2_with fail
    clear hn
    go_loopw [5, 30] (fun o i wr => ∃ k : Nat, k ≤ n ∧ i = .int .i64 k ∧ Own (Ty.int .i64) 2 w1.heap.size (fun _ => True) wr o (((x.l.drop fr).take k).map EntD.id) ∧ Hid (((x.l.drop fr).take k).all (seekOk v) = true) ∧ Below w1.heap.size w1 wr) (fun _ i _ => n - (intOf i).toNat)
    case atStart => exact ⟨0, Nat.zero_le _, rfl, Own.nil _ _ _ _ _, Lib.hid rfl, hb3⟩
    case round =>
      obtain ⟨k, hk, rfl, hO, HA, hB⟩ := hrel
      by_cases hlt : k < n
      · obtain ⟨en, hen, henm⟩ := get_some (l := x.l) (k := fr + k) (by have := HNN.out; omega)
        have hdn : (x.l.drop fr)[k]? = some en := by rw [List.getElem?_drop]; exact hen
        obtain ⟨b', off', ecs, hbb, _, _, hes, hat⟩ := hrow0.get hen
        obtain ⟨rfl, rfl⟩ : b = b' ∧ off = off' := by injection hbb with q; injection q with q1 q2 q3; exact ⟨q1, q2⟩
        have hb13 := hB
        have hes' := EntD.ty.belowB (fun b hb => hb.2) hb13 (EntD.ty.lt hes)
        obtain ⟨A1, c1, A2, c2, rfl, hve⟩ := EntD.rep_open hes'
        obtain ⟨g0, g1, g2, g3, g4, g5, g6⟩ := (hat.below hbl hb13).seven
        rw [show off + (fr + k) * 7 = off + fr * 7 + k * 7 by omega] at g0 g1 g2 g3 g4 g5 g6
        have ha1 := below_alloc' (Below.refl wr.heap.size wr) (Nat.le_refl _) (.cells #[.int .i64 en.id, .int .i64 en.val.kind, .bool en.val.bool, .int .i64 en.val.int, .string en.val.text, .slice A1 en.val.keys.length c1, .slice A2 en.val.list.length c2] 148)
        obtain ⟨yv', zv', lv'⟩ := ((HBV.out.below hb13).below ha1).facts
        have HQ := Lib.hid (Equal_any en.val v _ _ _ _ _ (V.ty.below ha1 hve) (V.ty.below ha1 (V.ty.below hb13 HV0.out)) (HXO.out en henm) hs ((hT0.below hb13).below ha1))
        have hBN := Lib.hid (Blk.new wr [.int .i64 en.id, .int .i64 en.val.kind, .bool en.val.bool, .int .i64 en.val.int, .string en.val.text, .slice A1 en.val.keys.length c1, .slice A2 en.val.list.length c2] 148)
        have HDN := Lib.hid hdn
        have HAT := Lib.hid ha1
        have HO := Lib.hid hO
        have hok : Hid (seekOk v en = (V.Equal en.val v == 2)) := Lib.hid rfl
        generalize V.Equal en.val v = q at *
        clear hes hes' hve hat hen hdn hO hbb yv zv y z y3 z3 ha1
        by_cases hq : q = 2
        · subst hq
          have hA2 := Lib.hid (takeWhile_more HA.out HDN.out hok.out)
          obtain ⟨tk, HTK⟩ : ∃ t, Hid (((x.l.drop fr).take k).map EntD.id = t) := ⟨_, Lib.hid rfl⟩
          rw [HTK.out] at HO
          have hlk : tk.length ≤ BIG := by rw [← HTK.out, List.length_map, List.length_take, BIG_eq]; omega
          have HTN := Lib.hid (show ((x.l.drop fr).take (k + 1)).map EntD.id = tk ++ [en.id] by rw [take_snoc' HDN.out, List.map_append, HTK.out]; rfl)
          go_wp2_with fail
          refine HQ.out.mono ?_
          rintro e w4 ⟨rfl, hb4⟩
          obtain ⟨yn, zn, ln⟩ := (hBN.out.below hb4).facts
          have hB4 := below_call hB hB.size (below_call HAT.out HAT.out.size hb4)
          have hO4 := (HO.out.below HAT.out).below hb4
          go_wp2_with (at_builtin; refine own_append (Ty.int .i64) (w0 := w1) w1.heap.size rfl (.tmp 39) (.tmp 42) 41 2 _ 8 rfl Tryz.underlying41 info_i64 rfl (by decide) (by decide) _ tk en.id [.int .i64 en.id] (fun _ => True) rfl rfl rfl hO4 hB4 (Nat.le_refl _) hlk ?_)
          intro v5 w5 hO5 hB5 hg5 hat5
          go_wp2_with fail
          go_roundw
          case rel => exact ⟨k + 1, by omega, by go_num, by rw [HTN.out]; exact hO5, hA2, hB5⟩
          case measure => simp [intOf]; omega
        · have hA2 := Lib.hid (takeWhile_stop HA.out HDN.out (show seekOk v en = false by rw [hok.out]; simpa using hq))
          have hq1 : (q == 2) = false := by simpa using hq
          go_wp2_with fail
          refine HQ.out.mono ?_
          rintro e w4 ⟨rfl, hb4⟩
          go_wp2_with fail
          go_ret
          refine ⟨_, w1.heap.size, rfl, hB00, ?_, HB.out.trans ((below_call hB hB.size (below_call HAT.out HAT.out.size hb4)).mono hB00)⟩
          rw [HOUT.out, hA2.out]
          exact (HO.out.below HAT.out).below hb4
      · have hkn : k = n := by omega
        have hT2 := Lib.hid (takeWhile_all (p := seekOk v) (l := x.l.drop fr) (by have := HA.out; rwa [List.take_of_length_le (by rw [List.length_drop]; have := HNN.out; omega)] at this))
        have HTK := Lib.hid (show (x.l.drop fr).take k = x.l.drop fr from List.take_of_length_le (by rw [List.length_drop]; have := HNN.out; omega))
        clear hkn
        go_wp2_with fail
        go_ret
        refine ⟨_, w1.heap.size, rfl, hB00, ?_, HB.out.trans (hB.mono hB00)⟩
        rw [HOUT.out, hT2.out, ← HTK.out]
        exact hO
end Go.Proofs.YtcmahpddjggcaaaGreatDoor
