/- value.equal. -/
import Derived.Test.YtcmahpddjggcaaaGreatDoorKVal9
namespace Go.Proofs.YtcmahpddjggcaaaGreatDoor
open Go Go.RowKit
set_option maxHeartbeats 4000000
set_option maxRecDepth 100000
/-- What equal promises at a. -/
def EqP (a : V) : Prop := ∀ (u : V) (I J : Nat → Prop) (w : World) (cs ds : List Value), V.ty.rep I w a cs → V.ty.rep J w u ds → a.size ≤ BIG → u.size ≤ BIG →
    Calls Tryz.prog 183 #[.agg cs.toArray, .agg ds.toArray] w fun e w' => e = .returned (.int .i64 (V.eq a u)) ∧ Below w.heap.size w w'
theorem equal_step (a : V) (HI : Hid (∀ x, x ∈ a.list → EqP x)) : EqP a := by
  intro u I J w cs ds h h' hs hs'
  have hr := V.ty.lt h
  have hr' := V.ty.lt h'
  have HE := Lib.hid (V.eq_def a u)
  have ha2 := Lib.hid (a.list_le hs)
  have hu2 := Lib.hid (u.list_le hs')
  obtain ⟨A1, c1, A2, c2, rfl, h1, h2, h3, h4⟩ := V.rep_open h
  obtain ⟨B1, d1, B2, d2, rfl, k1, k2, k3, k4⟩ := V.rep_open h'
  have HM := Lib.hid (show ∀ W, Below w.heap.size w W → Calls Tryz.prog 178 #[.agg #[.int .i64 a.kind, .bool a.bool, .int .i64 a.int, .string a.text, .slice A1 a.keys.length c1, .slice A2 a.list.length c2], .agg #[.int .i64 u.kind, .bool u.bool, .int .i64 u.int, .string u.text, .slice B1 u.keys.length d1, .slice B2 u.list.length d2]] W fun e w' => e = .returned (.int .i64 (V.cmp a u)) ∧ Below W.heap.size W w' from fun W hW =>
    compare_any a u _ _ W _ _ (V.ty.belowB (fun b hb => hb.2) hW hr) (V.ty.belowB (fun b hb => hb.2) hW hr') hs hs')
  have HQ := Lib.hid (show ∀ W, Below w.heap.size w W → Calls Tryz.prog 239 #[.slice A1 a.keys.length c1, .slice B1 u.keys.length d1] W fun e w' => e = .returned (.bool (decide (a.keys = u.keys))) ∧ ∃ n, w' = W.drewN n from fun W hW =>
    equal_str a.keys u.keys _ _ _ _ c1 d1 W (V.rep_rows (V.ty.belowB (fun b hb => hb.2) hW hr)).1 (V.rep_rows (V.ty.belowB (fun b hb => hb.2) hW hr')).1 (a.keys_le hs) (u.keys_le hs'))
  have hB2 : Below w.heap.size w ((w.alloc (.cells #[.int .i64 a.kind, .bool a.bool, .int .i64 a.int, .string a.text, .slice A1 a.keys.length c1, .slice A2 a.list.length c2] 26)).alloc (.cells #[.int .i64 u.kind, .bool u.bool, .int .i64 u.int, .string u.text, .slice B1 u.keys.length d1, .slice B2 u.list.length d2] 26)) := below_alloc' (below_alloc' (Below.refl _ _) (Nat.le_refl _) _) (Nat.le_refl _) _
  generalize V.eq a u = r at *
  clear h h'
  by_cases hk0 : a.kind = 0
  · have HT := Lib.hid (show r = 1 by rw [HE.out, if_pos (.inl hk0)])
    have q1 : (a.kind == 0) = true := by rw [beq_iff_eq]; omega
    have q2 : (a.kind != 0) = false := by rw [bne_eq_false_iff_eq]; omega
    have q3 : a.kind ≤ 0 := by omega
    have q4 : 0 ≤ a.kind := by omega
    clear hk0 HE
    go_enter Tryz.func183, Tryz.ntmps183
    go_wp2_with fail
    go_ret
    exact ⟨by rw [HT.out]; rfl, hB2⟩
  have n1 : (a.kind == 0) = false := by rw [beq_eq_false_iff_ne]; omega
  have n2 : (a.kind != 0) = true := by rw [bne_iff_ne]; omega
  have n3 : a.kind ≠ 0 := by omega
  by_cases hu0 : u.kind = 0
  · have HT := Lib.hid (show r = 1 by rw [HE.out, if_pos (.inr hu0)])
    have q1 : (u.kind == 0) = true := by rw [beq_iff_eq]; omega
    have q2 : (u.kind != 0) = false := by rw [bne_eq_false_iff_eq]; omega
    have q3 : u.kind ≤ 0 := by omega
    have q4 : 0 ≤ u.kind := by omega
    clear HE hu0
    go_enter Tryz.func183, Tryz.ntmps183
    go_wp2_with fail
    go_ret
    exact ⟨by rw [HT.out]; rfl, hB2⟩
  have m1 : (u.kind == 0) = false := by rw [beq_eq_false_iff_ne]; omega
  have m2 : (u.kind != 0) = true := by rw [bne_iff_ne]; omega
  have m3 : u.kind ≠ 0 := by omega
  have HE1 := Lib.hid (HE.out.trans (if_neg (fun e => e.elim hk0 hu0)))
  by_cases hku : a.kind = u.kind
  case neg =>
    have HT := Lib.hid (show r = 0 by rw [HE1.out, if_pos hku])
    have q1 : (a.kind == u.kind) = false := by rw [beq_eq_false_iff_ne]; omega
    have q2 : (a.kind != u.kind) = true := by rw [bne_iff_ne]; omega
    have q3 : a.kind ≠ u.kind := by omega
    clear HE HE1
    go_enter Tryz.func183, Tryz.ntmps183
    go_wp2_with fail
    go_ret
    exact ⟨by rw [HT.out]; rfl, hB2⟩
  have q1 : (a.kind == u.kind) = true := by rw [beq_iff_eq]; omega
  have q2 : (a.kind != u.kind) = false := by rw [bne_eq_false_iff_eq]; omega
  have q3 : a.kind ≤ u.kind := by omega
  have q4 : u.kind ≤ a.kind := by omega
  have HE2 := Lib.hid (HE1.out.trans (if_neg (fun e => e hku)))
  clear HE HE1
  by_cases h45 : a.kind ≠ 4 ∧ a.kind ≠ 5
  · have HT := Lib.hid (HE2.out.trans (if_pos h45))
    have i1 : (a.kind == 4) = false := by rw [beq_eq_false_iff_ne]; omega
    have i2 : (a.kind != 4) = true := by rw [bne_iff_ne]; omega
    have i3 : a.kind ≠ 4 := by omega
    have j1 : (a.kind == 5) = false := by rw [beq_eq_false_iff_ne]; omega
    have j2 : (a.kind != 5) = true := by rw [bne_iff_ne]; omega
    have j3 : a.kind ≠ 5 := by omega
    clear h45 HE2 hku
    have HM2 := Lib.hid (HM.out _ hB2)
    clear HM
    generalize V.cmp a u = cc at *
    go_enter Tryz.func183, Tryz.ntmps183
    go_wp2_with fail
    refine HM2.out.mono ?_
    rintro e w1 ⟨rfl, hb1⟩
    have HB := Lib.hid (below_call hB2 hB2.size hb1)
    clear hb1 hB2
    by_cases hcc : cc = 0
    · have hcc' : (cc == 0) = true := by simpa using hcc
      have HT2 := Lib.hid (HT.out.trans (if_pos hcc))
      clear hcc
      go_wp2_with fail
      refine (truth_any _ _).mono ?_
      rintro e w2 ⟨rfl, rfl⟩
      go_wp2_with fail
      go_ret
      exact ⟨by rw [HT2.out]; rfl, HB.out⟩
    · have hcc' : (cc == 0) = false := by simpa using hcc
      have HT2 := Lib.hid (HT.out.trans (if_neg hcc))
      clear hcc
      go_wp2_with fail
      refine (truth_any _ _).mono ?_
      rintro e w2 ⟨rfl, rfl⟩
      go_wp2_with fail
      go_ret
      exact ⟨by rw [HT2.out]; rfl, HB.out⟩
  have HE3 := Lib.hid (HE2.out.trans (if_neg h45))
  clear HE2 HM
  have h45' : ((a.kind == 4) = true ∧ (a.kind != 4) = false ∧ a.kind ≤ 4 ∧ 4 ≤ a.kind) ∨ ((a.kind == 4) = false ∧ (a.kind != 4) = true ∧ (a.kind == 5) = true ∧ (a.kind != 5) = false ∧ a.kind ≤ 5 ∧ 5 ≤ a.kind ∧ a.kind ≠ 4) := by
    by_cases h4 : a.kind = 4
    · rw [h4]; decide
    · have h5 : a.kind = 5 := by omega
      rw [h5]; decide
  by_cases hll : a.list.length = u.list.length
  case neg =>
    have HT := Lib.hid (HE3.out.trans (if_pos (.inl hll)))
    have l1 : ((a.list.length : Int) == (u.list.length : Int)) = false := by rw [beq_eq_false_iff_ne]; omega
    have l2 : ((a.list.length : Int) != (u.list.length : Int)) = true := by rw [bne_iff_ne]; omega
    have l3 : (a.list.length : Int) ≠ (u.list.length : Int) := by omega
    clear h45 HE3 hku hll
    rcases h45' with ⟨v1, v2, v3, v4⟩ | ⟨v1, v2, v3, v4, v5, v6, v7⟩
    all_goals
      go_enter Tryz.func183, Tryz.ntmps183
      go_wp2_with fail
      go_ret
      exact ⟨by rw [HT.out]; rfl, hB2⟩
  have l1 : ((a.list.length : Int) == (u.list.length : Int)) = true := by rw [beq_iff_eq]; omega
  have l2 : ((a.list.length : Int) != (u.list.length : Int)) = false := by rw [bne_eq_false_iff_eq]; omega
  have l3 : (a.list.length : Int) ≤ (u.list.length : Int) := by omega
  have l4 : (u.list.length : Int) ≤ (a.list.length : Int) := by omega
  have HQ2 := Lib.hid (HQ.out _ hB2)
  by_cases hkk : a.keys = u.keys
  case neg =>
    have HT := Lib.hid (HE3.out.trans (if_pos (.inr hkk)))
    rw [decide_eq_false hkk] at HQ2
    clear h45 HE3 hku hll HQ
    rcases h45' with ⟨v1, v2, v3, v4⟩ | ⟨v1, v2, v3, v4, v5, v6, v7⟩
    all_goals
      go_enter Tryz.func183, Tryz.ntmps183
      go_wp2_with fail
      refine HQ2.out.mono ?_
      rintro e w1 ⟨rfl, n1, rfl⟩
      go_wp2_with fail
      go_ret
      exact ⟨by rw [HT.out]; rfl, below_drewN hB2 _⟩
  rw [decide_eq_true hkk] at HQ2
  have HE4 := Lib.hid (HE3.out.trans (if_neg (fun e => e.elim (fun e => e hll) (fun e => e hkk))))
  have HLL := Lib.hid hll
  clear h45 HE3 hku hll HQ hkk
  have b1 : Blk ((w.alloc (.cells #[.int .i64 a.kind, .bool a.bool, .int .i64 a.int, .string a.text, .slice A1 a.keys.length c1, .slice A2 a.list.length c2] 26)).alloc (.cells #[.int .i64 u.kind, .bool u.bool, .int .i64 u.int, .string u.text, .slice B1 u.keys.length d1, .slice B2 u.list.length d2] 26)) w.heap.size [.int .i64 a.kind, .bool a.bool, .int .i64 a.int, .string a.text, .slice A1 a.keys.length c1, .slice A2 a.list.length c2] 26 := (Blk.new w _ _).alloc _
  have b2 : Blk ((w.alloc (.cells #[.int .i64 a.kind, .bool a.bool, .int .i64 a.int, .string a.text, .slice A1 a.keys.length c1, .slice A2 a.list.length c2] 26)).alloc (.cells #[.int .i64 u.kind, .bool u.bool, .int .i64 u.int, .string u.text, .slice B1 u.keys.length d1, .slice B2 u.list.length d2] 26)) (w.heap.size + 1) [.int .i64 u.kind, .bool u.bool, .int .i64 u.int, .string u.text, .slice B1 u.keys.length d1, .slice B2 u.list.length d2] 26 := by have := Blk.new (w.alloc (.cells #[.int .i64 a.kind, .bool a.bool, .int .i64 a.int, .string a.text, .slice A1 a.keys.length c1, .slice A2 a.list.length c2] 26)) [.int .i64 u.kind, .bool u.bool, .int .i64 u.int, .string u.text, .slice B1 u.keys.length d1, .slice B2 u.list.length d2] 26; simpa using this
  have HB1_ := Lib.hid b1
  have B2_ := Lib.hid b2
  clear b1 b2
  have halen : (a.list.length : Int) ≤ 9223372036854775807 := by have := ha2.out; rw [BIG_eq] at this; omega
  rcases h45' with ⟨v1, v2, v3, v4⟩ | ⟨v1, v2, v3, v4, v5, v6, v7⟩
  all_goals
    go_enter Tryz.func183, Tryz.ntmps183
    go_wp2_with fail
    refine HQ2.out.mono ?_
    rintro e w1 ⟨rfl, n1, rfl⟩
    go_wp2_with fail
    have b1 := HB1_.out.drewN n1
    have b2 := B2_.out.drewN n1
    have hB3 := below_drewN hB2 n1
    have hw2 : w.heap.size + 1 + 1 ≤ (((w.alloc (.cells #[.int .i64 a.kind, .bool a.bool, .int .i64 a.int, .string a.text, .slice A1 a.keys.length c1, .slice A2 a.list.length c2] 26)).alloc (.cells #[.int .i64 u.kind, .bool u.bool, .int .i64 u.int, .string u.text, .slice B1 u.keys.length d1, .slice B2 u.list.length d2] 26)).drewN n1).heap.size := by show w.heap.size + 1 + 1 ≤ ((w.alloc _).alloc _).heap.size; simp
    generalize ((w.alloc (.cells #[.int .i64 a.kind, .bool a.bool, .int .i64 a.int, .string a.text, .slice A1 a.keys.length c1, .slice A2 a.list.length c2] 26)).alloc (.cells #[.int .i64 u.kind, .bool u.bool, .int .i64 u.int, .string u.text, .slice B1 u.keys.length d1, .slice B2 u.list.length d2] 26)).drewN n1 = W9 at *
    go_loopw [5, 56] (fun o i wr => ∃ (k : Nat) (ov : Int), k ≤ a.list.length ∧ i = .int .i64 k ∧ o = .int .i64 ov ∧ Hid (r = V.eqs (a.list.drop k) (u.list.drop k) ov) ∧ Below W9.heap.size W9 wr) (fun _ i _ => a.list.length - (intOf i).toNat)
    case atStart => exact ⟨0, 2, Nat.zero_le _, rfl, rfl, HE4, Below.refl _ _⟩
    case round =>
      obtain ⟨k, ov, hk, rfl, rfl, HN, hB⟩ := hrel
      by_cases hlt : k < a.list.length
      · have hltu : k < u.list.length := by have := HLL.out; omega
        obtain ⟨x, hx, hxm⟩ := get_some hlt
        obtain ⟨y, hy, hym⟩ := get_some hltu
        obtain ⟨bx_, offx, cs, rfl, hIx, hbx, hcs, hatx⟩ := h4.get hx
        obtain ⟨by_, offy, ds, rfl, hIy, hby, hds, haty⟩ := k4.get hy
        have HS := Lib.hid (V.eqs_step hx hy ov)
        have HX := Lib.hid (HI.out x hxm y)
        have hcs' := V.ty.lt hcs
        have hds' := V.ty.lt hds
        obtain ⟨X1, e1, X2, e2, rfl, _, _, _, _⟩ := V.rep_open hcs
        obtain ⟨Y1, f1, Y2, f2, rfl, _, _, _, _⟩ := V.rep_open hds
        have hBw := below_call hB3 hB3.size hB
        obtain ⟨g0, g1, g2, g3, g4, g5⟩ := (hatx.below hbx hBw).six
        have bu := b2.below hB
        have HY := Lib.hid haty
        have HSX := Lib.hid (Nat.le_trans (Nat.le_of_lt (V.mem_le hxm)) hs)
        have HSY := Lib.hid (Nat.le_trans (Nat.le_of_lt (V.mem_le hym)) hs')
        obtain ⟨q, HQQ⟩ : ∃ q, Hid (V.eq x y = q) := ⟨_, Lib.hid rfl⟩
        have HS := Lib.hid (HQQ.out ▸ HS.out)
        have HCX := Lib.hid hcs'
        have HCY := Lib.hid hds'
        have HKX := Lib.hid hx
        clear hx hy hatx haty hcs hds hcs' hds'
        have HBw := Lib.hid hBw
        have HB2 := Lib.hid bu
        have HW := Lib.hid (show w.heap.size + 1 + 1 ≤ wr.heap.size from Nat.le_trans hw2 hB.size)
        clear hBw bu
        go_wp2_with fail
        have bx := Blk.new wr [.int .i64 x.kind, .bool x.bool, .int .i64 x.int, .string x.text, .slice X1 x.keys.length e1, .slice X2 x.list.length e2] 26
        have hWx : Below wr.heap.size wr (wr.alloc (.cells #[.int .i64 x.kind, .bool x.bool, .int .i64 x.int, .string x.text, .slice X1 x.keys.length e1, .slice X2 x.list.length e2] 26)) := below_alloc' (Below.refl _ _) (Nat.le_refl _) _
        have hsz1 : wr.heap.size + 1 ≤ (wr.alloc (.cells #[.int .i64 x.kind, .bool x.bool, .int .i64 x.int, .string x.text, .slice X1 x.keys.length e1, .slice X2 x.list.length e2] 26)).heap.size := by simp
        have b2 := HB2.out.alloc (.cells #[.int .i64 x.kind, .bool x.bool, .int .i64 x.int, .string x.text, .slice X1 x.keys.length e1, .slice X2 x.list.length e2] 26)
        generalize wr.alloc (.cells #[.int .i64 x.kind, .bool x.bool, .int .i64 x.int, .string x.text, .slice X1 x.keys.length e1, .slice X2 x.list.length e2] 26) = W1 at *
        have hB1 := below_call HBw.out HBw.out.size hWx
        have KS := Lib.hid (show ∀ w', Below W1.heap.size W1 w' → w'.cell? ⟨wr.heap.size, 0, none⟩ = some (.int .i64 x.kind) ∧ w'.cell? ⟨wr.heap.size, 1, none⟩ = some (.bool x.bool) ∧ w'.cell? ⟨wr.heap.size, 2, none⟩ = some (.int .i64 x.int) ∧ w'.cell? ⟨wr.heap.size, 3, none⟩ = some (.string x.text) ∧ w'.cell? ⟨wr.heap.size, 4, none⟩ = some (.slice X1 x.keys.length e1) ∧ w'.cell? ⟨wr.heap.size, 5, none⟩ = some (.slice X2 x.list.length e2) ∧ w'.cell? ⟨w.heap.size + 1, 5, none⟩ = some (.slice (some ⟨by_, offy, none⟩) u.list.length d2) ∧ w'.cell? ⟨by_, offy + k * 6, none⟩ = some (.int .i64 y.kind) ∧ w'.cell? ⟨by_, offy + k * 6 + 1, none⟩ = some (.bool y.bool) ∧ w'.cell? ⟨by_, offy + k * 6 + 2, none⟩ = some (.int .i64 y.int) ∧ w'.cell? ⟨by_, offy + k * 6 + 3, none⟩ = some (.string y.text) ∧ w'.cell? ⟨by_, offy + k * 6 + 4, none⟩ = some (.slice Y1 y.keys.length f1) ∧ w'.cell? ⟨by_, offy + k * 6 + 5, none⟩ = some (.slice Y2 y.list.length f2) ∧ Below W1.heap.size W1 w' from fun w' hb => by
          have hh := below_call hB1 hB1.size hb
          obtain ⟨z0, z1, z2, z3, z4, z5⟩ := (HY.out.below hby hh).six
          exact ⟨(bx.below hb).rd.1 0, (bx.below hb).rd.1 1, (bx.below hb).rd.1 2, (bx.below hb).rd.1 3, (bx.below hb).rd.1 4, (bx.below hb).rd.1 5, (b2.below hb).rd.1 5, z0, z1, z2, z3, z4, z5, hb⟩)
        have HCALL := Lib.hid (show ∀ W, Below W1.heap.size W1 W → Calls Tryz.prog 183 #[.agg #[.int .i64 x.kind, .bool x.bool, .int .i64 x.int, .string x.text, .slice X1 x.keys.length e1, .slice X2 x.list.length e2], .agg #[.int .i64 y.kind, .bool y.bool, .int .i64 y.int, .string y.text, .slice Y1 y.keys.length f1, .slice Y2 y.list.length f2]] W fun e w' => e = .returned (.int .i64 q) ∧ Below W1.heap.size W1 w' from fun W hW => by
          have hh := below_call hB1 hB1.size hW
          have := HX.out _ _ W _ _ (V.ty.belowB (fun b hb => hb.2) hh HCX.out) (V.ty.belowB (fun b hb => hb.2) hh HCY.out) HSX.out HSY.out
          rw [HQQ.out] at this
          exact this.mono (fun e w' h => ⟨h.1, hW.trans (h.2.mono hW.size)⟩))
        have HB9 := Lib.hid (below_call hB hB.size hWx)
        clear bx b2 hWx hB1 HBw HB2 HY HX HCX HCY HSX HSY HKX HQ2 hr hr' h3 k3 h4 k4
        obtain ⟨m1, m2, m3, m4, m5, m6, m7, m8, m9, m10, m11, m12, m13, m14⟩ := KS.out W1 (Below.refl _ _)
        clear m14
        go_region_held3 (fun w' => w'.cell? ⟨wr.heap.size, 0, none⟩ = some (.int .i64 x.kind) ∧ w'.cell? ⟨wr.heap.size, 1, none⟩ = some (.bool x.bool) ∧ w'.cell? ⟨wr.heap.size, 2, none⟩ = some (.int .i64 x.int) ∧ w'.cell? ⟨wr.heap.size, 3, none⟩ = some (.string x.text) ∧ w'.cell? ⟨wr.heap.size, 4, none⟩ = some (.slice X1 x.keys.length e1) ∧ w'.cell? ⟨wr.heap.size, 5, none⟩ = some (.slice X2 x.list.length e2) ∧ w'.cell? ⟨w.heap.size + 1, 5, none⟩ = some (.slice (some ⟨by_, offy, none⟩) u.list.length d2) ∧ w'.cell? ⟨by_, offy + k * 6, none⟩ = some (.int .i64 y.kind) ∧ w'.cell? ⟨by_, offy + k * 6 + 1, none⟩ = some (.bool y.bool) ∧ w'.cell? ⟨by_, offy + k * 6 + 2, none⟩ = some (.int .i64 y.int) ∧ w'.cell? ⟨by_, offy + k * 6 + 3, none⟩ = some (.string y.text) ∧ w'.cell? ⟨by_, offy + k * 6 + 4, none⟩ = some (.slice Y1 y.keys.length f1) ∧ w'.cell? ⟨by_, offy + k * 6 + 5, none⟩ = some (.slice Y2 y.list.length f2) ∧ Below W1.heap.size W1 w')
          (first | (exact KS.out _ (Below.refl _ _)) | (exact KS.out _ (below_drewN (Below.refl _ _) 1)) | (go_split_ands; refine KS.out _ ?_; assumption))
          (first
            | (go_at_call 183; refine (HCALL.out _ ?_).mono ?_; (go_split_ands; assumption); rintro e w1 ⟨rfl, hb1⟩))
        have hBn : Below W9.heap.size W9 w1 := below_call HB9.out HB9.out.size (by go_split_ands; assumption)
        clear m1 m2 m3 m4 m5 m6 m7 m8 m9 m10 m11 m12 m13
        by_cases hq0 : q = 0
        · have HT := Lib.hid (show r = 0 by rw [HN.out, HS.out, if_pos hq0])
          have hq1 : (q == 0) = true := by simpa using hq0
          have hq2 : q ≤ 0 := by omega
          have hq3 : 0 ≤ q := by omega
          clear hq0
          go_wp2_with fail
          go_ret
          exact ⟨by rw [HT.out]; rfl, below_call hB3 hB3.size hBn⟩
        · have HT := Lib.hid (show r = V.eqs (a.list.drop (k + 1)) (u.list.drop (k + 1)) (if q = 1 then 1 else ov) by rw [HN.out, HS.out, if_neg hq0])
          by_cases hq1 : q = 1
          · have HT2 := Lib.hid (show r = V.eqs (a.list.drop (k + 1)) (u.list.drop (k + 1)) 1 by rw [HT.out, if_pos hq1])
            have hq2 : q ≤ 1 := by omega
            have hq3 : 1 ≤ q := by omega
            clear hq1
            go_wp2_with fail
            go_roundw
            case rel => exact ⟨k + 1, 1, by omega, by go_num, rfl, HT2, hBn⟩
            case measure => simp [intOf]; omega
          · have HT2 := Lib.hid (show r = V.eqs (a.list.drop (k + 1)) (u.list.drop (k + 1)) ov by rw [HT.out, if_neg hq1])
            go_wp2_with fail
            go_roundw
            case rel => exact ⟨k + 1, ov, by omega, by go_num, rfl, HT2, hBn⟩
            case measure => simp [intOf]; omega
      · have HT := Lib.hid (show r = ov by rw [HN.out, V.eqs_end (by omega)])
        have hge : ¬ k < u.list.length := by have := HLL.out; omega
        go_wp2_with fail
        go_ret
        exact ⟨by rw [HT.out]; rfl, below_call hB3 hB3.size hB⟩
theorem equal_any (a : V) : EqP a := by
  induction a using V.ind with
  | h k b n t ks l ih => exact equal_step _ (Lib.hid ih)
end Go.Proofs.YtcmahpddjggcaaaGreatDoor
