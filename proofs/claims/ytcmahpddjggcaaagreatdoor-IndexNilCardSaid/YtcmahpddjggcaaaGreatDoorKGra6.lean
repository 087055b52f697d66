/- graph: has; slices.BinarySearchFunc at nodes. -/
import Derived.Test.YtcmahpddjggcaaaGreatDoorKGra5
namespace Go.Proofs.YtcmahpddjggcaaaGreatDoor
open Go Go.RowKit
set_option maxHeartbeats 4000000
set_option maxRecDepth 100000

theorem has1_any (n : NodeD) (t : Int) (I : Nat → Prop) (w : World) (cs : List Value) (h : NodeD.ty.rep I w n cs) :
    Calls Tryz.prog 300 #[.agg cs.toArray, .int .i64 t] w fun e w' => e = .returned (.int .i64 (cmpI n.id t)) ∧ Below w.heap.size w w' := by
  obtain ⟨A1, c1, A2, c2, rfl, k1, k2, h1, h2⟩ := NodeD.rep_open h
  have HC := Lib.hid (cmp_i64 n.id t)
  generalize cmpI n.id t = r at *
  clear h h1 h2
  go_enter Tryz.func300, Tryz.ntmps300
  go_wp2_with fail
  refine (HC.out _).mono ?_
  rintro e w1 ⟨rfl, rfl⟩
  go_wp2_with fail
  go_ret
  exact ⟨rfl, below_alloc' (Below.refl _ _) (Nat.le_refl _) _⟩
/-- The nodes' numbers rise. -/
def Rising (l : List NodeD) : Prop := ∀ i j, i < j → j < l.length → (nAt l i).id < (nAt l j).id
def hasNode (l : List NodeD) (t : Int) : Bool := l.any fun n => n.id == t
theorem search_any (l : List NodeD) (t : Int) (I : Nat → Prop) (A : Option Addr) (c : Nat) (w : World) (h : Row 3 (NodeD.ty.rep I w) I w A l) (hl : l.length ≤ BIG) (hr : Rising l) :
    Calls Tryz.prog 299 #[.slice A l.length c, .int .i64 t, .func (.func 300) #[] #[]] w fun e w' => ∃ i : Int, e = .returned (.tuple #[.int .i64 i, .bool (hasNode l t)]) ∧ Below w.heap.size w w' := by
  have hlen : (l.length : Int) ≤ 1073741824 := by rw [BIG_eq] at hl; omega
  have eg := enters_of Tryz.func300 (by kernel_rfl) rfl
  have HR := Lib.hid hr
  clear hr
  go_enter Tryz.func299, Tryz.ntmps299
  go_wp2_with fail
  go_loopw [9, 10] (fun i j wr => ∃ a b : Nat, a ≤ b ∧ b ≤ l.length ∧ i = .int .i64 a ∧ j = .int .i64 b ∧ Hid (∀ p, p < a → (nAt l p).id < t) ∧ Hid (∀ p, b ≤ p → p < l.length → t ≤ (nAt l p).id) ∧ Below w.heap.size w wr) (fun i j _ => (intOf j).toNat - (intOf i).toNat)
  case atStart => exact ⟨0, l.length, Nat.zero_le _, Nat.le_refl _, rfl, rfl, Lib.hid (fun p hp => by omega), Lib.hid (fun p hp => by omega), Below.refl _ _⟩
  case round =>
    obtain ⟨a, b, hab, hb, rfl, rfl, HA, HB, hB⟩ := hrel
    by_cases hlt : a < b
    · obtain ⟨m, hm, ham, hmb⟩ : ∃ m : Nat, ((a : Int) + (b : Int)) / 2 = (m : Int) ∧ a ≤ m ∧ m < b := ⟨(a + b) / 2, by omega, by omega, by omega⟩
      obtain ⟨x, hx, hxm⟩ := get_some (l := l) (k := m) (by omega)
      obtain ⟨bb, off, cs, rfl, hIb, hbl, hcs, hat⟩ := h.get hx
      have hcs' := NodeD.ty.belowB (fun _ hb => hb.2) hB (NodeD.ty.lt hcs)
      obtain ⟨X1, e1, X2, e2, rfl, _⟩ := NodeD.rep_open hcs
      obtain ⟨g0, g1, g2⟩ := (hat.below hbl hB).three
      have hml : m < l.length := by omega
      have HC := Lib.hid (has1_any x t _ wr _ hcs')
      have HX := Lib.hid (nAt_get hx)
      clear hat hcs hcs' hx
      rcases Int.lt_trichotomy x.id t with ho | ho | ho
      · rw [cmpI_lt ho] at HC
        have HA2 := Lib.hid (show ∀ p, p < m + 1 → (nAt l p).id < t from fun p hp => by
          rcases Nat.lt_or_ge p m with h | h
          · have := HR.out p m h hml; rw [HX.out] at this; omega
          · obtain rfl : p = m := by omega
            rw [HX.out]; exact ho)
        go_wp2_with fail
        refine HC.out.mono ?_
        rintro e w1 ⟨rfl, hb1⟩
        go_wp2_with fail
        go_roundw
        case rel => exact ⟨m + 1, b, by omega, hb, by go_num, rfl, HA2, HB, below_call hB hB.size hb1⟩
        case measure => simp [intOf]; omega
      · rw [cmpI_eq ho] at HC
        have HB2 := Lib.hid (show ∀ p, m ≤ p → p < l.length → t ≤ (nAt l p).id from fun p hp hpl => by
          rcases Nat.lt_or_ge m p with h | h
          · have := HR.out m p h hpl; rw [HX.out] at this; omega
          · obtain rfl : p = m := by omega
            rw [HX.out]; omega)
        clear ho
        go_wp2_with fail
        refine HC.out.mono ?_
        rintro e w1 ⟨rfl, hb1⟩
        go_wp2_with fail
        go_roundw
        case rel => exact ⟨a, m, ham, by omega, rfl, by go_num, HA, HB2, below_call hB hB.size hb1⟩
        case measure => simp [intOf]; omega
      · rw [cmpI_gt ho] at HC
        have HB2 := Lib.hid (show ∀ p, m ≤ p → p < l.length → t ≤ (nAt l p).id from fun p hp hpl => by
          rcases Nat.lt_or_ge m p with h | h
          · have := HR.out m p h hpl; rw [HX.out] at this; omega
          · obtain rfl : p = m := by omega
            rw [HX.out]; omega)
        go_wp2_with fail
        refine HC.out.mono ?_
        rintro e w1 ⟨rfl, hb1⟩
        go_wp2_with fail
        go_roundw
        case rel => exact ⟨a, m, ham, by omega, rfl, by go_num, HA, HB2, below_call hB hB.size hb1⟩
        case measure => simp [intOf]; omega
    · have hae : b ≤ a := by omega
      by_cases hal : a < l.length
      · obtain ⟨x, hx, hxm⟩ := get_some (l := l) (k := a) hal
        obtain ⟨bb, off, cs, rfl, hIb, hbl, hcs, hat⟩ := h.get hx
        have hcs' := NodeD.ty.belowB (fun _ hb => hb.2) hB (NodeD.ty.lt hcs)
        obtain ⟨X1, e1, X2, e2, rfl, _⟩ := NodeD.rep_open hcs
        obtain ⟨g0, g1, g2⟩ := (hat.below hbl hB).three
        have HC := Lib.hid (has1_any x t _ wr _ hcs')
        have HX := Lib.hid (nAt_get hx)
        have HXM := Lib.hid hxm
        clear hat hcs hcs' hx
        by_cases ho : x.id = t
        · rw [cmpI_eq ho] at HC
          have HT := Lib.hid (show hasNode l t = true from by simp only [hasNode, List.any_eq_true]; exact ⟨x, hxm, by simp [ho]⟩)
          clear ho
          go_wp2_with fail
          refine HC.out.mono ?_
          rintro e w1 ⟨rfl, hb1⟩
          go_wp2_with fail
          refine bodyPost_ret (v := .tuple #[.int .i64 a, .bool true]) (by simp [results, Tryz.results299, go_sem]) rfl ⟨_, by rw [HT.out], below_call hB hB.size hb1⟩
        · have hco : cmpI x.id t ≠ 0 := by
            rcases Int.lt_trichotomy x.id t with h | h | h
            · rw [cmpI_lt h]; decide
            · exact absurd h ho
            · rw [cmpI_gt h]; decide
          have hcb : (cmpI x.id t == 0) = false := by simpa using hco
          have HT := Lib.hid (show hasNode l t = false from by
            simp only [hasNode, List.any_eq_false, beq_iff_eq]
            intro y hy hyt
            obtain ⟨p, hp, he⟩ := List.getElem_of_mem hy
            have hpg : nAt l p = y := nAt_get (by rw [List.getElem?_eq_getElem hp, he])
            have h3 := HB.out a hae hal
            rw [HX.out] at h3
            rcases Nat.lt_trichotomy p a with h | h | h
            · have := HA.out p h; rw [hpg] at this; omega
            · subst h; rw [HX.out] at hpg; rw [hpg] at ho; exact ho hyt
            · have := HR.out a p h hp; rw [HX.out, hpg] at this; omega)
          generalize cmpI x.id t = cc at *
          go_wp2_with fail
          refine HC.out.mono ?_
          rintro e w1 ⟨rfl, hb1⟩
          go_wp2_with fail
          refine bodyPost_ret (v := .tuple #[.int .i64 a, .bool false]) (by simp [results, Tryz.results299, go_sem]) rfl ⟨_, by rw [HT.out], below_call hB hB.size hb1⟩
      · have HT := Lib.hid (show hasNode l t = false from by
          simp only [hasNode, List.any_eq_false, beq_iff_eq]
          intro y hy hyt
          obtain ⟨p, hp, he⟩ := List.getElem_of_mem hy
          have hpg : nAt l p = y := nAt_get (by rw [List.getElem?_eq_getElem hp, he])
          have := HA.out p (by omega)
          rw [hpg] at this; omega)
        go_wp2_with fail
        refine bodyPost_ret (v := .tuple #[.int .i64 a, .bool false]) (by simp [results, Tryz.results299, go_sem]) rfl ⟨_, by rw [HT.out], hB⟩
theorem has_any (g : GraphD) (t : Int) (I : Nat → Prop) (w : World) (cs : List Value) (h : GraphD.ty.rep I w g cs) (hl : g.nodes.length ≤ BIG) (hr : Rising g.nodes) :
    Calls Tryz.prog 238 #[.agg cs.toArray, .int .i64 t] w fun e w' => e = .returned (.bool (hasNode g.nodes t)) ∧ Below w.heap.size w w' := by
  obtain ⟨A1, c1, A2, c2, rfl, k1, k2, h1, h2⟩ := GraphD.rep_open h
  have hB0 := below_alloc' (Below.refl w.heap.size w) (Nat.le_refl _) (.cells #[.slice A1 g.nodes.length c1, .slice A2 g.rels.length c2, .int .i64 g.nextNode, .int .i64 g.nextRel] 56)
  have HC := Lib.hid (search_any g.nodes t _ A1 c1 _ (Row.at NodeD.ty h1 hB0) hl hr)
  generalize hasNode g.nodes t = r at *
  clear h h1 h2
  go_enter Tryz.func238, Tryz.ntmps238
  go_wp2_with fail
  refine HC.out.mono ?_
  rintro e w1 ⟨i, rfl, hb1⟩
  go_wp2_with fail
  go_ret
  exact ⟨rfl, below_call hB0 hB0.size hb1⟩
end Go.Proofs.YtcmahpddjggcaaaGreatDoor
