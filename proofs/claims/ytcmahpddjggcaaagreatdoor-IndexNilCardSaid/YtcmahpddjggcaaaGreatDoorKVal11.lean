/- value.Compare, Same, Equal, Less. Printed by wip/gen_val11.py. -/
import Derived.Test.YtcmahpddjggcaaaGreatDoorKVal10
namespace Go.Proofs.YtcmahpddjggcaaaGreatDoor
open Go Go.RowKit
set_option maxHeartbeats 4000000
set_option maxRecDepth 100000
/-- May both be? -/
def V.both (a u : V) : Bool := a.check == 0 && u.check == 0
def V.Cmp (a u : V) : Int := if V.both a u then V.cmp a u else 0
def V.Same (a u : V) : Bool := V.both a u && decide (V.cmp a u = 0)
def V.Equal (a u : V) : Int := if V.both a u then V.eq a u else 1
def V.Less (a u : V) : Int := if V.both a u ∧ a.kind = u.kind then (if a.kind = 2 ∨ a.kind = 3 ∨ a.kind = 1 then (if V.cmp a u < 0 then 2 else 0) else 1) else 1
theorem fine2 (a u : V) (I J : Nat → Prop) (W : World) (cs ds : List Value) (h : V.ty.rep I W a cs) (h' : V.ty.rep J W u ds) (hs : a.size + 1 ≤ BIG) (hs' : u.size + 1 ≤ BIG) (hT : Tabs W) :
    Calls Tryz.prog 177 #[.slice (some ⟨W.heap.size, 0, none⟩) 2 2] (W.alloc (.cells (cs ++ ds).toArray 26)) fun e w' => e = .returned (.bool (V.both a u)) ∧ Below W.heap.size W w' := by
  have hB := below_alloc' (Below.refl W.heap.size W) (Nat.le_refl _) (.cells (cs ++ ds).toArray 26)
  have hr : Row 6 (V.ty.rep (fun _ => True) (W.alloc (.cells (cs ++ ds).toArray 26))) (fun _ => True) (W.alloc (.cells (cs ++ ds).toArray 26)) (some ⟨W.heap.size, 0, none⟩) [a, u] := by
    obtain ⟨g, _⟩ := (Blk.new W (cs ++ ds) 26).rd
    refine .inr ⟨W.heap.size, 0, rfl, trivial, by simp, ?_⟩
    have hl := V.ty.len h
    have hcs : Reps (V.ty.rep (fun _ => True) (W.alloc (.cells (cs ++ ds).toArray 26))) [a, u] (cs ++ ds) :=
      ⟨cs, ds, rfl, V.ty.mono (fun _ _ => trivial) (V.ty.below hB h), ds, [], by simp, V.ty.mono (fun _ _ => trivial) (V.ty.below hB h'), rfl⟩
    exact hcs.rowFrom (fun _ _ h => V.ty.len h) (fun j v hj => by rw [Nat.zero_add, g]; exact hj)
  have := fine_any [a, u] _ _ 2 _ hr (by show 2 ≤ BIG; decide) (fun v hv => by
    rcases List.mem_cons.1 hv with rfl | hv
    · exact hs
    · rcases List.mem_cons.1 hv with rfl | hv
      · exact hs'
      · cases hv) (hT.below hB)
  refine this.mono ?_
  rintro e w' ⟨rfl, hb⟩
  exact ⟨by simp [V.both], below_call hB hB.size hb⟩
theorem Compare_any (a u : V) (I J : Nat → Prop) (w : World) (cs ds : List Value) (h : V.ty.rep I w a cs) (h' : V.ty.rep J w u ds) (hs : a.size + 1 ≤ BIG) (hs' : u.size + 1 ≤ BIG) (hT : Tabs w) :
    Calls Tryz.prog 81 #[.agg cs.toArray, .agg ds.toArray] w fun e w' => e = .returned (.int .i64 (V.Cmp a u)) ∧ Below w.heap.size w w' := by
  have hr := V.ty.lt h
  have hr' := V.ty.lt h'
  obtain ⟨A1, c1, A2, c2, rfl, h1, h2, h3, h4⟩ := V.rep_open h
  obtain ⟨B1, d1, B2, d2, rfl, k1, k2, k3, k4⟩ := V.rep_open h'
  have HM := Lib.hid (show ∀ W, Below w.heap.size w W → Calls Tryz.prog 178 #[.agg #[.int .i64 a.kind, .bool a.bool, .int .i64 a.int, .string a.text, .slice A1 a.keys.length c1, .slice A2 a.list.length c2], .agg #[.int .i64 u.kind, .bool u.bool, .int .i64 u.int, .string u.text, .slice B1 u.keys.length d1, .slice B2 u.list.length d2]] W fun e w' => e = .returned (.int .i64 (V.cmp a u)) ∧ Below W.heap.size W w' from fun W hW =>
    compare_any a u _ _ W _ _ (V.ty.belowB (fun b hb => hb.2) hW hr) (V.ty.belowB (fun b hb => hb.2) hW hr') (by omega) (by omega))
  have hB2 : Below w.heap.size w ((w.alloc (.cells #[.int .i64 a.kind, .bool a.bool, .int .i64 a.int, .string a.text, .slice A1 a.keys.length c1, .slice A2 a.list.length c2] 26)).alloc (.cells #[.int .i64 u.kind, .bool u.bool, .int .i64 u.int, .string u.text, .slice B1 u.keys.length d1, .slice B2 u.list.length d2] 26)) := below_alloc' (below_alloc' (Below.refl _ _) (Nat.le_refl _) _) (Nat.le_refl _) _
  have HF := Lib.hid (show Calls Tryz.prog 177 #[.slice (some ⟨((w.alloc (.cells #[.int .i64 a.kind, .bool a.bool, .int .i64 a.int, .string a.text, .slice A1 a.keys.length c1, .slice A2 a.list.length c2] 26)).alloc (.cells #[.int .i64 u.kind, .bool u.bool, .int .i64 u.int, .string u.text, .slice B1 u.keys.length d1, .slice B2 u.list.length d2] 26)).heap.size, 0, none⟩) 2 2] (((w.alloc (.cells #[.int .i64 a.kind, .bool a.bool, .int .i64 a.int, .string a.text, .slice A1 a.keys.length c1, .slice A2 a.list.length c2] 26)).alloc (.cells #[.int .i64 u.kind, .bool u.bool, .int .i64 u.int, .string u.text, .slice B1 u.keys.length d1, .slice B2 u.list.length d2] 26)).alloc (.cells #[.int .i64 a.kind, .bool a.bool, .int .i64 a.int, .string a.text, .slice A1 a.keys.length c1, .slice A2 a.list.length c2, .int .i64 u.kind, .bool u.bool, .int .i64 u.int, .string u.text, .slice B1 u.keys.length d1, .slice B2 u.list.length d2] 26)) fun e w' => e = .returned (.bool (V.both a u)) ∧ Below ((w.alloc (.cells #[.int .i64 a.kind, .bool a.bool, .int .i64 a.int, .string a.text, .slice A1 a.keys.length c1, .slice A2 a.list.length c2] 26)).alloc (.cells #[.int .i64 u.kind, .bool u.bool, .int .i64 u.int, .string u.text, .slice B1 u.keys.length d1, .slice B2 u.list.length d2] 26)).heap.size ((w.alloc (.cells #[.int .i64 a.kind, .bool a.bool, .int .i64 a.int, .string a.text, .slice A1 a.keys.length c1, .slice A2 a.list.length c2] 26)).alloc (.cells #[.int .i64 u.kind, .bool u.bool, .int .i64 u.int, .string u.text, .slice B1 u.keys.length d1, .slice B2 u.list.length d2] 26)) w' from
    fine2 a u _ _ _ _ _ (V.ty.belowB (fun b hb => hb.2) hB2 hr) (V.ty.belowB (fun b hb => hb.2) hB2 hr') hs hs' (hT.below hB2))
  have b1 : Blk ((w.alloc (.cells #[.int .i64 a.kind, .bool a.bool, .int .i64 a.int, .string a.text, .slice A1 a.keys.length c1, .slice A2 a.list.length c2] 26)).alloc (.cells #[.int .i64 u.kind, .bool u.bool, .int .i64 u.int, .string u.text, .slice B1 u.keys.length d1, .slice B2 u.list.length d2] 26)) w.heap.size [.int .i64 a.kind, .bool a.bool, .int .i64 a.int, .string a.text, .slice A1 a.keys.length c1, .slice A2 a.list.length c2] 26 := (Blk.new w _ _).alloc _
  have b2 : Blk ((w.alloc (.cells #[.int .i64 a.kind, .bool a.bool, .int .i64 a.int, .string a.text, .slice A1 a.keys.length c1, .slice A2 a.list.length c2] 26)).alloc (.cells #[.int .i64 u.kind, .bool u.bool, .int .i64 u.int, .string u.text, .slice B1 u.keys.length d1, .slice B2 u.list.length d2] 26)) (w.heap.size + 1) [.int .i64 u.kind, .bool u.bool, .int .i64 u.int, .string u.text, .slice B1 u.keys.length d1, .slice B2 u.list.length d2] 26 := by have := Blk.new (w.alloc (.cells #[.int .i64 a.kind, .bool a.bool, .int .i64 a.int, .string a.text, .slice A1 a.keys.length c1, .slice A2 a.list.length c2] 26)) [.int .i64 u.kind, .bool u.bool, .int .i64 u.int, .string u.text, .slice B1 u.keys.length d1, .slice B2 u.list.length d2] 26; simpa using this
  simp only [World.size_alloc] at HF
  clear h h' h3 h4 k3 k4 hr hr' hT
  obtain ⟨fn, HFN⟩ : ∃ q, Hid (V.both a u = q) := ⟨_, Lib.hid rfl⟩
  rw [HFN.out] at HF
  cases fn with
  | false =>
    have HT := Lib.hid (show V.Cmp a u = 0 by simp only [V.Cmp, HFN.out]; rfl)
    go_enter Tryz.func81, Tryz.ntmps81
    go_wp2_with fail
    refine HF.out.mono ?_
    rintro e w1 ⟨rfl, hb1⟩
    have hB3 := hB2.trans (hb1.mono (by omega))
    have j1 := b1.belowB hb1 (by omega)
    have j2 := b2.belowB hb1 (by omega)
    obtain ⟨g1, f1, s1⟩ := j1.facts
    obtain ⟨g2, f2, s2⟩ := j2.facts
    clear b1 b2 hB2 hb1
    go_wp2_with fail
    go_ret
    exact ⟨by rw [HT.out]; rfl, hB3⟩
  | true =>
    have HT := Lib.hid (show V.Cmp a u = V.cmp a u by simp only [V.Cmp, HFN.out]; rfl)
    generalize V.cmp a u = cc at *
    go_enter Tryz.func81, Tryz.ntmps81
    go_wp2_with fail
    refine HF.out.mono ?_
    rintro e w1 ⟨rfl, hb1⟩
    have hB3 := hB2.trans (hb1.mono (by omega))
    have j1 := b1.belowB hb1 (by omega)
    have j2 := b2.belowB hb1 (by omega)
    obtain ⟨g1, f1, s1⟩ := j1.facts
    obtain ⟨g2, f2, s2⟩ := j2.facts
    clear b1 b2 hB2 hb1
    go_wp2_with fail
    refine (HM.out _ hB3).mono ?_
    rintro e w2 ⟨rfl, hb2⟩
    have hB4 := hB3.trans (hb2.mono hB3.size)
    clear hb2
    go_wp2_with fail
    go_ret
    exact ⟨by rw [HT.out]; rfl, hB4⟩
theorem Equal_any (a u : V) (I J : Nat → Prop) (w : World) (cs ds : List Value) (h : V.ty.rep I w a cs) (h' : V.ty.rep J w u ds) (hs : a.size + 1 ≤ BIG) (hs' : u.size + 1 ≤ BIG) (hT : Tabs w) :
    Calls Tryz.prog 82 #[.agg cs.toArray, .agg ds.toArray] w fun e w' => e = .returned (.int .i64 (V.Equal a u)) ∧ Below w.heap.size w w' := by
  have hr := V.ty.lt h
  have hr' := V.ty.lt h'
  obtain ⟨A1, c1, A2, c2, rfl, h1, h2, h3, h4⟩ := V.rep_open h
  obtain ⟨B1, d1, B2, d2, rfl, k1, k2, k3, k4⟩ := V.rep_open h'
  have HM := Lib.hid (show ∀ W, Below w.heap.size w W → Calls Tryz.prog 183 #[.agg #[.int .i64 a.kind, .bool a.bool, .int .i64 a.int, .string a.text, .slice A1 a.keys.length c1, .slice A2 a.list.length c2], .agg #[.int .i64 u.kind, .bool u.bool, .int .i64 u.int, .string u.text, .slice B1 u.keys.length d1, .slice B2 u.list.length d2]] W fun e w' => e = .returned (.int .i64 (V.eq a u)) ∧ Below W.heap.size W w' from fun W hW =>
    equal_any a u _ _ W _ _ (V.ty.belowB (fun b hb => hb.2) hW hr) (V.ty.belowB (fun b hb => hb.2) hW hr') (by omega) (by omega))
  have hB2 : Below w.heap.size w ((w.alloc (.cells #[.int .i64 a.kind, .bool a.bool, .int .i64 a.int, .string a.text, .slice A1 a.keys.length c1, .slice A2 a.list.length c2] 26)).alloc (.cells #[.int .i64 u.kind, .bool u.bool, .int .i64 u.int, .string u.text, .slice B1 u.keys.length d1, .slice B2 u.list.length d2] 26)) := below_alloc' (below_alloc' (Below.refl _ _) (Nat.le_refl _) _) (Nat.le_refl _) _
  have HF := Lib.hid (show Calls Tryz.prog 177 #[.slice (some ⟨((w.alloc (.cells #[.int .i64 a.kind, .bool a.bool, .int .i64 a.int, .string a.text, .slice A1 a.keys.length c1, .slice A2 a.list.length c2] 26)).alloc (.cells #[.int .i64 u.kind, .bool u.bool, .int .i64 u.int, .string u.text, .slice B1 u.keys.length d1, .slice B2 u.list.length d2] 26)).heap.size, 0, none⟩) 2 2] (((w.alloc (.cells #[.int .i64 a.kind, .bool a.bool, .int .i64 a.int, .string a.text, .slice A1 a.keys.length c1, .slice A2 a.list.length c2] 26)).alloc (.cells #[.int .i64 u.kind, .bool u.bool, .int .i64 u.int, .string u.text, .slice B1 u.keys.length d1, .slice B2 u.list.length d2] 26)).alloc (.cells #[.int .i64 a.kind, .bool a.bool, .int .i64 a.int, .string a.text, .slice A1 a.keys.length c1, .slice A2 a.list.length c2, .int .i64 u.kind, .bool u.bool, .int .i64 u.int, .string u.text, .slice B1 u.keys.length d1, .slice B2 u.list.length d2] 26)) fun e w' => e = .returned (.bool (V.both a u)) ∧ Below ((w.alloc (.cells #[.int .i64 a.kind, .bool a.bool, .int .i64 a.int, .string a.text, .slice A1 a.keys.length c1, .slice A2 a.list.length c2] 26)).alloc (.cells #[.int .i64 u.kind, .bool u.bool, .int .i64 u.int, .string u.text, .slice B1 u.keys.length d1, .slice B2 u.list.length d2] 26)).heap.size ((w.alloc (.cells #[.int .i64 a.kind, .bool a.bool, .int .i64 a.int, .string a.text, .slice A1 a.keys.length c1, .slice A2 a.list.length c2] 26)).alloc (.cells #[.int .i64 u.kind, .bool u.bool, .int .i64 u.int, .string u.text, .slice B1 u.keys.length d1, .slice B2 u.list.length d2] 26)) w' from
    fine2 a u _ _ _ _ _ (V.ty.belowB (fun b hb => hb.2) hB2 hr) (V.ty.belowB (fun b hb => hb.2) hB2 hr') hs hs' (hT.below hB2))
  have b1 : Blk ((w.alloc (.cells #[.int .i64 a.kind, .bool a.bool, .int .i64 a.int, .string a.text, .slice A1 a.keys.length c1, .slice A2 a.list.length c2] 26)).alloc (.cells #[.int .i64 u.kind, .bool u.bool, .int .i64 u.int, .string u.text, .slice B1 u.keys.length d1, .slice B2 u.list.length d2] 26)) w.heap.size [.int .i64 a.kind, .bool a.bool, .int .i64 a.int, .string a.text, .slice A1 a.keys.length c1, .slice A2 a.list.length c2] 26 := (Blk.new w _ _).alloc _
  have b2 : Blk ((w.alloc (.cells #[.int .i64 a.kind, .bool a.bool, .int .i64 a.int, .string a.text, .slice A1 a.keys.length c1, .slice A2 a.list.length c2] 26)).alloc (.cells #[.int .i64 u.kind, .bool u.bool, .int .i64 u.int, .string u.text, .slice B1 u.keys.length d1, .slice B2 u.list.length d2] 26)) (w.heap.size + 1) [.int .i64 u.kind, .bool u.bool, .int .i64 u.int, .string u.text, .slice B1 u.keys.length d1, .slice B2 u.list.length d2] 26 := by have := Blk.new (w.alloc (.cells #[.int .i64 a.kind, .bool a.bool, .int .i64 a.int, .string a.text, .slice A1 a.keys.length c1, .slice A2 a.list.length c2] 26)) [.int .i64 u.kind, .bool u.bool, .int .i64 u.int, .string u.text, .slice B1 u.keys.length d1, .slice B2 u.list.length d2] 26; simpa using this
  simp only [World.size_alloc] at HF
  clear h h' h3 h4 k3 k4 hr hr' hT
  obtain ⟨fn, HFN⟩ : ∃ q, Hid (V.both a u = q) := ⟨_, Lib.hid rfl⟩
  rw [HFN.out] at HF
  cases fn with
  | false =>
    have HT := Lib.hid (show V.Equal a u = 1 by simp only [V.Equal, HFN.out]; rfl)
    go_enter Tryz.func82, Tryz.ntmps82
    go_wp2_with fail
    refine HF.out.mono ?_
    rintro e w1 ⟨rfl, hb1⟩
    have hB3 := hB2.trans (hb1.mono (by omega))
    have j1 := b1.belowB hb1 (by omega)
    have j2 := b2.belowB hb1 (by omega)
    obtain ⟨g1, f1, s1⟩ := j1.facts
    obtain ⟨g2, f2, s2⟩ := j2.facts
    clear b1 b2 hB2 hb1
    go_wp2_with fail
    go_ret
    exact ⟨by rw [HT.out]; rfl, hB3⟩
  | true =>
    have HT := Lib.hid (show V.Equal a u = V.eq a u by simp only [V.Equal, HFN.out]; rfl)
    generalize V.eq a u = cc at *
    go_enter Tryz.func82, Tryz.ntmps82
    go_wp2_with fail
    refine HF.out.mono ?_
    rintro e w1 ⟨rfl, hb1⟩
    have hB3 := hB2.trans (hb1.mono (by omega))
    have j1 := b1.belowB hb1 (by omega)
    have j2 := b2.belowB hb1 (by omega)
    obtain ⟨g1, f1, s1⟩ := j1.facts
    obtain ⟨g2, f2, s2⟩ := j2.facts
    clear b1 b2 hB2 hb1
    go_wp2_with fail
    refine (HM.out _ hB3).mono ?_
    rintro e w2 ⟨rfl, hb2⟩
    have hB4 := hB3.trans (hb2.mono hB3.size)
    clear hb2
    go_wp2_with fail
    go_ret
    exact ⟨by rw [HT.out]; rfl, hB4⟩
theorem Same_any (a u : V) (I J : Nat → Prop) (w : World) (cs ds : List Value) (h : V.ty.rep I w a cs) (h' : V.ty.rep J w u ds) (hs : a.size + 1 ≤ BIG) (hs' : u.size + 1 ≤ BIG) (hT : Tabs w) :
    Calls Tryz.prog 76 #[.agg cs.toArray, .agg ds.toArray] w fun e w' => e = .returned (.bool (V.Same a u)) ∧ Below w.heap.size w w' := by
  have hr := V.ty.lt h
  have hr' := V.ty.lt h'
  obtain ⟨A1, c1, A2, c2, rfl, h1, h2, h3, h4⟩ := V.rep_open h
  obtain ⟨B1, d1, B2, d2, rfl, k1, k2, k3, k4⟩ := V.rep_open h'
  have HM := Lib.hid (show ∀ W, Below w.heap.size w W → Calls Tryz.prog 178 #[.agg #[.int .i64 a.kind, .bool a.bool, .int .i64 a.int, .string a.text, .slice A1 a.keys.length c1, .slice A2 a.list.length c2], .agg #[.int .i64 u.kind, .bool u.bool, .int .i64 u.int, .string u.text, .slice B1 u.keys.length d1, .slice B2 u.list.length d2]] W fun e w' => e = .returned (.int .i64 (V.cmp a u)) ∧ Below W.heap.size W w' from fun W hW =>
    compare_any a u _ _ W _ _ (V.ty.belowB (fun b hb => hb.2) hW hr) (V.ty.belowB (fun b hb => hb.2) hW hr') (by omega) (by omega))
  have hB2 : Below w.heap.size w ((w.alloc (.cells #[.int .i64 a.kind, .bool a.bool, .int .i64 a.int, .string a.text, .slice A1 a.keys.length c1, .slice A2 a.list.length c2] 26)).alloc (.cells #[.int .i64 u.kind, .bool u.bool, .int .i64 u.int, .string u.text, .slice B1 u.keys.length d1, .slice B2 u.list.length d2] 26)) := below_alloc' (below_alloc' (Below.refl _ _) (Nat.le_refl _) _) (Nat.le_refl _) _
  have HF := Lib.hid (show Calls Tryz.prog 177 #[.slice (some ⟨((w.alloc (.cells #[.int .i64 a.kind, .bool a.bool, .int .i64 a.int, .string a.text, .slice A1 a.keys.length c1, .slice A2 a.list.length c2] 26)).alloc (.cells #[.int .i64 u.kind, .bool u.bool, .int .i64 u.int, .string u.text, .slice B1 u.keys.length d1, .slice B2 u.list.length d2] 26)).heap.size, 0, none⟩) 2 2] (((w.alloc (.cells #[.int .i64 a.kind, .bool a.bool, .int .i64 a.int, .string a.text, .slice A1 a.keys.length c1, .slice A2 a.list.length c2] 26)).alloc (.cells #[.int .i64 u.kind, .bool u.bool, .int .i64 u.int, .string u.text, .slice B1 u.keys.length d1, .slice B2 u.list.length d2] 26)).alloc (.cells #[.int .i64 a.kind, .bool a.bool, .int .i64 a.int, .string a.text, .slice A1 a.keys.length c1, .slice A2 a.list.length c2, .int .i64 u.kind, .bool u.bool, .int .i64 u.int, .string u.text, .slice B1 u.keys.length d1, .slice B2 u.list.length d2] 26)) fun e w' => e = .returned (.bool (V.both a u)) ∧ Below ((w.alloc (.cells #[.int .i64 a.kind, .bool a.bool, .int .i64 a.int, .string a.text, .slice A1 a.keys.length c1, .slice A2 a.list.length c2] 26)).alloc (.cells #[.int .i64 u.kind, .bool u.bool, .int .i64 u.int, .string u.text, .slice B1 u.keys.length d1, .slice B2 u.list.length d2] 26)).heap.size ((w.alloc (.cells #[.int .i64 a.kind, .bool a.bool, .int .i64 a.int, .string a.text, .slice A1 a.keys.length c1, .slice A2 a.list.length c2] 26)).alloc (.cells #[.int .i64 u.kind, .bool u.bool, .int .i64 u.int, .string u.text, .slice B1 u.keys.length d1, .slice B2 u.list.length d2] 26)) w' from
    fine2 a u _ _ _ _ _ (V.ty.belowB (fun b hb => hb.2) hB2 hr) (V.ty.belowB (fun b hb => hb.2) hB2 hr') hs hs' (hT.below hB2))
  have b1 : Blk ((w.alloc (.cells #[.int .i64 a.kind, .bool a.bool, .int .i64 a.int, .string a.text, .slice A1 a.keys.length c1, .slice A2 a.list.length c2] 26)).alloc (.cells #[.int .i64 u.kind, .bool u.bool, .int .i64 u.int, .string u.text, .slice B1 u.keys.length d1, .slice B2 u.list.length d2] 26)) w.heap.size [.int .i64 a.kind, .bool a.bool, .int .i64 a.int, .string a.text, .slice A1 a.keys.length c1, .slice A2 a.list.length c2] 26 := (Blk.new w _ _).alloc _
  have b2 : Blk ((w.alloc (.cells #[.int .i64 a.kind, .bool a.bool, .int .i64 a.int, .string a.text, .slice A1 a.keys.length c1, .slice A2 a.list.length c2] 26)).alloc (.cells #[.int .i64 u.kind, .bool u.bool, .int .i64 u.int, .string u.text, .slice B1 u.keys.length d1, .slice B2 u.list.length d2] 26)) (w.heap.size + 1) [.int .i64 u.kind, .bool u.bool, .int .i64 u.int, .string u.text, .slice B1 u.keys.length d1, .slice B2 u.list.length d2] 26 := by have := Blk.new (w.alloc (.cells #[.int .i64 a.kind, .bool a.bool, .int .i64 a.int, .string a.text, .slice A1 a.keys.length c1, .slice A2 a.list.length c2] 26)) [.int .i64 u.kind, .bool u.bool, .int .i64 u.int, .string u.text, .slice B1 u.keys.length d1, .slice B2 u.list.length d2] 26; simpa using this
  simp only [World.size_alloc] at HF
  clear h h' h3 h4 k3 k4 hr hr' hT
  obtain ⟨fn, HFN⟩ : ∃ q, Hid (V.both a u = q) := ⟨_, Lib.hid rfl⟩
  rw [HFN.out] at HF
  cases fn with
  | false =>
    have HT := Lib.hid (show V.Same a u = false by simp only [V.Same, HFN.out]; rfl)
    go_enter Tryz.func76, Tryz.ntmps76
    go_wp2_with fail
    refine HF.out.mono ?_
    rintro e w1 ⟨rfl, hb1⟩
    have hB3 := hB2.trans (hb1.mono (by omega))
    have j1 := b1.belowB hb1 (by omega)
    have j2 := b2.belowB hb1 (by omega)
    obtain ⟨g1, f1, s1⟩ := j1.facts
    obtain ⟨g2, f2, s2⟩ := j2.facts
    clear b1 b2 hB2 hb1
    go_wp2_with fail
    go_ret
    exact ⟨by rw [HT.out]; rfl, hB3⟩
  | true =>
    have HT := Lib.hid (show V.Same a u = decide (V.cmp a u = 0) by simp only [V.Same, HFN.out]; rfl)
    generalize V.cmp a u = cc at *
    by_cases hcc : cc = 0
    · have HT2 := Lib.hid (HT.out.trans (decide_eq_true hcc))
      have q1 : (cc == 0) = true := by simpa using hcc
      have q2 : cc ≤ 0 := by omega
      have q3 : 0 ≤ cc := by omega
      clear hcc
      go_enter Tryz.func76, Tryz.ntmps76
      go_wp2_with fail
      refine HF.out.mono ?_
      rintro e w1 ⟨rfl, hb1⟩
      have hB3 := hB2.trans (hb1.mono (by omega))
      have j1 := b1.belowB hb1 (by omega)
      have j2 := b2.belowB hb1 (by omega)
      obtain ⟨g1, f1, s1⟩ := j1.facts
      obtain ⟨g2, f2, s2⟩ := j2.facts
      clear b1 b2 hB2 hb1
      go_wp2_with fail
      refine (HM.out _ hB3).mono ?_
      rintro e w2 ⟨rfl, hb2⟩
      have hB4 := hB3.trans (hb2.mono hB3.size)
      clear hb2
      go_wp2_with fail
      go_ret
      exact ⟨by rw [HT2.out]; rfl, hB4⟩
    · have HT2 := Lib.hid (HT.out.trans (decide_eq_false hcc))
      have q1 : (cc == 0) = false := by simpa using hcc
      go_enter Tryz.func76, Tryz.ntmps76
      go_wp2_with fail
      refine HF.out.mono ?_
      rintro e w1 ⟨rfl, hb1⟩
      have hB3 := hB2.trans (hb1.mono (by omega))
      have j1 := b1.belowB hb1 (by omega)
      have j2 := b2.belowB hb1 (by omega)
      obtain ⟨g1, f1, s1⟩ := j1.facts
      obtain ⟨g2, f2, s2⟩ := j2.facts
      clear b1 b2 hB2 hb1
      go_wp2_with fail
      refine (HM.out _ hB3).mono ?_
      rintro e w2 ⟨rfl, hb2⟩
      have hB4 := hB3.trans (hb2.mono hB3.size)
      clear hb2
      go_wp2_with fail
      go_ret
      exact ⟨by rw [HT2.out]; rfl, hB4⟩
theorem Less_any (a u : V) (I J : Nat → Prop) (w : World) (cs ds : List Value) (h : V.ty.rep I w a cs) (h' : V.ty.rep J w u ds) (hs : a.size + 1 ≤ BIG) (hs' : u.size + 1 ≤ BIG) (hT : Tabs w) :
    Calls Tryz.prog 85 #[.agg cs.toArray, .agg ds.toArray] w fun e w' => e = .returned (.int .i64 (V.Less a u)) ∧ Below w.heap.size w w' := by
  have hr := V.ty.lt h
  have hr' := V.ty.lt h'
  obtain ⟨A1, c1, A2, c2, rfl, h1, h2, h3, h4⟩ := V.rep_open h
  obtain ⟨B1, d1, B2, d2, rfl, k1, k2, k3, k4⟩ := V.rep_open h'
  have HM := Lib.hid (show ∀ W, Below w.heap.size w W → Calls Tryz.prog 178 #[.agg #[.int .i64 a.kind, .bool a.bool, .int .i64 a.int, .string a.text, .slice A1 a.keys.length c1, .slice A2 a.list.length c2], .agg #[.int .i64 u.kind, .bool u.bool, .int .i64 u.int, .string u.text, .slice B1 u.keys.length d1, .slice B2 u.list.length d2]] W fun e w' => e = .returned (.int .i64 (V.cmp a u)) ∧ Below W.heap.size W w' from fun W hW =>
    compare_any a u _ _ W _ _ (V.ty.belowB (fun b hb => hb.2) hW hr) (V.ty.belowB (fun b hb => hb.2) hW hr') (by omega) (by omega))
  have hB2 : Below w.heap.size w ((w.alloc (.cells #[.int .i64 a.kind, .bool a.bool, .int .i64 a.int, .string a.text, .slice A1 a.keys.length c1, .slice A2 a.list.length c2] 26)).alloc (.cells #[.int .i64 u.kind, .bool u.bool, .int .i64 u.int, .string u.text, .slice B1 u.keys.length d1, .slice B2 u.list.length d2] 26)) := below_alloc' (below_alloc' (Below.refl _ _) (Nat.le_refl _) _) (Nat.le_refl _) _
  have HF := Lib.hid (show Calls Tryz.prog 177 #[.slice (some ⟨((w.alloc (.cells #[.int .i64 a.kind, .bool a.bool, .int .i64 a.int, .string a.text, .slice A1 a.keys.length c1, .slice A2 a.list.length c2] 26)).alloc (.cells #[.int .i64 u.kind, .bool u.bool, .int .i64 u.int, .string u.text, .slice B1 u.keys.length d1, .slice B2 u.list.length d2] 26)).heap.size, 0, none⟩) 2 2] (((w.alloc (.cells #[.int .i64 a.kind, .bool a.bool, .int .i64 a.int, .string a.text, .slice A1 a.keys.length c1, .slice A2 a.list.length c2] 26)).alloc (.cells #[.int .i64 u.kind, .bool u.bool, .int .i64 u.int, .string u.text, .slice B1 u.keys.length d1, .slice B2 u.list.length d2] 26)).alloc (.cells #[.int .i64 a.kind, .bool a.bool, .int .i64 a.int, .string a.text, .slice A1 a.keys.length c1, .slice A2 a.list.length c2, .int .i64 u.kind, .bool u.bool, .int .i64 u.int, .string u.text, .slice B1 u.keys.length d1, .slice B2 u.list.length d2] 26)) fun e w' => e = .returned (.bool (V.both a u)) ∧ Below ((w.alloc (.cells #[.int .i64 a.kind, .bool a.bool, .int .i64 a.int, .string a.text, .slice A1 a.keys.length c1, .slice A2 a.list.length c2] 26)).alloc (.cells #[.int .i64 u.kind, .bool u.bool, .int .i64 u.int, .string u.text, .slice B1 u.keys.length d1, .slice B2 u.list.length d2] 26)).heap.size ((w.alloc (.cells #[.int .i64 a.kind, .bool a.bool, .int .i64 a.int, .string a.text, .slice A1 a.keys.length c1, .slice A2 a.list.length c2] 26)).alloc (.cells #[.int .i64 u.kind, .bool u.bool, .int .i64 u.int, .string u.text, .slice B1 u.keys.length d1, .slice B2 u.list.length d2] 26)) w' from
    fine2 a u _ _ _ _ _ (V.ty.belowB (fun b hb => hb.2) hB2 hr) (V.ty.belowB (fun b hb => hb.2) hB2 hr') hs hs' (hT.below hB2))
  have b1 : Blk ((w.alloc (.cells #[.int .i64 a.kind, .bool a.bool, .int .i64 a.int, .string a.text, .slice A1 a.keys.length c1, .slice A2 a.list.length c2] 26)).alloc (.cells #[.int .i64 u.kind, .bool u.bool, .int .i64 u.int, .string u.text, .slice B1 u.keys.length d1, .slice B2 u.list.length d2] 26)) w.heap.size [.int .i64 a.kind, .bool a.bool, .int .i64 a.int, .string a.text, .slice A1 a.keys.length c1, .slice A2 a.list.length c2] 26 := (Blk.new w _ _).alloc _
  have b2 : Blk ((w.alloc (.cells #[.int .i64 a.kind, .bool a.bool, .int .i64 a.int, .string a.text, .slice A1 a.keys.length c1, .slice A2 a.list.length c2] 26)).alloc (.cells #[.int .i64 u.kind, .bool u.bool, .int .i64 u.int, .string u.text, .slice B1 u.keys.length d1, .slice B2 u.list.length d2] 26)) (w.heap.size + 1) [.int .i64 u.kind, .bool u.bool, .int .i64 u.int, .string u.text, .slice B1 u.keys.length d1, .slice B2 u.list.length d2] 26 := by have := Blk.new (w.alloc (.cells #[.int .i64 a.kind, .bool a.bool, .int .i64 a.int, .string a.text, .slice A1 a.keys.length c1, .slice A2 a.list.length c2] 26)) [.int .i64 u.kind, .bool u.bool, .int .i64 u.int, .string u.text, .slice B1 u.keys.length d1, .slice B2 u.list.length d2] 26; simpa using this
  simp only [World.size_alloc] at HF
  clear h h' h3 h4 k3 k4 hr hr' hT
  obtain ⟨fn, HFN⟩ : ∃ q, Hid (V.both a u = q) := ⟨_, Lib.hid rfl⟩
  rw [HFN.out] at HF
  have HTL := Lib.hid (show V.Less a u = if fn ∧ a.kind = u.kind then (if a.kind = 2 ∨ a.kind = 3 ∨ a.kind = 1 then (if V.cmp a u < 0 then 2 else 0) else 1) else 1 by rw [V.Less, HFN.out])
  generalize V.Less a u = r at *
  cases fn with
  | false =>
    have HT := Lib.hid (show r = 1 by rw [HTL.out]; simp)
    go_enter Tryz.func85, Tryz.ntmps85
    go_wp2_with fail
    refine HF.out.mono ?_
    rintro e w1 ⟨rfl, hb1⟩
    have hB3 := hB2.trans (hb1.mono (by omega))
    have j1 := b1.belowB hb1 (by omega)
    have j2 := b2.belowB hb1 (by omega)
    obtain ⟨g1, f1, s1⟩ := j1.facts
    obtain ⟨g2, f2, s2⟩ := j2.facts
    clear b1 b2 hB2 hb1
    go_wp2_with fail
    go_ret
    exact ⟨by rw [HT.out]; rfl, hB3⟩
  | true =>
    by_cases hku : a.kind = u.kind
    case neg =>
      have HT := Lib.hid (show r = 1 by rw [HTL.out, if_neg (fun e => hku e.2)])
      have q1 : (a.kind == u.kind) = false := by simpa using hku
      have q2 : (a.kind != u.kind) = true := by simpa using hku
      go_enter Tryz.func85, Tryz.ntmps85
      go_wp2_with fail
      refine HF.out.mono ?_
      rintro e w1 ⟨rfl, hb1⟩
      have hB3 := hB2.trans (hb1.mono (by omega))
      have j1 := b1.belowB hb1 (by omega)
      have j2 := b2.belowB hb1 (by omega)
      obtain ⟨g1, f1, s1⟩ := j1.facts
      obtain ⟨g2, f2, s2⟩ := j2.facts
      clear b1 b2 hB2 hb1
      go_wp2_with fail
      go_ret
      exact ⟨by rw [HT.out]; rfl, hB3⟩
    have HE2 := Lib.hid (HTL.out.trans (if_pos ⟨rfl, hku⟩))
    have q1 : (a.kind == u.kind) = true := by simpa using hku
    have q2 : (a.kind != u.kind) = false := by simpa using hku
    have q3 : a.kind ≤ u.kind := by omega
    have q4 : u.kind ≤ a.kind := by omega
    clear hku
    by_cases hk : a.kind = 2 ∨ a.kind = 3 ∨ a.kind = 1
    case neg =>
      have HT := Lib.hid (HE2.out.trans (if_neg hk))
      have p1 : a.kind ≠ 2 := by omega
      have p2 : a.kind ≠ 3 := by omega
      have p3 : a.kind ≠ 1 := by omega
      clear hk
      go_enter Tryz.func85, Tryz.ntmps85
      go_wp2_with fail
      refine HF.out.mono ?_
      rintro e w1 ⟨rfl, hb1⟩
      have hB3 := hB2.trans (hb1.mono (by omega))
      have j1 := b1.belowB hb1 (by omega)
      have j2 := b2.belowB hb1 (by omega)
      obtain ⟨g1, f1, s1⟩ := j1.facts
      obtain ⟨g2, f2, s2⟩ := j2.facts
      clear b1 b2 hB2 hb1
      go_wp2_with fail
      go_ret
      exact ⟨by rw [HT.out]; rfl, hB3⟩
    have HE3 := Lib.hid (HE2.out.trans (if_pos hk))
    generalize V.cmp a u = cc at *
    have hk2 : (a.kind ≤ 2 ∧ 2 ≤ a.kind) ∨ (a.kind ≤ 3 ∧ 3 ≤ a.kind) ∨ (a.kind ≤ 1 ∧ 1 ≤ a.kind) := by omega
    clear hk
    rcases hk2 with ⟨p1, p2⟩ | ⟨p1, p2⟩ | ⟨p1, p2⟩
    all_goals
      go_enter Tryz.func85, Tryz.ntmps85
      go_wp2_with fail
      refine HF.out.mono ?_
      rintro e w1 ⟨rfl, hb1⟩
      have hB3 := hB2.trans (hb1.mono (by omega))
      have j1 := b1.belowB hb1 (by omega)
      have j2 := b2.belowB hb1 (by omega)
      obtain ⟨g1, f1, s1⟩ := j1.facts
      obtain ⟨g2, f2, s2⟩ := j2.facts
      clear b1 b2 hB2 hb1
      go_wp2_with fail
      refine (HM.out _ hB3).mono ?_
      rintro e w2 ⟨rfl, hb2⟩
      have hB4 := hB3.trans (hb2.mono hB3.size)
      clear hb2
      by_cases hcc : cc < 0
      · have HT := Lib.hid (HE3.out.trans (if_pos hcc))
        go_wp2_with fail
        refine (truth_any _ _).mono ?_
        rintro e w3 ⟨rfl, rfl⟩
        go_wp2_with fail
        go_ret
        exact ⟨by rw [HT.out]; rfl, hB4⟩
      · have HT := Lib.hid (HE3.out.trans (if_neg hcc))
        go_wp2_with fail
        refine (truth_any _ _).mono ?_
        rintro e w3 ⟨rfl, rfl⟩
        go_wp2_with fail
        go_ret
        exact ⟨by rw [HT.out]; rfl, hB4⟩

end Go.Proofs.YtcmahpddjggcaaaGreatDoor
