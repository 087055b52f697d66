/- slices.CompareFunc and value.lists at each element type that is met, whatever order. Printed by wip/gen_cmp.py. -/
import Derived.Test.YtcmahpddjggcaaaGreatDoorKVal7
namespace Go.Proofs.YtcmahpddjggcaaaGreatDoor
open Go Go.RowKit
set_option maxHeartbeats 1000000
set_option maxRecDepth 100000

/-- Two lists held against each other, by an order. -/
def cmpL {α : Type} (f : α → α → Int) : List α → List α → Int
  | [], [] => 0
  | [], _ :: _ => -1
  | _ :: _, [] => 1
  | x :: xs, y :: ys => if f x y = 0 then cmpL f xs ys else f x y
theorem drop_get {α : Type} {l : List α} {k : Nat} {x : α} (h : l[k]? = some x) : l.drop k = x :: l.drop (k + 1) := by
  obtain ⟨hl, he⟩ := List.getElem?_eq_some_iff.1 h
  rw [List.drop_eq_getElem_cons hl, he]
theorem cmpL_step {α : Type} {f : α → α → Int} {a b : List α} {k : Nat} {x y : α} (hx : a[k]? = some x) (hy : b[k]? = some y) : cmpL f (a.drop k) (b.drop k) = if f x y = 0 then cmpL f (a.drop (k + 1)) (b.drop (k + 1)) else f x y := by
  rw [drop_get hx, drop_get hy]; rfl
theorem cmpL_long {α : Type} {f : α → α → Int} {a b : List α} {k : Nat} (hx : k < a.length) (hy : b.length ≤ k) : cmpL f (a.drop k) (b.drop k) = 1 := by
  rw [drop_get (List.getElem?_eq_getElem hx), List.drop_of_length_le hy]; rfl
theorem cmpL_short {α : Type} {f : α → α → Int} {a b : List α} {k : Nat} (hx : a.length ≤ k) (hy : k < b.length) : cmpL f (a.drop k) (b.drop k) = -1 := by
  rw [drop_get (List.getElem?_eq_getElem hy), List.drop_of_length_le hx]; rfl
theorem cmpL_end {α : Type} {f : α → α → Int} {a b : List α} {k : Nat} (hx : a.length ≤ k) (hy : b.length ≤ k) : cmpL f (a.drop k) (b.drop k) = 0 := by
  rw [List.drop_of_length_le hx, List.drop_of_length_le hy]; rfl

theorem compareFunc_str (g : Nat) (cap : Array Value) (eg : ∀ args w, (callFunc g args).run Tryz.prog w = .ok (.enter g args) w) (p : ByteArray → ByteArray → Int) (a b : List (ByteArray)) (I J : Nat → Prop) (A A' : Option Addr) (c c' : Nat) (w : World) (h : Row 1 ((Ty.str).rep I w) I w A a) (h' : Row 1 ((Ty.str).rep J w) J w A' b) (hs : a.length ≤ BIG) (hs' : b.length ≤ BIG)
    (hp : ∀ x, x ∈ a → ∀ y, y ∈ b → ∀ W cs ds, W = w → (Ty.str).rep (fun b => I b ∧ b < w.heap.size) W x cs → (Ty.str).rep (fun b => J b ∧ b < w.heap.size) W y ds → Calls Tryz.prog g (#[cs.headD undef, ds.headD undef] ++ cap) W fun e w' => e = .returned (.int .i64 (p x y)) ∧ w' = W) :
    Calls Tryz.prog 307 #[.slice A a.length c, .slice A' b.length c', .func (.func g) #[] cap] w fun e w' => e = .returned (.int .i64 (cmpL p a b)) ∧ w' = w := by
  have hlen : (a.length : Int) ≤ 9223372036854775807 := by rw [BIG_eq] at hs; omega
  have hlen' : (b.length : Int) ≤ 9223372036854775807 := by rw [BIG_eq] at hs'; omega
  have HP := Lib.hid hp
  clear hp
  go_enter Tryz.func307, Tryz.ntmps307
  go_wp2_with fail
  go_loopw [13] (fun i wr => ∃ k : Nat, k ≤ a.length ∧ k ≤ b.length ∧ i = .int .i64 k ∧ Hid (cmpL p a b = cmpL p (a.drop k) (b.drop k)) ∧ wr = w) (fun i _ => a.length - (intOf i).toNat)
  case atStart => exact ⟨0, Nat.zero_le _, Nat.zero_le _, rfl, Lib.hid rfl, rfl⟩
  case round =>
    obtain ⟨k, hk, hk', rfl, HN, hB⟩ := hrel
    subst hB
    by_cases hlt : k < a.length
    · obtain ⟨x, hx, hxm⟩ := get_some hlt
      obtain ⟨bx, offx, cs, rfl, hIx, hbx, hcs, hatx⟩ := h.get hx
      by_cases hlt' : k < b.length
      · obtain ⟨y, hy, hym⟩ := get_some hlt'
        obtain ⟨by_, offy, ds, rfl, hIy, hby, hds, haty⟩ := h'.get hy
        have hcs' := (Ty.str).lt hcs
        have hds' := (Ty.str).lt hds
        skip
        obtain rfl := hcs
        obtain rfl := hds
        have g0 := hatx.one
        have q0 := haty.one
        simp only [Nat.mul_one] at g0 q0
        have HC := Lib.hid (HP.out x hxm y hym _ _ _ rfl hcs' hds')
        have HS := Lib.hid (cmpL_step (f := p) hx hy)
        clear hatx haty hx hy hcs' hds'
        generalize p x y = r at HC HS
        by_cases hr : r = 0
        · have HT := Lib.hid (show cmpL p a b = cmpL p (a.drop (k + 1)) (b.drop (k + 1)) by rw [HN.out, HS.out, if_pos hr])
          subst hr
          go_wp2_with fail
          refine HC.out.mono ?_
          rintro e w1 ⟨rfl, rfl⟩
          go_wp2_with fail
          go_roundw
          case rel => exact ⟨k + 1, by omega, by omega, by go_num, HT, trivial⟩
          case measure => simp [intOf]; omega
        · have HT := Lib.hid (show cmpL p a b = r by rw [HN.out, HS.out, if_neg hr])
          go_wp2_with fail
          refine HC.out.mono ?_
          rintro e w1 ⟨rfl, rfl⟩
          go_wp2_with fail
          go_ret
          exact ⟨by rw [HT.out]; rfl, rfl⟩
      · have HT := Lib.hid (show cmpL p a b = 1 by rw [HN.out, cmpL_long hlt (by omega)])
        obtain rfl := hcs
        have g0 := hatx.one
        simp only [Nat.mul_one] at g0
        clear hatx hx
        go_wp2_with fail
        go_ret
        exact ⟨by rw [HT.out]; rfl, rfl⟩
    · by_cases hlt' : k < b.length
      · have HT := Lib.hid (show cmpL p a b = -1 by rw [HN.out, cmpL_short (by omega) hlt'])
        have hll : (a.length : Int) < b.length := by omega
        go_wp2_with fail
        go_ret
        exact ⟨by rw [HT.out]; rfl, rfl⟩
      · have HT := Lib.hid (show cmpL p a b = 0 by rw [HN.out, cmpL_end (by omega) (by omega)])
        have hll : ¬ (a.length : Int) < b.length := by omega
        go_wp2_with fail
        go_ret
        exact ⟨by rw [HT.out]; rfl, rfl⟩

theorem lists_str (g : Nat) (cap : Array Value) (eg : ∀ args w, (callFunc g args).run Tryz.prog w = .ok (.enter g args) w) (p : ByteArray → ByteArray → Int) (a b : List (ByteArray)) (I J : Nat → Prop) (A A' : Option Addr) (c c' : Nat) (w : World) (h : Row 1 ((Ty.str).rep I w) I w A a) (h' : Row 1 ((Ty.str).rep J w) J w A' b) (hs : a.length ≤ BIG) (hs' : b.length ≤ BIG)
    (hp : ∀ x, x ∈ a → ∀ y, y ∈ b → ∀ W cs ds, W = w → (Ty.str).rep (fun b => I b ∧ b < w.heap.size) W x cs → (Ty.str).rep (fun b => J b ∧ b < w.heap.size) W y ds → Calls Tryz.prog g (#[cs.headD undef, ds.headD undef] ++ cap) W fun e w' => e = .returned (.int .i64 (p x y)) ∧ w' = W) :
    Calls Tryz.prog 250 #[.slice A a.length c, .slice A' b.length c', .func (.func g) #[] cap] w fun e w' => e = .returned (.int .i64 (cmpL p a b)) ∧ w' = w := by
  have HC := Lib.hid (compareFunc_str g cap eg p a b I J A A' c c' w h h' hs hs' hp)
  clear hp h h'
  go_enter Tryz.func250, Tryz.ntmps250
  go_wp2_with fail
  refine HC.out.mono ?_
  rintro e w1 ⟨rfl, rfl⟩
  go_wp2_with fail
  go_ret
  exact ⟨rfl, rfl⟩

theorem compareFunc_val (g : Nat) (cap : Array Value) (eg : ∀ args w, (callFunc g args).run Tryz.prog w = .ok (.enter g args) w) (p : V → V → Int) (a b : List (V)) (I J : Nat → Prop) (A A' : Option Addr) (c c' : Nat) (w : World) (h : Row 6 ((V.ty).rep I w) I w A a) (h' : Row 6 ((V.ty).rep J w) J w A' b) (hs : a.length ≤ BIG) (hs' : b.length ≤ BIG)
    (hp : ∀ x, x ∈ a → ∀ y, y ∈ b → ∀ W cs ds, Below w.heap.size w W → (V.ty).rep (fun b => I b ∧ b < w.heap.size) W x cs → (V.ty).rep (fun b => J b ∧ b < w.heap.size) W y ds → Calls Tryz.prog g (#[.agg cs.toArray, .agg ds.toArray] ++ cap) W fun e w' => e = .returned (.int .i64 (p x y)) ∧ Below W.heap.size W w') :
    Calls Tryz.prog 308 #[.slice A a.length c, .slice A' b.length c', .func (.func g) #[] cap] w fun e w' => e = .returned (.int .i64 (cmpL p a b)) ∧ Below w.heap.size w w' := by
  have hlen : (a.length : Int) ≤ 9223372036854775807 := by rw [BIG_eq] at hs; omega
  have hlen' : (b.length : Int) ≤ 9223372036854775807 := by rw [BIG_eq] at hs'; omega
  have HP := Lib.hid hp
  clear hp
  go_enter Tryz.func308, Tryz.ntmps308
  go_wp2_with fail
  go_loopw [13] (fun i wr => ∃ k : Nat, k ≤ a.length ∧ k ≤ b.length ∧ i = .int .i64 k ∧ Hid (cmpL p a b = cmpL p (a.drop k) (b.drop k)) ∧ Below w.heap.size w wr) (fun i _ => a.length - (intOf i).toNat)
  case atStart => exact ⟨0, Nat.zero_le _, Nat.zero_le _, rfl, Lib.hid rfl, Below.refl _ _⟩
  case round =>
    obtain ⟨k, hk, hk', rfl, HN, hB⟩ := hrel
    have hws := hB.size
    by_cases hlt : k < a.length
    · obtain ⟨x, hx, hxm⟩ := get_some hlt
      obtain ⟨bx, offx, cs, rfl, hIx, hbx, hcs, hatx⟩ := h.get hx
      by_cases hlt' : k < b.length
      · obtain ⟨y, hy, hym⟩ := get_some hlt'
        obtain ⟨by_, offy, ds, rfl, hIy, hby, hds, haty⟩ := h'.get hy
        have hcs' := (V.ty).lt hcs
        have hds' := (V.ty).lt hds
        have hcs' := V.ty.belowB (fun b hb => hb.2) (hB) (hcs')
        have hds' := V.ty.belowB (fun b hb => hb.2) (hB) (hds')
        obtain ⟨A1, c1, A2, c2, rfl, h1, h2, h3, h4⟩ := V.rep_open hcs'
        obtain ⟨B1, d1, B2, d2, rfl, k1, k2, k3, k4⟩ := V.rep_open hds'
        have hB3 := below_alloc' (below_alloc' hB (Nat.le_refl _) (.cells #[.int .i64 x.kind, .bool x.bool, .int .i64 x.int, .string x.text, .slice A1 x.keys.length c1, .slice A2 x.list.length c2] 26)) (Nat.le_refl _) (.cells #[.int .i64 y.kind, .bool y.bool, .int .i64 y.int, .string y.text, .slice B1 y.keys.length d1, .slice B2 y.list.length d2] 26)
        have hcs' := V.ty.belowB (fun b hb => hb.2) (below_alloc' (below_alloc' (Below.refl w.heap.size wr) hws (.cells #[.int .i64 x.kind, .bool x.bool, .int .i64 x.int, .string x.text, .slice A1 x.keys.length c1, .slice A2 x.list.length c2] 26)) hws (.cells #[.int .i64 y.kind, .bool y.bool, .int .i64 y.int, .string y.text, .slice B1 y.keys.length d1, .slice B2 y.list.length d2] 26)) hcs'
        have hds' := V.ty.belowB (fun b hb => hb.2) (below_alloc' (below_alloc' (Below.refl w.heap.size wr) hws (.cells #[.int .i64 x.kind, .bool x.bool, .int .i64 x.int, .string x.text, .slice A1 x.keys.length c1, .slice A2 x.list.length c2] 26)) hws (.cells #[.int .i64 y.kind, .bool y.bool, .int .i64 y.int, .string y.text, .slice B1 y.keys.length d1, .slice B2 y.list.length d2] 26)) hds'
        obtain ⟨g0, g1, g2, g3, g4, g5⟩ := (hatx.below hbx hB).six
        obtain ⟨q0, q1, q2, q3, q4, q5⟩ := (haty.below hby (below_alloc' hB (Nat.le_refl _) (.cells #[.int .i64 x.kind, .bool x.bool, .int .i64 x.int, .string x.text, .slice A1 x.keys.length c1, .slice A2 x.list.length c2] 26))).six
        clear h1 h2 h3 h4 k1 k2 k3 k4
        have HC := Lib.hid (HP.out x hxm y hym ((wr.alloc (.cells #[.int .i64 x.kind, .bool x.bool, .int .i64 x.int, .string x.text, .slice A1 x.keys.length c1, .slice A2 x.list.length c2] 26)).alloc (.cells #[.int .i64 y.kind, .bool y.bool, .int .i64 y.int, .string y.text, .slice B1 y.keys.length d1, .slice B2 y.list.length d2] 26)) _ _ hB3 hcs' hds')
        have HS := Lib.hid (cmpL_step (f := p) hx hy)
        clear hatx haty hx hy hcs' hds'
        generalize p x y = r at HC HS
        by_cases hr : r = 0
        · have HT := Lib.hid (show cmpL p a b = cmpL p (a.drop (k + 1)) (b.drop (k + 1)) by rw [HN.out, HS.out, if_pos hr])
          subst hr
          go_wp2_with fail
          refine HC.out.mono ?_
          rintro e w1 ⟨rfl, hb1⟩
          go_wp2_with fail
          go_roundw
          case rel => exact ⟨k + 1, by omega, by omega, by go_num, HT, below_call hB3 hB3.size hb1⟩
          case measure => simp [intOf]; omega
        · have HT := Lib.hid (show cmpL p a b = r by rw [HN.out, HS.out, if_neg hr])
          go_wp2_with fail
          refine HC.out.mono ?_
          rintro e w1 ⟨rfl, hb1⟩
          go_wp2_with fail
          go_ret
          exact ⟨by rw [HT.out]; rfl, below_call hB3 hB3.size hb1⟩
      · have HT := Lib.hid (show cmpL p a b = 1 by rw [HN.out, cmpL_long hlt (by omega)])
        obtain ⟨A1, c1, A2, c2, rfl, h1, h2, h3, h4⟩ := V.rep_open hcs
        obtain ⟨g0, g1, g2, g3, g4, g5⟩ := (hatx.below hbx hB).six
        clear hatx hx
        go_wp2_with fail
        go_ret
        exact ⟨by rw [HT.out]; rfl, below_alloc' hB (Nat.le_refl _) _⟩
    · by_cases hlt' : k < b.length
      · have HT := Lib.hid (show cmpL p a b = -1 by rw [HN.out, cmpL_short (by omega) hlt'])
        have hll : (a.length : Int) < b.length := by omega
        go_wp2_with fail
        go_ret
        exact ⟨by rw [HT.out]; rfl, hB⟩
      · have HT := Lib.hid (show cmpL p a b = 0 by rw [HN.out, cmpL_end (by omega) (by omega)])
        have hll : ¬ (a.length : Int) < b.length := by omega
        go_wp2_with fail
        go_ret
        exact ⟨by rw [HT.out]; rfl, hB⟩

theorem lists_val (g : Nat) (cap : Array Value) (eg : ∀ args w, (callFunc g args).run Tryz.prog w = .ok (.enter g args) w) (p : V → V → Int) (a b : List (V)) (I J : Nat → Prop) (A A' : Option Addr) (c c' : Nat) (w : World) (h : Row 6 ((V.ty).rep I w) I w A a) (h' : Row 6 ((V.ty).rep J w) J w A' b) (hs : a.length ≤ BIG) (hs' : b.length ≤ BIG)
    (hp : ∀ x, x ∈ a → ∀ y, y ∈ b → ∀ W cs ds, Below w.heap.size w W → (V.ty).rep (fun b => I b ∧ b < w.heap.size) W x cs → (V.ty).rep (fun b => J b ∧ b < w.heap.size) W y ds → Calls Tryz.prog g (#[.agg cs.toArray, .agg ds.toArray] ++ cap) W fun e w' => e = .returned (.int .i64 (p x y)) ∧ Below W.heap.size W w') :
    Calls Tryz.prog 251 #[.slice A a.length c, .slice A' b.length c', .func (.func g) #[] cap] w fun e w' => e = .returned (.int .i64 (cmpL p a b)) ∧ Below w.heap.size w w' := by
  have HC := Lib.hid (compareFunc_val g cap eg p a b I J A A' c c' w h h' hs hs' hp)
  clear hp h h'
  go_enter Tryz.func251, Tryz.ntmps251
  go_wp2_with fail
  refine HC.out.mono ?_
  rintro e w1 ⟨rfl, hb1⟩
  go_wp2_with fail
  go_ret
  exact ⟨rfl, hb1⟩
end Go.Proofs.YtcmahpddjggcaaaGreatDoor
