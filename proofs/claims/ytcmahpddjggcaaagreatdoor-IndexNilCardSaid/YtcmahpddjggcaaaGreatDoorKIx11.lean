/- index.all, Below, Above: how many nodes are told. -/
import Derived.Test.YtcmahpddjggcaaaGreatDoorKShelfS
namespace Go.Proofs.YtcmahpddjggcaaaGreatDoor
open Go Go.RowKit Go.Maps
set_option maxHeartbeats 4000000
set_option maxRecDepth 100000
/-- A list of so many numbers is handed back. -/
def CountOut (w : World) (n : Nat) (e : Ending) (w' : World) : Prop := ∃ l, l.length = n ∧ IntsOut w l e w'
theorem idxall_any (g : Nat) (cap : Array Value) (eg : ∀ args w, (callFunc g args).run Tryz.prog w = .ok (.enter g args) w) (q : V → Bool) (B N : Nat) (I : Nat → Prop) (w : World) (p : Nat) (sl : Value) (mb : Nat) (x : IdxD) (h : IdxIn B N I w p sl mb x) (hxo : IdxOk x)
    (hf : ∀ o, o ∈ x.l → ∀ W cs, Below w.heap.size w W → V.ty.rep (fun b => b < w.heap.size) W o.val cs → Calls Tryz.prog g (#[.agg cs.toArray] ++ cap) W fun e w' => e = .returned (.bool (q o.val)) ∧ Below W.heap.size W w') :
    Calls Tryz.prog 83 #[.pointer (some ⟨p, 0, none⟩), .func (.func g) #[] cap] w (CountOut w (x.l.filter fun e => q e.val).length) := by
  obtain ⟨As, cs, rfl, hcs, hrow⟩ := h.row
  have hp := h.1
  obtain ⟨y, z, l⟩ := hp.facts
  have HTh := Lib.hid (there_any p _ _ _ _ w hp)
  have HF := Lib.hid hf
  have hnI : (x.l.length : Int) ≤ 1073741824 := by have := hxo.1; rw [BIG_eq] at this; omega
  obtain ⟨cnt, HCNT⟩ : ∃ c, Hid ((x.l.filter fun e => q e.val).length = c) := ⟨_, Lib.hid rfl⟩
  rw [HCNT.out]
  clear h hf hp hxo
  go_enter Tryz.func83, Tryz.ntmps83
  go_wp2_with fail
  refine HTh.out.mono ?_
  rintro e w1 ⟨rfl, rfl⟩
  go_wp2_with fail
  go_loopw [5, 16] (fun o i wr => ∃ (k : Nat) (out : List Int), k ≤ x.l.length ∧ i = .int .i64 k ∧ Own (Ty.int .i64) 2 w1.heap.size (fun _ => True) wr o out ∧ Hid (out.length = ((x.l.take k).filter fun e => q e.val).length) ∧ Below w1.heap.size w1 wr) (fun _ i _ => x.l.length - (intOf i).toNat)
  case atStart => exact ⟨0, [], Nat.zero_le _, rfl, Own.nil _ _ _ _ _, Lib.hid rfl, Below.refl _ _⟩
  case round =>
    obtain ⟨k, out, hk, rfl, hO, HA, hB⟩ := hrel
    by_cases hlt : k < x.l.length
    · obtain ⟨en, hen, henm⟩ := get_some hlt
      obtain ⟨b, off, ecs, rfl, _, hbl, hes, hat⟩ := hrow.get hen
      have hes' := EntD.ty.belowB (fun b hb => hb.2) hB (EntD.ty.lt hes)
      obtain ⟨A1, c1, A2, c2, rfl, hve⟩ := EntD.rep_open hes'
      obtain ⟨g0, g1, g2, g3, g4, g5, g6⟩ := (hat.below hbl hB).seven
      have ha1 := below_alloc' (Below.refl wr.heap.size wr) (Nat.le_refl _) (.cells #[.int .i64 en.id, .int .i64 en.val.kind, .bool en.val.bool, .int .i64 en.val.int, .string en.val.text, .slice A1 en.val.keys.length c1, .slice A2 en.val.list.length c2] 148)
      have HQ := Lib.hid (HF.out en henm _ _ (below_call hB hB.size ha1) (V.ty.mono (fun b hb => hb.2) (V.ty.below ha1 hve)))
      have hBN := Lib.hid (Blk.new wr [.int .i64 en.id, .int .i64 en.val.kind, .bool en.val.bool, .int .i64 en.val.int, .string en.val.text, .slice A1 en.val.keys.length c1, .slice A2 en.val.list.length c2] 148)
      have HE := Lib.hid hen
      have HAT := Lib.hid ha1
      have HO := Lib.hid hO
      have HL := Lib.hid (show ((x.l.take (k + 1)).filter fun e => q e.val).length = ((x.l.take k).filter fun e => q e.val).length + (if q en.val then 1 else 0) from by
        rw [take_snoc' hen, List.filter_append, List.length_append]
        by_cases h : q en.val = true <;> simp [h])
      have hlk : out.length ≤ BIG := by
        rw [HA.out]
        have h1 := List.length_filter_le (fun e : EntD => q e.val) (x.l.take k)
        rw [List.length_take] at h1
        rw [BIG_eq]; omega
      clear hes hes' hve hat hen hO ha1
      generalize q en.val = qv at *
      cases qv with
      | true =>
        go_wp2_with fail
        refine HQ.out.mono ?_
        rintro e w4 ⟨rfl, hb4⟩
        obtain ⟨yn, zn, ln⟩ := (hBN.out.below hb4).facts
        have hB4 := below_call hB hB.size (below_call HAT.out HAT.out.size hb4)
        have hO4 := (HO.out.below HAT.out).below hb4
        go_wp2_with (at_builtin; refine own_append (Ty.int .i64) (w0 := w1) w1.heap.size rfl (.tmp 24) (.tmp 27) 41 2 _ 8 rfl Tryz.underlying41 info_i64 rfl (by decide) (by decide) _ out en.id [.int .i64 en.id] (fun _ => True) rfl rfl rfl hO4 hB4 (Nat.le_refl _) hlk ?_)
        intro v5 w5 hO5 hB5 _ _
        go_wp2_with fail
        go_roundw
        case rel => exact ⟨k + 1, out ++ [en.id], by omega, by go_num, hO5, Lib.hid (by rw [HL.out, List.length_append, HA.out]; rfl), hB5⟩
        case measure => simp [intOf]; omega
      | false =>
        go_wp2_with fail
        refine HQ.out.mono ?_
        rintro e w4 ⟨rfl, hb4⟩
        go_wp2_with fail
        go_roundw
        case rel => exact ⟨k + 1, out, by omega, by go_num, (HO.out.below HAT.out).below hb4, Lib.hid (by rw [HL.out, HA.out]; rfl), below_call hB hB.size (below_call HAT.out HAT.out.size hb4)⟩
        case measure => simp [intOf]; omega
    · obtain rfl : k = x.l.length := by omega
      have HAL := Lib.hid (show out.length = cnt from by rw [HA.out, List.take_length, HCNT.out])
      have HS := Lib.hid (sort_i64 _ out _ wr hO (by
        rw [HA.out]
        have h1 := List.length_filter_le (fun e : EntD => q e.val) (x.l.take x.l.length)
        rw [List.length_take] at h1
        rw [BIG_eq]; omega))
      have HOB := Lib.hid (fun b hb => (hO.block (g := b) hb).1)
      clear hO
      go_wp2_with fail
      refine HS.out.mono ?_
      rintro e w5 ⟨rfl, l', hl', hO', hg'⟩
      go_wp2_with fail
      go_ret
      exact ⟨l', hl'.trans HAL.out, _, w1.heap.size, rfl, Nat.le_refl _, hO', hB.grown hg' hB.size (fun j e => HOB.out j e)⟩
theorem below_any (B N : Nat) (I J : Nat → Prop) (w : World) (p : Nat) (sl : Value) (mb : Nat) (x : IdxD) (v : V) (or : Bool) (ds : List Value) (h : IdxIn B N I w p sl mb x) (hxo : IdxOk x) (hv : V.ty.rep J w v ds) (hs : v.size + 1 ≤ BIG) (hT : Tabs w) :
    Calls Tryz.prog 22 #[.pointer (some ⟨p, 0, none⟩), .agg ds.toArray, .bool or] w (CountOut w (x.l.filter fun e => V.lessOr v or e.val).length) := by
  obtain ⟨B1, d1, B2, d2, rfl, _⟩ := V.rep_open hv
  have hB0 := below_alloc' (Below.refl w.heap.size w) (Nat.le_refl _) (.cells #[.int .i64 v.kind, .bool v.bool, .int .i64 v.int, .string v.text, .slice B1 v.keys.length d1, .slice B2 v.list.length d2] 26)
  have hB1 := below_alloc' hB0 (Nat.le_refl _) (.cells #[.bool or] 4)
  have b1 := (Blk.new w [.int .i64 v.kind, .bool v.bool, .int .i64 v.int, .string v.text, .slice B1 v.keys.length d1, .slice B2 v.list.length d2] 26).alloc (.cells #[.bool or] 4)
  have b2 := Blk.new (w.alloc (.cells #[.int .i64 v.kind, .bool v.bool, .int .i64 v.int, .string v.text, .slice B1 v.keys.length d1, .slice B2 v.list.length d2] 26)) [.bool or] 4
  have HC := Lib.hid (idxall_any 84 #[.pointer (some ⟨w.heap.size, 0, none⟩), .pointer (some ⟨w.heap.size + 1, 0, none⟩)] (enters_of Tryz.func84 (by kernel_rfl) rfl) (V.lessOr v or) B N I _ p sl mb x (h.below hB1) hxo
    (fun o ho W cs hW hr => below1_any o.val v or _ _ W cs _ w.heap.size (w.heap.size + 1) hr (V.ty.below hW (V.ty.below hB1 hv)) (b1.below hW) (by simpa using b2.below hW) (hxo.2 o ho) hs ((hT.below hB1).below hW)))
  have HB := Lib.hid hB1
  clear h hv b1 b2 hB0 hB1
  generalize (x.l.filter fun e => V.lessOr v or e.val).length = cnt at *
  go_enter Tryz.func22, Tryz.ntmps22
  go_wp2_with fail
  refine HC.out.mono ?_
  rintro e w1 ⟨l, hl, v1, B', rfl, hle, hO, hb⟩
  have fin := Lib.hid (show CountOut w cnt (.returned v1) w1 from ⟨l, hl, v1, B', rfl, Nat.le_trans HB.out.size hle, hO, HB.out.trans (hb.mono HB.out.size)⟩)
  clear hO
  go_wp2_with fail
  go_ret
  exact fin.out
theorem above_any (B N : Nat) (I J : Nat → Prop) (w : World) (p : Nat) (sl : Value) (mb : Nat) (x : IdxD) (v : V) (or : Bool) (ds : List Value) (h : IdxIn B N I w p sl mb x) (hxo : IdxOk x) (hv : V.ty.rep J w v ds) (hs : v.size + 1 ≤ BIG) (hT : Tabs w) :
    Calls Tryz.prog 23 #[.pointer (some ⟨p, 0, none⟩), .agg ds.toArray, .bool or] w (CountOut w (x.l.filter fun e => V.moreOr v or e.val).length) := by
  obtain ⟨B1, d1, B2, d2, rfl, _⟩ := V.rep_open hv
  have hB0 := below_alloc' (Below.refl w.heap.size w) (Nat.le_refl _) (.cells #[.int .i64 v.kind, .bool v.bool, .int .i64 v.int, .string v.text, .slice B1 v.keys.length d1, .slice B2 v.list.length d2] 26)
  have hB1 := below_alloc' hB0 (Nat.le_refl _) (.cells #[.bool or] 4)
  have b1 := (Blk.new w [.int .i64 v.kind, .bool v.bool, .int .i64 v.int, .string v.text, .slice B1 v.keys.length d1, .slice B2 v.list.length d2] 26).alloc (.cells #[.bool or] 4)
  have b2 := Blk.new (w.alloc (.cells #[.int .i64 v.kind, .bool v.bool, .int .i64 v.int, .string v.text, .slice B1 v.keys.length d1, .slice B2 v.list.length d2] 26)) [.bool or] 4
  have HC := Lib.hid (idxall_any 86 #[.pointer (some ⟨w.heap.size, 0, none⟩), .pointer (some ⟨w.heap.size + 1, 0, none⟩)] (enters_of Tryz.func86 (by kernel_rfl) rfl) (V.moreOr v or) B N I _ p sl mb x (h.below hB1) hxo
    (fun o ho W cs hW hr => above1_any o.val v or _ _ W cs _ w.heap.size (w.heap.size + 1) hr (V.ty.below hW (V.ty.below hB1 hv)) (b1.below hW) (by simpa using b2.below hW) (hxo.2 o ho) hs ((hT.below hB1).below hW)))
  have HB := Lib.hid hB1
  clear h hv b1 b2 hB0 hB1
  generalize (x.l.filter fun e => V.moreOr v or e.val).length = cnt at *
  go_enter Tryz.func23, Tryz.ntmps23
  go_wp2_with fail
  refine HC.out.mono ?_
  rintro e w1 ⟨l, hl, v1, B', rfl, hle, hO, hb⟩
  have fin := Lib.hid (show CountOut w cnt (.returned v1) w1 from ⟨l, hl, v1, B', rfl, Nat.le_trans HB.out.size hle, hO, HB.out.trans (hb.mono HB.out.size)⟩)
  clear hO
  go_wp2_with fail
  go_ret
  exact fin.out
end Go.Proofs.YtcmahpddjggcaaaGreatDoor
