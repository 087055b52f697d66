/- value.Copy, value.copies: the same value in memory of its own. -/
import Derived.Test.YtcmahpddjggcaaaGreatDoorKClone
namespace Go.Proofs.YtcmahpddjggcaaaGreatDoor
open Go Go.RowKit
set_option maxHeartbeats 400000
set_option maxRecDepth 100000

def CopyP (v : V) : Prop := ∀ (I : Nat → Prop) (w : World) (cs : List Value), V.ty.rep I w v cs → Calls Tryz.prog 77 #[.agg cs.toArray] w (RetA V.ty (Fresh w) w v)

theorem copies_of (l : List V) (hP : ∀ x, x ∈ l → CopyP x) (hs : l.length ≤ BIG) (I : Nat → Prop) (w : World) (A : Option Addr) (c : Nat) (h : Row 6 (V.ty.rep I w) I w A l) :
    Calls Tryz.prog 179 #[.slice A l.length c] w (RetS V.ty (Fresh w) w l) := by
  have hlen : (l.length : Int) ≤ 9223372036854775807 := by rw [BIG_eq] at hs; omega
  go_enter Tryz.func179, Tryz.ntmps179
  go_wp2_with fail
  go_loopw [3, 8] (fun v i wr => ∃ k : Nat, k ≤ l.length ∧ i = .int .i64 k ∧ Own V.ty 26 w.heap.size (Fresh w) wr v (l.take k) ∧ Below w.heap.size w wr) (fun _ i _ => l.length - (intOf i).toNat)
  case atStart => exact ⟨0, Nat.zero_le _, rfl, Own.nil _ _ _ _ _, Below.refl _ _⟩
  case round =>
    obtain ⟨k, hk, rfl, hO, hB⟩ := hrel
    by_cases hlt : k < l.length
    · obtain ⟨x, hx, hxm⟩ := get_some hlt
      obtain ⟨b, off, cs, rfl, hIb, hbl, hcs, hat⟩ := h.get hx
      obtain ⟨A1, c1, A2, c2, rfl, h1, h2, h3, h4⟩ := V.rep_open hcs
      obtain ⟨g0, g1, g2, g3, g4, g5⟩ := (hat.below hbl hB).six
      have hcopy := Lib.hid (hP x hxm)
      have hw : ∀ o, V.ty.rep (fun b => I b ∧ b < w.heap.size) (wr.alloc o) x _ := fun o => V.ty.belowB (fun b hb => hb.2) (below_alloc' hB (Nat.le_refl _) o) (V.ty.lt hcs)
      clear hat hP
      go_wp2_with fail
      refine (hcopy.out _ _ _ (hw _)).mono ?_
      rintro e w1 ⟨cs', rfl, hr, hb1⟩
      obtain ⟨D1, d1, D2, d2, rfl, k1, k2, k3, k4⟩ := V.rep_open hr
      have hB1 := below_call (below_alloc' hB (Nat.le_refl _) (.cells #[.int .i64 x.kind, .bool x.bool, .int .i64 x.int, .string x.text, .slice A1 x.keys.length c1, .slice A2 x.list.length c2] 26)) (by have := hB.size; simp; omega) hb1
      have hO1' := hO.below (w' := wr.alloc (.cells #[.int .i64 x.kind, .bool x.bool, .int .i64 x.int, .string x.text, .slice A1 x.keys.length c1, .slice A2 x.list.length c2] 26)) (below_alloc' (Below.refl _ _) (Nat.le_refl _) _)
      have hO1 := hO1'.below hb1
      have hl2 : (l.take k).length ≤ BIG := by rw [List.length_take]; omega
      have hp := fresh_ok (I := Fresh w) hO1' (fun b hb => Nat.le_trans (by have := hB.size; simp; omega) hb) hr
      have hT := Lib.hid (take_snoc' hx)
      clear hw hcopy hb1 hcs hx h3 h4 k3 k4 hr hO hB
      go_wp2_with (at_builtin; refine own_append V.ty (w0 := w) w.heap.size rfl (.tmp 12) (.tmp 15) 24 26 _ 88 rfl Tryz.underlying24 info_val rfl (by decide) (by decide) _ (l.take k) x [.int .i64 x.kind, .bool x.bool, .int .i64 x.int, .string x.text, .slice D1 x.keys.length d1, .slice D2 x.list.length d2] (Fresh w) rfl rfl hp hO1 hB1 (Nat.le_refl _) hl2 ?_)
      intro v2 w2 hO2 hB2 _ _
      go_wp2_with fail
      go_roundw
      case rel => exact ⟨k + 1, by omega, by go_num, by rw [hT.out]; exact hO2, hB2⟩
      case measure => simp [intOf]; omega
    · have hkl : k = l.length := by omega
      have hT := Lib.hid (show l.take k = l by rw [hkl, List.take_length])
      clear hkl
      go_wp2_with fail
      go_ret
      rw [hT.out] at hO
      exact ⟨_, rfl, (Ty.slice V.ty).mono (fun b hb => by rcases hb with hb | hb <;> exact hb) hO.slice, hB⟩
theorem copy_of (k : Int) (bo : Bool) (n : Int) (t : ByteArray) (ks : List ByteArray) (l : List V) (hP : ∀ x, x ∈ l → CopyP x) (hk : ks.length ≤ BIG) (hl : l.length ≤ BIG) : CopyP (.mk k bo n t ks l) := by
  intro I w cs h
  obtain ⟨A1, c1, A2, c2, rfl, h1, h2, h3, h4⟩ := V.rep_open h
  simp only [V.kind, V.bool, V.int, V.text, V.keys, V.list] at h1 h2 h3 h4 ⊢
  have hc1 := Lib.hid (clone_str (fun b => I b ∧ b < w.heap.size) (fun _ => False) ks A1 c1)
  have hc2 := Lib.hid (copies_of l hP hl (fun b => I b ∧ b < w.heap.size))
  have r1 : ∀ W, Below w.heap.size w W → Row 1 (Ty.str.rep (fun b => I b ∧ b < w.heap.size) W) (fun b => I b ∧ b < w.heap.size) W A1 ks := fun W hW =>
    h3.imp (fun _ _ hs => hs) (fun b hb hl => ⟨⟨hb, hl⟩, Nat.lt_of_lt_of_le hl hW.size⟩) (fun b _ hl => hW.block b hl)
  have r2 : ∀ W, Below w.heap.size w W → Row 6 (V.ty.rep (fun b => I b ∧ b < w.heap.size) W) (fun b => I b ∧ b < w.heap.size) W A2 l := fun W hW =>
    h4.imp (fun _ _ hs => V.ty.belowB (fun _ hb => hb.2) hW (V.ty.lt hs)) (fun b hb hl => ⟨⟨hb, hl⟩, Nat.lt_of_lt_of_le hl hW.size⟩) (fun b _ hl => hW.block b hl)
  clear h3 h4 h hP
  go_enter Tryz.func77, Tryz.ntmps77
  go_wp2_with fail
  refine (hc1.out _ (r1 _ (below_alloc' (below_alloc' (Below.refl _ _) (Nat.le_refl _) _) (Nat.le_refl _) _)) hk).mono ?_
  rintro e w1 ⟨v1, rfl, hr1, hb1⟩
  obtain ⟨B1, d1, hv1, hd1, hq1⟩ := hr1
  obtain rfl : v1 = _ := by injection hv1
  clear hv1
  have hB1 := below_call (below_alloc' (below_alloc' (Below.refl w.heap.size w) (Nat.le_refl _) _) (Nat.le_refl _) _) (by simp; omega) hb1
  have hz : w.heap.size + 1 < w1.heap.size := by have := hb1.size; simp at this; omega
  have hq1' : Row 1 (Ty.str.rep (fun b => w.heap.size + 2 ≤ b) w1) (fun b => w.heap.size + 2 ≤ b) w1 B1 ks := hq1.imp (fun _ _ hs => hs) (fun b hb hl => ⟨by rcases hb with hb | hb; exact hb.elim; simp at hb; omega, hl⟩) (fun _ _ _ => rfl)
  have x1 := ((Blk.new w [.int .i64 k, .bool bo, .int .i64 n, .string t, .slice A1 ks.length c1, .slice A2 l.length c2] 26).alloc (.cells #[.int .i64 0, .bool false, .int .i64 0, .string ⟨#[]⟩, .slice none 0 0, .slice none 0 0] 26)).below hb1
  have x2 := (Blk.new (w.alloc (.cells #[.int .i64 k, .bool bo, .int .i64 n, .string t, .slice A1 ks.length c1, .slice A2 l.length c2] 26)) [.int .i64 0, .bool false, .int .i64 0, .string ⟨#[]⟩, .slice none 0 0, .slice none 0 0] 26).below hb1
  rw [World.size_alloc] at x2
  obtain ⟨y1, z1⟩ := x1.rd
  clear hb1 hq1 r1 hc1
  have hB2 := hB1.setCell (p := ⟨w.heap.size, 4, none⟩) (Nat.le_refl _) (.slice B1 ks.length d1)
  have r3 := r2 _ hB2
  go_wp2_with fail
  refine (hc2.out _ _ _ r3).mono ?_
  rintro e w2 ⟨v2, rfl, hr2, hb2⟩
  obtain ⟨B2, d2, hv2, hd2, hq2⟩ := hr2
  obtain rfl : v2 = _ := by injection hv2
  clear hv2 r3 r2 hc2 y1 z1
  have hB3 := below_call hB2 (by rw [size_setCell]; omega) hb2
  have x3 := (x1.set 4 (.slice B1 ks.length d1)).below hb2
  have x4 := (x2.other (by omega) 4 (.slice B1 ks.length d1)).below hb2
  obtain ⟨y3, z3⟩ := x3.rd
  obtain ⟨y4, z4⟩ := x4.rd
  simp only [List.set_cons_succ, List.set_cons_zero] at y3
  go_wp2_with fail
  have x5 := ((((((x4.other (m := w.heap.size) (by omega) 5 (.slice B2 l.length d2)).set 0 (.int .i64 k)).set 1 (.bool bo)).set 2 (.int .i64 n)).set 3 (.string t)).set 4 (.slice B1 ks.length d1)).set 5 (.slice B2 l.length d2)
  have hB5 := ((((((hB3.setCell (p := ⟨w.heap.size, 5, none⟩) (Nat.le_refl _) (.slice B2 l.length d2)).setCell (p := ⟨w.heap.size + 1, 0, none⟩) (by simp) (.int .i64 k)).setCell (p := ⟨w.heap.size + 1, 1, none⟩) (by simp) (.bool bo)).setCell (p := ⟨w.heap.size + 1, 2, none⟩) (by simp) (.int .i64 n)).setCell (p := ⟨w.heap.size + 1, 3, none⟩) (by simp) (.string t)).setCell (p := ⟨w.heap.size + 1, 4, none⟩) (by simp) (.slice B1 ks.length d1)).setCell (p := ⟨w.heap.size + 1, 5, none⟩) (by simp) (.slice B2 l.length d2)
  obtain ⟨y5, _⟩ := x5.rd
  simp only [List.set_cons_succ, List.set_cons_zero] at y5
  refine bodyPost_ret (v := .agg #[.int .i64 k, .bool bo, .int .i64 n, .string t, .slice B1 ks.length d1, .slice B2 l.length d2]) (by simp [results, Tryz.results77, go_sem, y5]) rfl ⟨_, rfl, ?_, hB5⟩
  have m2 : ∀ b, w.heap.size + 2 ≤ b → b < w1.heap.size → w2.heap[b]? = w1.heap[b]? := fun b h1 h2 => (hb2.block b (by rw [size_setCell]; exact h2)).trans (Below.heap_setCell _ _ _ _ (by show b ≠ w.heap.size; omega))
  have m3 : ∀ b, w.heap.size + 2 ≤ b → (((((((w2.setCell ⟨w.heap.size, 5, none⟩ (.slice B2 l.length d2)).setCell ⟨w.heap.size + 1, 0, none⟩ (.int .i64 k)).setCell ⟨w.heap.size + 1, 1, none⟩ (.bool bo)).setCell ⟨w.heap.size + 1, 2, none⟩ (.int .i64 n)).setCell ⟨w.heap.size + 1, 3, none⟩ (.string t)).setCell ⟨w.heap.size + 1, 4, none⟩ (.slice B1 ks.length d1)).setCell ⟨w.heap.size + 1, 5, none⟩ (.slice B2 l.length d2)).heap[b]? = w2.heap[b]? := fun b hb => by
    simp only [heap_set (show b ≠ w.heap.size by omega), heap_set (show b ≠ w.heap.size + 1 by omega)]
  refine V.ty.mono (I := fun b => w.heap.size + 2 ≤ b) (fun b hb => Nat.le_trans (by omega) hb) (V.rep_mk hd1 hd2 ?_ ?_)
  · exact hq1'.imp (fun _ _ hs => hs) (fun b hb hl => ⟨hb, lt_of_same ((m3 b hb).trans (m2 b hb hl)) hl⟩) (fun b hb hl => (m3 b hb).trans (m2 b hb hl))
  · have hF : ∀ b, Fresh (w1.setCell ⟨w.heap.size, 4, none⟩ (.slice B1 ks.length d1)) b → w.heap.size + 2 ≤ b := fun b hb => by unfold Fresh at hb; rw [size_setCell] at hb; omega
    exact hq2.imp (fun _ _ hs => V.ty.move (fun b hb _ => m3 b hb) (V.ty.mono hF hs)) (fun b hb hl => ⟨hF b hb, lt_of_same (m3 b (hF b hb)) hl⟩) (fun b hb _ => m3 b (hF b hb))

theorem copy_any : ∀ (v : V), v.size ≤ BIG → CopyP v := by
  intro v
  induction v using V.ind with
  | h k b n t ks l ih =>
    intro hs
    rw [V.size_eq] at hs
    have h1 := V.sumBy_len (f := fun s : ByteArray => 1 + s.size) (fun _ => by omega) ks
    have h2 := V.sumBy_len (f := V.size) V.size_pos l
    exact copy_of k b n t ks l (fun x hx => ih x hx (by have := V.sumBy_mem (f := V.size) hx; omega)) (by omega) (by omega)
end Go.Proofs.YtcmahpddjggcaaaGreatDoor
