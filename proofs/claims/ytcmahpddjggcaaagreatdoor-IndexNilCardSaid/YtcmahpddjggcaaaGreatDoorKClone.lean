/- slices.Clone at each element type that is met: the same elements in memory of the call's own. Printed by wip/gen_clone.py. -/
import Derived.Test.YtcmahpddjggcaaaGreatDoorKWalk
namespace Go.Proofs.YtcmahpddjggcaaaGreatDoor
open Go Go.RowKit
set_option maxHeartbeats 400000
set_option maxRecDepth 100000

theorem clone_str (I J : Nat → Prop) (ss : List (ByteArray)) (A : Option Addr) (c : Nat) (w : World) (h : Row 1 ((Ty.str).rep J w) I w A ss) (hs : ss.length ≤ BIG) : Calls Tryz.prog 135 #[.slice A ss.length c] w (RetS (Ty.str) (fun b => J b ∨ w.heap.size ≤ b) w ss) := by
  have q := fun (w : World) (a : Option Addr) (n c n' c' : Nat) => Lib.run_eql_slice_nil (P := Tryz.prog) w 23 9 a n c n' c' Tryz.underlying23
  rcases h with rfl | ⟨b, off, rfl, hb, hl, hr⟩
  · rcases A with _ | ad
    · go_enter Tryz.func135, Tryz.ntmps135
      go_wp2
      go_ret
      exact ⟨_, rfl, ⟨none, 0, rfl, by simp, .inl rfl⟩, Below.refl _ _⟩
    · obtain ⟨i0, hi, hz0, hz1, hz2⟩ := info_parts info_str
      go_enter Tryz.func135, Tryz.ntmps135
      go_wp2_with (at_builtin; refine wpList_append_own_at _ rfl _ _ 23 rfl w.heap.size 9 i0 _ 1 16 Tryz.underlying23 hi hz0 hz1 hz2 rfl (by decide) _ _ _ rfl (World.ownsRow_made w #[] 0 (Nat.le_refl _) (Nat.zero_le _) (by simp)) ad 0 c [] rfl ?qc1 ?qc2 ?qc3 ?qc4 ?qc5 ?qc6 ?_)
      case qc1 => simp
      case qc2 => intro j u hj; simp at hj
      case qc3 => simp
      case qc4 => simp
      case qc5 => simp
      case qc6 => simp
      intro v' w1 hown hgrow hnil hat
      go_wp2
      go_ret
      refine ⟨v', rfl, ?_, ((Below.refl _ w).alloc (Nat.le_refl _) _).grown hgrow (by simp) (by intro k hk; simp [Value.ownBlock] at hk; omega)⟩
      have hown' : w1.ownsRow w.heap.size 9 (Ty.str).sz v' 0 [] := (by simpa using hown : w1.ownsRow w.heap.size 9 1 v' 0 [])
      obtain ⟨A, c, rfl, hc, _⟩ := own_form hown'
      exact ⟨A, c, by simp, by simp, .inl rfl⟩
  · obtain ⟨news, hn1, hn2⟩ := hr.flat (fun _ _ => (Ty.str).len)
    have hlen := hn1.len (fun _ _ => (Ty.str).len)
    have hone := hn1.one (fun _ _ => (Ty.str).one)
    have HN := Lib.hid hn2; clear hn2
    have HL := Lib.hid hlen; clear hlen
    obtain ⟨i0, hi, hz0, hz1, hz2⟩ := info_parts info_str
    go_enter Tryz.func135, Tryz.ntmps135
    go_wp2_with (at_builtin; refine wpList_append_own_at _ rfl _ _ 23 rfl w.heap.size 9 i0 _ 1 16 Tryz.underlying23 hi hz0 hz1 hz2 rfl (by decide) _ _ _ rfl (World.ownsRow_made w #[] 0 (Nat.le_refl _) (Nat.zero_le _) (by simp)) ⟨b, off, none⟩ ss.length c news rfl ?qc1 ?qc2 ?qc3 ?qc4 ?qc5 ?qc6 ?_)
    case qc1 => exact HL.out
    case qc2 =>
      intro j u hj
      rw [Addr.add_lit]
      exact Lib.cell?_alloc_some _ (HN.out j u hj)
    case qc3 => exact hone
    case qc4 => rw [BIG_eq] at hs; simp only [maxLen]; omega
    case qc5 => rw [BIG_eq] at hs; omega
    case qc6 => simp
    intro v' w1 hown hgrow hnil hat
    go_wp2
    go_ret
    have hbel : Below w.heap.size w w1 := ((Below.refl _ w).alloc (Nat.le_refl _) _).grown hgrow (by simp) (by intro k hk; simp [Value.ownBlock] at hk; omega)
    refine ⟨v', rfl, ?_, hbel⟩
    have hown' : w1.ownsRow w.heap.size 9 (Ty.str).sz v' ss.length news := (by simpa using hown : w1.ownsRow w.heap.size 9 1 v' ss.length news)
    have hO : Own (Ty.str) 9 w.heap.size J w1 v' ss := ⟨news, hown', hn1.imp fun _ _ hx => (Ty.str).mono (fun b hb => ⟨hb.1, fun he => by have := (hown'.lt b he.symm).1; omega⟩) ((Ty.str).below hbel ((Ty.str).lt hx))⟩
    exact (Ty.slice (Ty.str)).mono (fun b hb => hb) hO.slice

theorem clone_prop (I J : Nat → Prop) (ss : List (PropD)) (A : Option Addr) (c : Nat) (w : World) (h : Row 7 ((PropD.ty).rep J w) I w A ss) (hs : ss.length ≤ BIG) : Calls Tryz.prog 289 #[.slice A ss.length c] w (RetS (PropD.ty) (fun b => J b ∨ w.heap.size ≤ b) w ss) := by
  have q := fun (w : World) (a : Option Addr) (n c n' c' : Nat) => Lib.run_eql_slice_nil (P := Tryz.prog) w 63 124 a n c n' c' Tryz.underlying63
  rcases h with rfl | ⟨b, off, rfl, hb, hl, hr⟩
  · rcases A with _ | ad
    · go_enter Tryz.func289, Tryz.ntmps289
      go_wp2
      go_ret
      exact ⟨_, rfl, ⟨none, 0, rfl, by simp, .inl rfl⟩, Below.refl _ _⟩
    · obtain ⟨i0, hi, hz0, hz1, hz2⟩ := info_parts info_prop
      go_enter Tryz.func289, Tryz.ntmps289
      go_wp2_with (at_builtin; refine wpList_append_own_at _ rfl _ _ 63 rfl w.heap.size 124 i0 _ 7 104 Tryz.underlying63 hi hz0 hz1 hz2 rfl (by decide) _ _ _ rfl (World.ownsRow_made w #[] 0 (Nat.le_refl _) (Nat.zero_le _) (by simp)) ad 0 c [] rfl ?qc1 ?qc2 ?qc3 ?qc4 ?qc5 ?qc6 ?_)
      case qc1 => simp
      case qc2 => intro j u hj; simp at hj
      case qc3 => simp
      case qc4 => simp
      case qc5 => simp
      case qc6 => simp
      intro v' w1 hown hgrow hnil hat
      go_wp2
      go_ret
      refine ⟨v', rfl, ?_, ((Below.refl _ w).alloc (Nat.le_refl _) _).grown hgrow (by simp) (by intro k hk; simp [Value.ownBlock] at hk; omega)⟩
      have hown' : w1.ownsRow w.heap.size 124 (PropD.ty).sz v' 0 [] := (by simpa using hown : w1.ownsRow w.heap.size 124 7 v' 0 [])
      obtain ⟨A, c, rfl, hc, _⟩ := own_form hown'
      exact ⟨A, c, by simp, by simp, .inl rfl⟩
  · obtain ⟨news, hn1, hn2⟩ := hr.flat (fun _ _ => (PropD.ty).len)
    have hlen := hn1.len (fun _ _ => (PropD.ty).len)
    have hone := hn1.one (fun _ _ => (PropD.ty).one)
    have HN := Lib.hid hn2; clear hn2
    have HL := Lib.hid hlen; clear hlen
    obtain ⟨i0, hi, hz0, hz1, hz2⟩ := info_parts info_prop
    go_enter Tryz.func289, Tryz.ntmps289
    go_wp2_with (at_builtin; refine wpList_append_own_at _ rfl _ _ 63 rfl w.heap.size 124 i0 _ 7 104 Tryz.underlying63 hi hz0 hz1 hz2 rfl (by decide) _ _ _ rfl (World.ownsRow_made w #[] 0 (Nat.le_refl _) (Nat.zero_le _) (by simp)) ⟨b, off, none⟩ ss.length c news rfl ?qc1 ?qc2 ?qc3 ?qc4 ?qc5 ?qc6 ?_)
    case qc1 => exact HL.out
    case qc2 =>
      intro j u hj
      rw [Addr.add_lit]
      exact Lib.cell?_alloc_some _ (HN.out j u hj)
    case qc3 => exact hone
    case qc4 => rw [BIG_eq] at hs; simp only [maxLen]; omega
    case qc5 => rw [BIG_eq] at hs; omega
    case qc6 => simp
    intro v' w1 hown hgrow hnil hat
    go_wp2
    go_ret
    have hbel : Below w.heap.size w w1 := ((Below.refl _ w).alloc (Nat.le_refl _) _).grown hgrow (by simp) (by intro k hk; simp [Value.ownBlock] at hk; omega)
    refine ⟨v', rfl, ?_, hbel⟩
    have hown' : w1.ownsRow w.heap.size 124 (PropD.ty).sz v' ss.length news := (by simpa using hown : w1.ownsRow w.heap.size 124 7 v' ss.length news)
    have hO : Own (PropD.ty) 124 w.heap.size J w1 v' ss := ⟨news, hown', hn1.imp fun _ _ hx => (PropD.ty).mono (fun b hb => ⟨hb.1, fun he => by have := (hown'.lt b he.symm).1; omega⟩) ((PropD.ty).below hbel ((PropD.ty).lt hx))⟩
    exact (Ty.slice (PropD.ty)).mono (fun b hb => hb) hO.slice
end Go.Proofs.YtcmahpddjggcaaaGreatDoor
