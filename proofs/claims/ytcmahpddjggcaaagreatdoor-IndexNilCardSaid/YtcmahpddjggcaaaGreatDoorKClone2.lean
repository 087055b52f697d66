/- slices.Clone at an index's entries. Printed by wip/gen_clone.py. -/
import Derived.Test.YtcmahpddjggcaaaGreatDoorKEnt
namespace Go.Proofs.YtcmahpddjggcaaaGreatDoor
open Go Go.RowKit
set_option maxHeartbeats 1000000
set_option maxRecDepth 100000

theorem clone_ent (I J : Nat → Prop) (ss : List (EntD)) (A : Option Addr) (c : Nat) (w : World) (h : Row 7 ((EntD.ty).rep J w) I w A ss) (hs : ss.length ≤ BIG) : Calls Tryz.prog 92 #[.slice A ss.length c] w fun e w' => ∃ v, e = .returned v ∧ Own (EntD.ty) 148 w.heap.size J w' v ss ∧ Below w.heap.size w w' := by
  have q := fun (w : World) (a : Option Addr) (n c n' c' : Nat) => Lib.run_eql_slice_nil (P := Tryz.prog) w 30 148 a n c n' c' Tryz.underlying30
  rcases h with rfl | ⟨b, off, rfl, hb, hl, hr⟩
  · rcases A with _ | ad
    · go_enter Tryz.func92, Tryz.ntmps92
      go_wp2
      go_ret
      exact ⟨_, rfl, Own.nil _ _ _ _ _, Below.refl _ _⟩
    · obtain ⟨i0, hi, hz0, hz1, hz2⟩ := info_parts info_entry
      go_enter Tryz.func92, Tryz.ntmps92
      go_wp2_with (at_builtin; refine wpList_append_own_at _ rfl _ _ 30 rfl w.heap.size 148 i0 _ 7 96 Tryz.underlying30 hi hz0 hz1 hz2 rfl (by decide) _ _ _ rfl (World.ownsRow_made w #[] 0 (Nat.le_refl _) (Nat.zero_le _) (by simp)) ad 0 c [] rfl ?qc1 ?qc2 ?qc3 ?qc4 ?qc5 ?qc6 ?_)
      case qc1 => simp
      case qc2 => intro j u hj; simp at hj
      case qc3 => simp
      case qc4 => simp
      case qc5 => simp
      case qc6 => simp
      intro v' w1 hown hgrow hnil hat
      go_wp2
      go_ret
      refine ⟨v', rfl, ?_, ((Below.refl _ w).alloc (Nat.le_refl _) _).grown hgrow (by simp) (by intro k hk; simp [Value.ownBlock] at hk; omega)⟩
      have hown' : w1.ownsRow w.heap.size 148 (EntD.ty).sz v' 0 [] := (by simpa using hown : w1.ownsRow w.heap.size 148 7 v' 0 [])
      exact ⟨[], hown', rfl⟩
  · obtain ⟨news, hn1, hn2⟩ := hr.flat (fun _ _ => (EntD.ty).len)
    have hlen := hn1.len (fun _ _ => (EntD.ty).len)
    have hone := hn1.one (fun _ _ => (EntD.ty).one)
    have HN := Lib.hid hn2; clear hn2
    have HL := Lib.hid hlen; clear hlen
    obtain ⟨i0, hi, hz0, hz1, hz2⟩ := info_parts info_entry
    go_enter Tryz.func92, Tryz.ntmps92
    go_wp2_with (at_builtin; refine wpList_append_own_at _ rfl _ _ 30 rfl w.heap.size 148 i0 _ 7 96 Tryz.underlying30 hi hz0 hz1 hz2 rfl (by decide) _ _ _ rfl (World.ownsRow_made w #[] 0 (Nat.le_refl _) (Nat.zero_le _) (by simp)) ⟨b, off, none⟩ ss.length c news rfl ?qc1 ?qc2 ?qc3 ?qc4 ?qc5 ?qc6 ?_)
    case qc1 => exact HL.out
    case qc2 =>
      intro j u hj
      rw [Addr.add_lit]
      exact Lib.cell?_alloc_some _ (HN.out j u hj)
    case qc3 => exact hone
    case qc4 => rw [BIG_eq] at hs; simp only [maxLen]; omega
    case qc5 => rw [BIG_eq] at hs; omega
    case qc6 => simp
    intro v' w1 hown hgrow hnil hat
    go_wp2
    go_ret
    have hbel : Below w.heap.size w w1 := ((Below.refl _ w).alloc (Nat.le_refl _) _).grown hgrow (by simp) (by intro k hk; simp [Value.ownBlock] at hk; omega)
    refine ⟨v', rfl, ?_, hbel⟩
    have hown' : w1.ownsRow w.heap.size 148 (EntD.ty).sz v' ss.length news := (by simpa using hown : w1.ownsRow w.heap.size 148 7 v' ss.length news)
    have hO : Own (EntD.ty) 148 w.heap.size J w1 v' ss := ⟨news, hown', hn1.imp fun _ _ hx => (EntD.ty).mono (fun b hb => ⟨hb.1, fun he => by have := (hown'.lt b he.symm).1; omega⟩) ((EntD.ty).below hbel ((EntD.ty).lt hx))⟩
    exact hO
end Go.Proofs.YtcmahpddjggcaaaGreatDoor
