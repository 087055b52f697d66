/- index: entries, before. -/
import Derived.Test.YtcmahpddjggcaaaGreatDoorKGra6
import Derived.Test.YtcmahpddjggcaaaGreatDoorKOwnE
namespace Go.Proofs.YtcmahpddjggcaaaGreatDoor
open Go Go.RowKit
set_option maxHeartbeats 4000000
set_option maxRecDepth 100000
/-- An entry of an index. -/
structure EntD where
  id : Int
  val : V
def EntD.ty : Ty EntD := Ty.iso (Ty.pair (Ty.int .i64) V.ty) fun p => (p.id, p.val)
theorem EntD.rep_open {I : Nat → Prop} {w : World} {cs : List Value} {p : EntD} (h : EntD.ty.rep I w p cs) : ∃ A1 c1 A2 c2, cs = [.int .i64 p.id, .int .i64 p.val.kind, .bool p.val.bool, .int .i64 p.val.int, .string p.val.text, .slice A1 p.val.keys.length c1, .slice A2 p.val.list.length c2] ∧
    V.ty.rep I w p.val [.int .i64 p.val.kind, .bool p.val.bool, .int .i64 p.val.int, .string p.val.text, .slice A1 p.val.keys.length c1, .slice A2 p.val.list.length c2] := by
  obtain ⟨c0, c1, rfl, h0, h1⟩ := h
  obtain rfl := h0
  have h1' := h1
  obtain ⟨A1, c1, A2, c2, rfl, _⟩ := V.rep_open h1
  exact ⟨A1, c1, A2, c2, rfl, h1'⟩
theorem EntD.rep_mk {I : Nat → Prop} {w : World} {cs : List Value} {p : EntD} (h : V.ty.rep I w p.val cs) : EntD.ty.rep I w p (.int .i64 p.id :: cs) := ⟨[.int .i64 p.id], cs, rfl, rfl, h⟩
def EntD.before (a b : EntD) : Int := orI [V.Cmp a.val b.val, cmpI a.id b.id]
theorem row_ints2 (W : World) (x y : Int) : Row 1 ((Ty.int .i64).rep (fun _ => True) (W.alloc (.cells #[.int .i64 x, .int .i64 y] 3))) (fun _ => True) (W.alloc (.cells #[.int .i64 x, .int .i64 y] 3)) (some ⟨W.heap.size, 0, none⟩) [x, y] := by
  obtain ⟨g, _⟩ := (Blk.new W [.int .i64 x, .int .i64 y] 3).rd
  refine .inr ⟨W.heap.size, 0, rfl, trivial, by simp, ?_⟩
  refine ⟨⟨_, rfl, fun j u hj => ?_⟩, ⟨_, rfl, fun j u hj => ?_⟩, trivial⟩
  all_goals
    match j, hj with
    | 0, hj => exact (g _).trans hj
theorem before_any (a u : EntD) (I J : Nat → Prop) (w : World) (cs ds : List Value) (h : EntD.ty.rep I w a cs) (h' : EntD.ty.rep J w u ds) (hs : a.val.size + 1 ≤ BIG) (hs' : u.val.size + 1 ≤ BIG) (hT : Tabs w) :
    Calls Tryz.prog 192 #[.agg cs.toArray, .agg ds.toArray] w fun e w' => e = .returned (.int .i64 (EntD.before a u)) ∧ Below w.heap.size w w' := by
  obtain ⟨A1, c1, A2, c2, rfl, hv⟩ := EntD.rep_open h
  obtain ⟨B1, d1, B2, d2, rfl, hv'⟩ := EntD.rep_open h'
  have HV := Lib.hid (V.ty.lt hv)
  have HV' := Lib.hid (V.ty.lt hv')
  have HE := Lib.hid (show EntD.before a u = orI [V.Cmp a.val u.val, cmpI a.id u.id] from rfl)
  generalize EntD.before a u = r at *
  have hB2 : Below w.heap.size w ((w.alloc (.cells #[.int .i64 a.id, .int .i64 a.val.kind, .bool a.val.bool, .int .i64 a.val.int, .string a.val.text, .slice A1 a.val.keys.length c1, .slice A2 a.val.list.length c2] 148)).alloc (.cells #[.int .i64 u.id, .int .i64 u.val.kind, .bool u.val.bool, .int .i64 u.val.int, .string u.val.text, .slice B1 u.val.keys.length d1, .slice B2 u.val.list.length d2] 148)) := below_alloc' (below_alloc' (Below.refl _ _) (Nat.le_refl _) _) (Nat.le_refl _) _
  have b1 : Blk ((w.alloc (.cells #[.int .i64 a.id, .int .i64 a.val.kind, .bool a.val.bool, .int .i64 a.val.int, .string a.val.text, .slice A1 a.val.keys.length c1, .slice A2 a.val.list.length c2] 148)).alloc (.cells #[.int .i64 u.id, .int .i64 u.val.kind, .bool u.val.bool, .int .i64 u.val.int, .string u.val.text, .slice B1 u.val.keys.length d1, .slice B2 u.val.list.length d2] 148)) w.heap.size [.int .i64 a.id, .int .i64 a.val.kind, .bool a.val.bool, .int .i64 a.val.int, .string a.val.text, .slice A1 a.val.keys.length c1, .slice A2 a.val.list.length c2] 148 := (Blk.new w _ _).alloc _
  have b2 : Blk ((w.alloc (.cells #[.int .i64 a.id, .int .i64 a.val.kind, .bool a.val.bool, .int .i64 a.val.int, .string a.val.text, .slice A1 a.val.keys.length c1, .slice A2 a.val.list.length c2] 148)).alloc (.cells #[.int .i64 u.id, .int .i64 u.val.kind, .bool u.val.bool, .int .i64 u.val.int, .string u.val.text, .slice B1 u.val.keys.length d1, .slice B2 u.val.list.length d2] 148)) (w.heap.size + 1) [.int .i64 u.id, .int .i64 u.val.kind, .bool u.val.bool, .int .i64 u.val.int, .string u.val.text, .slice B1 u.val.keys.length d1, .slice B2 u.val.list.length d2] 148 := by have := Blk.new (w.alloc (.cells #[.int .i64 a.id, .int .i64 a.val.kind, .bool a.val.bool, .int .i64 a.val.int, .string a.val.text, .slice A1 a.val.keys.length c1, .slice A2 a.val.list.length c2] 148)) [.int .i64 u.id, .int .i64 u.val.kind, .bool u.val.bool, .int .i64 u.val.int, .string u.val.text, .slice B1 u.val.keys.length d1, .slice B2 u.val.list.length d2] 148; simpa using this
  clear h h' hv hv'
  go_enter Tryz.func192, Tryz.ntmps192
  go_wp2_with fail
  generalize (w.alloc (.cells #[.int .i64 a.id, .int .i64 a.val.kind, .bool a.val.bool, .int .i64 a.val.int, .string a.val.text, .slice A1 a.val.keys.length c1, .slice A2 a.val.list.length c2] 148)).alloc (.cells #[.int .i64 u.id, .int .i64 u.val.kind, .bool u.val.bool, .int .i64 u.val.int, .string u.val.text, .slice B1 u.val.keys.length d1, .slice B2 u.val.list.length d2] 148) = W0 at *
  have KS := Lib.hid (show ∀ w', Below W0.heap.size W0 w' → w'.cell? ⟨w.heap.size, 0, none⟩ = some (.int .i64 a.id) ∧ w'.cell? ⟨w.heap.size, 1, none⟩ = some (.int .i64 a.val.kind) ∧ w'.cell? ⟨w.heap.size, 2, none⟩ = some (.bool a.val.bool) ∧ w'.cell? ⟨w.heap.size, 3, none⟩ = some (.int .i64 a.val.int) ∧ w'.cell? ⟨w.heap.size, 4, none⟩ = some (.string a.val.text) ∧ w'.cell? ⟨w.heap.size, 5, none⟩ = some (.slice A1 a.val.keys.length c1) ∧ w'.cell? ⟨w.heap.size, 6, none⟩ = some (.slice A2 a.val.list.length c2) ∧ w'.cell? ⟨w.heap.size + 1, 0, none⟩ = some (.int .i64 u.id) ∧ w'.cell? ⟨w.heap.size + 1, 1, none⟩ = some (.int .i64 u.val.kind) ∧ w'.cell? ⟨w.heap.size + 1, 2, none⟩ = some (.bool u.val.bool) ∧ w'.cell? ⟨w.heap.size + 1, 3, none⟩ = some (.int .i64 u.val.int) ∧ w'.cell? ⟨w.heap.size + 1, 4, none⟩ = some (.string u.val.text) ∧ w'.cell? ⟨w.heap.size + 1, 5, none⟩ = some (.slice B1 u.val.keys.length d1) ∧ w'.cell? ⟨w.heap.size + 1, 6, none⟩ = some (.slice B2 u.val.list.length d2) ∧ Below W0.heap.size W0 w' from fun w' hb => ⟨(b1.below hb).rd.1 0, (b1.below hb).rd.1 1, (b1.below hb).rd.1 2, (b1.below hb).rd.1 3, (b1.below hb).rd.1 4, (b1.below hb).rd.1 5, (b1.below hb).rd.1 6, (b2.below hb).rd.1 0, (b2.below hb).rd.1 1, (b2.below hb).rd.1 2, (b2.below hb).rd.1 3, (b2.below hb).rd.1 4, (b2.below hb).rd.1 5, (b2.below hb).rd.1 6, hb⟩)
  have HC := Lib.hid (show ∀ W, Below W0.heap.size W0 W → Calls Tryz.prog 81 #[.agg #[.int .i64 a.val.kind, .bool a.val.bool, .int .i64 a.val.int, .string a.val.text, .slice A1 a.val.keys.length c1, .slice A2 a.val.list.length c2], .agg #[.int .i64 u.val.kind, .bool u.val.bool, .int .i64 u.val.int, .string u.val.text, .slice B1 u.val.keys.length d1, .slice B2 u.val.list.length d2]] W fun e w' => e = .returned (.int .i64 (V.Cmp a.val u.val)) ∧ Below W0.heap.size W0 w' from fun W hW => by
    have hh := below_call hB2 hB2.size hW
    exact (Compare_any a.val u.val _ _ W _ _ (V.ty.belowB (fun b hb => hb.2) hh HV.out) (V.ty.belowB (fun b hb => hb.2) hh HV'.out) hs hs' (hT.below hh)).mono (fun e w' h => ⟨h.1, hW.trans (h.2.mono hW.size)⟩))
  have HO := Lib.hid (cmp_i64 a.id u.id)
  have HR := Lib.hid (fun (x y : Int) (W : World) => or_int [x, y] (fun _ => True) (some ⟨W.heap.size, 0, none⟩) 2 (W.alloc (.cells #[.int .i64 x, .int .i64 y] 3)) (row_ints2 W x y) (by show 2 ≤ BIG; decide))
  generalize V.Cmp a.val u.val = x1 at *
  generalize cmpI a.id u.id = x2 at *
  have hBf := Lib.hid hB2
  obtain ⟨m1, m2, m3, m4, m5, m6, m7, m8, m9, m10, m11, m12, m13, m14, m15⟩ := KS.out W0 (Below.refl _ _)
  clear b1 b2 hB2 m15 HV HV'
  refine wp_region_held_drew (S := (fun w' => w'.cell? ⟨w.heap.size, 0, none⟩ = some (.int .i64 a.id) ∧ w'.cell? ⟨w.heap.size, 1, none⟩ = some (.int .i64 a.val.kind) ∧ w'.cell? ⟨w.heap.size, 2, none⟩ = some (.bool a.val.bool) ∧ w'.cell? ⟨w.heap.size, 3, none⟩ = some (.int .i64 a.val.int) ∧ w'.cell? ⟨w.heap.size, 4, none⟩ = some (.string a.val.text) ∧ w'.cell? ⟨w.heap.size, 5, none⟩ = some (.slice A1 a.val.keys.length c1) ∧ w'.cell? ⟨w.heap.size, 6, none⟩ = some (.slice A2 a.val.list.length c2) ∧ w'.cell? ⟨w.heap.size + 1, 0, none⟩ = some (.int .i64 u.id) ∧ w'.cell? ⟨w.heap.size + 1, 1, none⟩ = some (.int .i64 u.val.kind) ∧ w'.cell? ⟨w.heap.size + 1, 2, none⟩ = some (.bool u.val.bool) ∧ w'.cell? ⟨w.heap.size + 1, 3, none⟩ = some (.int .i64 u.val.int) ∧ w'.cell? ⟨w.heap.size + 1, 4, none⟩ = some (.string u.val.text) ∧ w'.cell? ⟨w.heap.size + 1, 5, none⟩ = some (.slice B1 u.val.keys.length d1) ∧ w'.cell? ⟨w.heap.size + 1, 6, none⟩ = some (.slice B2 u.val.list.length d2) ∧ Below W0.heap.size W0 w')) (by kernel_rfl) ?o1 (fun hH0 => ?_)
  case o1 => ((try dsimp only); first | done | (first | (exact KS.out _ (Below.refl _ _)) | (exact KS.out _ (below_drewN (Below.refl _ _) 1)) | (go_split_ands; refine KS.out _ ?_; assumption) | (go_split_ands; refine KS.out _ (below_alloc' ?_ (Nat.le_refl _) _); assumption)))
  refine own_take (v := ?v2) 0 (some 5) rfl rfl (by kernel_rfl) (fun _ _ _ h => h) rfl (by assumption) ?o2 ?_
  case o2 => (intro w hSw; (try dsimp only at hSw); go_simp; try (with_reducible rfl))
  try simp only [Act.put, List.setIfInBounds_toArray, List.set_cons_zero, List.set_cons_succ]
  refine own_take (v := ?v3) 1 (some 6) rfl rfl (by kernel_rfl) (fun _ _ _ h => h) rfl (by assumption) ?o3 ?_
  case o3 => (intro w hSw; (try dsimp only at hSw); go_simp; try (with_reducible rfl))
  try simp only [Act.put, List.setIfInBounds_toArray, List.set_cons_zero, List.set_cons_succ]
  refine own_take (v := ?v4) 2 (some 7) rfl rfl (by kernel_rfl) (fun _ _ _ h => h) rfl (by assumption) ?o4 ?_
  case o4 => (intro w hSw; (try dsimp only at hSw); go_simp; try (with_reducible rfl))
  try simp only [Act.put, List.setIfInBounds_toArray, List.set_cons_zero, List.set_cons_succ]
  refine own_take (v := ?v5) 3 (some 8) rfl rfl (by kernel_rfl) (fun _ _ _ h => h) rfl (by assumption) ?o5 ?_
  case o5 => (intro w hSw; (try dsimp only at hSw); go_simp; try (with_reducible rfl))
  try simp only [Act.put, List.setIfInBounds_toArray, List.set_cons_zero, List.set_cons_succ]
  refine own_take (v := ?v6) 5 (some 10) rfl rfl (by kernel_rfl) (fun _ _ _ h => h) rfl (by assumption) ?o6 ?_
  case o6 => (intro w hSw; (try dsimp only at hSw); go_simp; try (with_reducible rfl))
  try simp only [Act.put, List.setIfInBounds_toArray, List.set_cons_zero, List.set_cons_succ]
  refine own_take (v := ?v7) 6 (some 11) rfl rfl (by kernel_rfl) (fun _ _ _ h => h) rfl (by assumption) ?o7 ?_
  case o7 => (intro w hSw; (try dsimp only at hSw); go_simp; try (with_reducible rfl))
  try simp only [Act.put, List.setIfInBounds_toArray, List.set_cons_zero, List.set_cons_succ]
  refine own_take (v := ?v8) 7 (some 12) rfl rfl (by kernel_rfl) (fun _ _ _ h => h) rfl (by assumption) ?o8 ?_
  case o8 => (intro w hSw; (try dsimp only at hSw); go_simp; try (with_reducible rfl))
  try simp only [Act.put, List.setIfInBounds_toArray, List.set_cons_zero, List.set_cons_succ]
  refine own_take (v := ?v9) 8 (some 13) rfl rfl (by kernel_rfl) (fun _ _ _ h => h) rfl (by assumption) ?o9 ?_
  case o9 => (intro w hSw; (try dsimp only at hSw); go_simp; try (with_reducible rfl))
  try simp only [Act.put, List.setIfInBounds_toArray, List.set_cons_zero, List.set_cons_succ]
  refine own_step 4 (by kernel_rfl) rfl (fun K hK => ?_)
  go_simp
  (first | (go_at_call 81; refine (HC.out _ ?_).mono ?_; (go_split_ands; assumption); rintro e w1 ⟨rfl, hb1⟩) | (go_at_call 252; refine (HO.out _).mono ?_; rintro e w1 ⟨rfl, rfl⟩) | (go_at_call 249; refine (HR.out _ _ _).mono ?_; rintro e w1 ⟨rfl, rfl⟩))
  go_wp2_with fail
  refine hK.out _ _ ?o11 (fun hH1 => ?_)
  case o11 => ((try dsimp only); first | done | (first | (exact KS.out _ (Below.refl _ _)) | (exact KS.out _ (below_drewN (Below.refl _ _) 1)) | (go_split_ands; refine KS.out _ ?_; assumption) | (go_split_ands; refine KS.out _ (below_alloc' ?_ (Nat.le_refl _) _); assumption)))
  clear hK K hH0
  try simp only [Act.put, List.setIfInBounds_toArray, List.set_cons_zero, List.set_cons_succ]
  refine own_step 9 (by kernel_rfl) rfl (fun K hK => ?_)
  go_simp
  (first | (go_at_call 81; refine (HC.out _ ?_).mono ?_; (go_split_ands; assumption); rintro e w1 ⟨rfl, hb1⟩) | (go_at_call 252; refine (HO.out _).mono ?_; rintro e w1 ⟨rfl, rfl⟩) | (go_at_call 249; refine (HR.out _ _ _).mono ?_; rintro e w1 ⟨rfl, rfl⟩))
  go_wp2_with fail
  refine hK.out _ _ ?o13 (fun hH2 => ?_)
  case o13 => ((try dsimp only); first | done | (first | (exact KS.out _ (Below.refl _ _)) | (exact KS.out _ (below_drewN (Below.refl _ _) 1)) | (go_split_ands; refine KS.out _ ?_; assumption) | (go_split_ands; refine KS.out _ (below_alloc' ?_ (Nat.le_refl _) _); assumption)))
  clear hK K hH1
  try simp only [Act.put, List.setIfInBounds_toArray, List.set_cons_zero, List.set_cons_succ]
  refine own_step 10 (by kernel_rfl) rfl (fun K hK => ?_)
  go_simp
  refine hK.out _ _ ?o15 (fun hH3 => ?_)
  case o15 => ((try dsimp only); first | done | (first | (exact KS.out _ (Below.refl _ _)) | (exact KS.out _ (below_drewN (Below.refl _ _) 1)) | (go_split_ands; refine KS.out _ ?_; assumption) | (go_split_ands; refine KS.out _ (below_alloc' ?_ (Nat.le_refl _) _); assumption)))
  clear hK K hH2
  try simp only [Act.put, List.setIfInBounds_toArray, List.set_cons_zero, List.set_cons_succ]
  refine own_step 11 (by kernel_rfl) rfl (fun K hK => ?_)
  go_simp
  (first | (go_at_call 81; refine (HC.out _ ?_).mono ?_; (go_split_ands; assumption); rintro e w1 ⟨rfl, hb1⟩) | (go_at_call 252; refine (HO.out _).mono ?_; rintro e w1 ⟨rfl, rfl⟩) | (go_at_call 249; refine (HR.out _ _ _).mono ?_; rintro e w1 ⟨rfl, rfl⟩))
  go_wp2_with fail
  refine hK.out _ _ ?o17 (fun hH4 => ?_)
  case o17 => ((try dsimp only); first | done | (first | (exact KS.out _ (Below.refl _ _)) | (exact KS.out _ (below_drewN (Below.refl _ _) 1)) | (go_split_ands; refine KS.out _ ?_; assumption) | (go_split_ands; refine KS.out _ (below_alloc' ?_ (Nat.le_refl _) _); assumption)))
  clear hK K hH3
  try simp only [Act.put, List.setIfInBounds_toArray, List.set_cons_zero, List.set_cons_succ]
  refine own_take (v := ?v18) 12 (some 4) rfl rfl (by kernel_rfl) (fun _ _ _ h => h) rfl (by assumption) ?o18 ?_
  case o18 => (intro w hSw; (try dsimp only at hSw); go_simp; try (with_reducible rfl))
  try simp only [Act.put, List.setIfInBounds_toArray, List.set_cons_zero, List.set_cons_succ]
  refine wpAnyH_done (by kernel_rfl) ?_ _
  go_wp2_with fail
  go_ret
  exact ⟨by rw [HE.out]; rfl, below_call hBf.out hBf.out.size (by go_split_ands; assumption)⟩
end Go.Proofs.YtcmahpddjggcaaaGreatDoor
