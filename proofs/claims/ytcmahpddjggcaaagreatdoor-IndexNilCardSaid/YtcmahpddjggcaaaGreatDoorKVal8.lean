/- value.compare: the order of values that may be. -/
import Derived.Test.YtcmahpddjggcaaaGreatDoorKCmp
import Derived.Deep.RegionHeld3
namespace Go.Proofs.YtcmahpddjggcaaaGreatDoor
open Go Go.RowKit
set_option maxHeartbeats 4000000
set_option maxRecDepth 100000

/-- The order of texts. -/
def cmpB (a b : ByteArray) : Int := Lib.compareBytes a.data.toList b.data.toList
mutual
/-- The order of values that may be. -/
def V.cmp : V → V → Int
  | .mk k b n t ks l, u => if cmpI (V.rank k) (V.rank u.kind) = 0 then (if k = 1 then cmpI (truthI b) (truthI u.bool) else if k = 3 then cmpB t u.text else orI [cmpL cmpB ks u.keys, V.cmps l u.list, cmpI n u.int]) else cmpI (V.rank k) (V.rank u.kind)
def V.cmps : List V → List V → Int
  | [], [] => 0
  | [], _ :: _ => -1
  | _ :: _, [] => 1
  | x :: xs, y :: ys => if V.cmp x y = 0 then V.cmps xs ys else V.cmp x y
end
theorem V.cmps_eq (a : List V) : ∀ b, V.cmps a b = cmpL V.cmp a b := by
  induction a with
  | nil => intro b; cases b <;> simp [V.cmps, cmpL]
  | cons x xs ih => intro b; cases b with
    | nil => simp [V.cmps, cmpL]
    | cons y ys => simp only [V.cmps, cmpL, ih]
theorem V.cmp_eq (a u : V) : V.cmp a u = if cmpI (V.rank a.kind) (V.rank u.kind) = 0 then (if a.kind = 1 then cmpI (truthI a.bool) (truthI u.bool) else if a.kind = 3 then cmpB a.text u.text else orI [cmpL cmpB a.keys u.keys, cmpL V.cmp a.list u.list, cmpI a.int u.int]) else cmpI (V.rank a.kind) (V.rank u.kind) := by
  cases a; simp only [V.cmp, V.cmps_eq]; rfl
theorem V.keys_le (v : V) (hs : v.size ≤ BIG) : v.keys.length ≤ BIG := by
  obtain ⟨k, b, n, t, ks, l⟩ := v
  rw [V.size_eq] at hs
  have := V.sumBy_len (f := fun s : ByteArray => 1 + s.size) (by intro x; omega) ks
  simp only [V.keys]; omega
theorem V.list_le (v : V) (hs : v.size ≤ BIG) : v.list.length ≤ BIG := by
  obtain ⟨k, b, n, t, ks, l⟩ := v
  rw [V.size_eq] at hs
  have := V.sumBy_len (f := V.size) V.size_pos l
  simp only [V.list]; omega
theorem V.mem_le {v x : V} (h : x ∈ v.list) : x.size < v.size := by
  obtain ⟨k, b, n, t, ks, l⟩ := v
  rw [V.size_eq]
  have := V.sumBy_mem (f := V.size) h
  simp only [V.list] at this
  omega
/-- What compare promises at a. -/
def CmpP (a : V) : Prop := ∀ (u : V) (I J : Nat → Prop) (w : World) (cs ds : List Value), V.ty.rep I w a cs → V.ty.rep J w u ds → a.size ≤ BIG → u.size ≤ BIG →
    Calls Tryz.prog 178 #[.agg cs.toArray, .agg ds.toArray] w fun e w' => e = .returned (.int .i64 (V.cmp a u)) ∧ Below w.heap.size w w'
theorem V.rep_rows {I : Nat → Prop} {w : World} {v : V} {k n : Int} {b : Bool} {t : ByteArray} {A1 A2 : Option Addr} {n1 c1 n2 c2 : Nat} (h : V.ty.rep I w v [.int .i64 k, .bool b, .int .i64 n, .string t, .slice A1 n1 c1, .slice A2 n2 c2]) :
    Row 1 (Ty.str.rep I w) I w A1 v.keys ∧ Row 6 (V.ty.rep I w) I w A2 v.list := by
  obtain ⟨A1', c1', A2', c2', he, h1, h2, h3, h4⟩ := V.rep_open h
  simp only [List.cons.injEq, Value.slice.injEq, and_true] at he
  obtain ⟨_, _, _, _, ⟨rfl, _, _⟩, rfl, _, _⟩ := he
  exact ⟨h3, h4⟩
theorem row_ints (W : World) (x y z : Int) : Row 1 ((Ty.int .i64).rep (fun _ => True) (W.alloc (.cells #[.int .i64 x, .int .i64 y, .int .i64 z] 3))) (fun _ => True) (W.alloc (.cells #[.int .i64 x, .int .i64 y, .int .i64 z] 3)) (some ⟨W.heap.size, 0, none⟩) [x, y, z] := by
  obtain ⟨g, _⟩ := (Blk.new W [.int .i64 x, .int .i64 y, .int .i64 z] 3).rd
  refine .inr ⟨W.heap.size, 0, rfl, trivial, by simp, ?_⟩
  refine ⟨⟨_, rfl, fun j u hj => ?_⟩, ⟨_, rfl, fun j u hj => ?_⟩, ⟨_, rfl, fun j u hj => ?_⟩, trivial⟩
  all_goals
    match j, hj with
    | 0, hj => exact (g _).trans hj
theorem compare_step (a : V) (HI : Hid (∀ x, x ∈ a.list → CmpP x)) : CmpP a := by
  intro u I J w cs ds h h' hs hs'
  obtain ⟨A1, c1, A2, c2, rfl, h1, h2, h3, h4⟩ := V.rep_open h
  obtain ⟨B1, d1, B2, d2, rfl, k1, k2, k3, k4⟩ := V.rep_open h'
  have HE := Lib.hid (V.cmp_eq a u)
  have hR := V.rank_range a.kind
  have hR' := V.rank_range u.kind
  have hr := V.ty.lt h
  have hr' := V.ty.lt h'
  have HK := Lib.hid (show ∀ W, Below w.heap.size w W → Calls Tryz.prog 250 #[.slice A1 a.keys.length c1, .slice B1 u.keys.length d1, .func (.func 248) #[] #[]] W fun e w' => e = .returned (.int .i64 (cmpL cmpB a.keys u.keys)) ∧ w' = W from fun W hW =>
    lists_str 248 #[] (enters_of Tryz.func248 (by kernel_rfl) rfl) cmpB a.keys u.keys _ _ _ _ c1 d1 W (V.rep_rows (V.ty.belowB (fun b hb => hb.2) hW hr)).1 (V.rep_rows (V.ty.belowB (fun b hb => hb.2) hW hr')).1 (a.keys_le hs) (u.keys_le hs') (fun x _ y _ W cs ds hW hx hy => by obtain rfl := hx; obtain rfl := hy; exact strcmp_any x y W))
  have HL := Lib.hid (show ∀ W, Below w.heap.size w W → Calls Tryz.prog 251 #[.slice A2 a.list.length c2, .slice B2 u.list.length d2, .func (.func 178) #[] #[]] W fun e w' => e = .returned (.int .i64 (cmpL V.cmp a.list u.list)) ∧ Below W.heap.size W w' from fun W hW =>
    lists_val 178 #[] (enters_of Tryz.func178 (by kernel_rfl) rfl) V.cmp a.list u.list _ _ _ _ c2 d2 W (V.rep_rows (V.ty.belowB (fun b hb => hb.2) hW hr)).2 (V.rep_rows (V.ty.belowB (fun b hb => hb.2) hW hr')).2 (a.list_le hs) (u.list_le hs') (fun x hx y hy W' cs ds hW' hx' hy' => HI.out x hx y _ _ W' cs ds hx' hy' (Nat.le_trans (Nat.le_of_lt (V.mem_le hx)) hs) (Nat.le_trans (Nat.le_of_lt (V.mem_le hy)) hs')))
  have hC := cmpI_range (V.rank a.kind) (V.rank u.kind)
  have HC := Lib.hid (cmp_int (V.rank a.kind) (V.rank u.kind))
  have HA := Lib.hid (rank_any a.kind)
  have HU := Lib.hid (rank_any u.kind)
  generalize V.rank a.kind = ra at *
  generalize V.rank u.kind = ru at *
  generalize cmpI ra ru = c at *
  generalize V.cmp a u = r at *
  clear h h' hr hr'
  by_cases hc : c = 0
  · have hB2 : Below w.heap.size w ((w.alloc (.cells #[.int .i64 a.kind, .bool a.bool, .int .i64 a.int, .string a.text, .slice A1 a.keys.length c1, .slice A2 a.list.length c2] 26)).alloc (.cells #[.int .i64 u.kind, .bool u.bool, .int .i64 u.int, .string u.text, .slice B1 u.keys.length d1, .slice B2 u.list.length d2] 26)) := below_alloc' (below_alloc' (Below.refl _ _) (Nat.le_refl _) _) (Nat.le_refl _) _
    have b1 : Blk ((w.alloc (.cells #[.int .i64 a.kind, .bool a.bool, .int .i64 a.int, .string a.text, .slice A1 a.keys.length c1, .slice A2 a.list.length c2] 26)).alloc (.cells #[.int .i64 u.kind, .bool u.bool, .int .i64 u.int, .string u.text, .slice B1 u.keys.length d1, .slice B2 u.list.length d2] 26)) w.heap.size [.int .i64 a.kind, .bool a.bool, .int .i64 a.int, .string a.text, .slice A1 a.keys.length c1, .slice A2 a.list.length c2] 26 := (Blk.new w _ _).alloc _
    have b2 : Blk ((w.alloc (.cells #[.int .i64 a.kind, .bool a.bool, .int .i64 a.int, .string a.text, .slice A1 a.keys.length c1, .slice A2 a.list.length c2] 26)).alloc (.cells #[.int .i64 u.kind, .bool u.bool, .int .i64 u.int, .string u.text, .slice B1 u.keys.length d1, .slice B2 u.list.length d2] 26)) (w.heap.size + 1) [.int .i64 u.kind, .bool u.bool, .int .i64 u.int, .string u.text, .slice B1 u.keys.length d1, .slice B2 u.list.length d2] 26 := by have := Blk.new (w.alloc (.cells #[.int .i64 a.kind, .bool a.bool, .int .i64 a.int, .string a.text, .slice A1 a.keys.length c1, .slice A2 a.list.length c2] 26)) [.int .i64 u.kind, .bool u.bool, .int .i64 u.int, .string u.text, .slice B1 u.keys.length d1, .slice B2 u.list.length d2] 26; simpa using this
    by_cases hb : a.kind = 1
    · have HT := Lib.hid (show r = cmpI (truthI a.bool) (truthI u.bool) by rw [HE.out, if_pos hc, if_pos hb])
      subst hc
      generalize a.kind = ka at *
      subst hb
      clear b1 b2 hB2
      go_enter Tryz.func178, Tryz.ntmps178
      go_wp2_with fail
      go_quiet (first | (go_at_call_of 246 (Value.int IntKind.i64 1); exact Calls.quiet_of_same (HA.out _)) | (go_at_call 246; exact Calls.quiet_of_same (HU.out _)) | (go_at_call 245; exact Calls.quiet_of_same (HC.out _)))
      go_wp2_with fail
      refine (truths_any _ _ _).mono ?_
      rintro e w1 ⟨rfl, hb1⟩
      go_wp2_with fail
      go_ret
      exact ⟨by rw [HT.out]; rfl, (below_drewN (below_alloc' (below_alloc' (Below.refl _ _) (Nat.le_refl _) _) (Nat.le_refl _) _) _).trans (hb1.mono (by show w.heap.size ≤ (((w.alloc _).alloc _).drewN nq).heap.size; simp; omega))⟩
    · by_cases ht : a.kind = 3
      · have HT := Lib.hid (show r = cmpB a.text u.text by rw [HE.out, if_pos hc, if_neg hb, if_pos ht])
        subst hc
        generalize a.kind = ka at *
        subst ht
        clear b1 b2 hB2 hb
        go_enter Tryz.func178, Tryz.ntmps178
        go_wp2_with fail
        go_quiet (first | (go_at_call_of 246 (Value.int IntKind.i64 3); exact Calls.quiet_of_same (HA.out _)) | (go_at_call 246; exact Calls.quiet_of_same (HU.out _)) | (go_at_call 245; exact Calls.quiet_of_same (HC.out _)))
        go_wp2_with fail
        refine (strcmp_any _ _ _).mono ?_
        rintro e w1 ⟨rfl, rfl⟩
        go_wp2_with fail
        go_ret
        exact ⟨by rw [HT.out]; rfl, below_drewN (below_alloc' (below_alloc' (Below.refl _ _) (Nat.le_refl _) _) (Nat.le_refl _) _) _⟩
      · have HT := Lib.hid (show r = orI [cmpL cmpB a.keys u.keys, cmpL V.cmp a.list u.list, cmpI a.int u.int] by rw [HE.out, if_pos hc, if_neg hb, if_neg ht])
        subst hc
        clear HE
        go_enter Tryz.func178, Tryz.ntmps178
        go_wp2_with fail
        go_quiet (first | (go_at_call_of 246 (Value.int IntKind.i64 a.kind); exact Calls.quiet_of_same (HA.out _)) | (go_at_call 246; exact Calls.quiet_of_same (HU.out _)) | (go_at_call 245; exact Calls.quiet_of_same (HC.out _)))
        go_wp2_with fail
        have b1 := b1.drewN nq
        have b2 := b2.drewN nq
        have hB2 := below_drewN hB2 nq
        have hw2 : w.heap.size + 1 + 1 ≤ (((w.alloc (.cells #[.int .i64 a.kind, .bool a.bool, .int .i64 a.int, .string a.text, .slice A1 a.keys.length c1, .slice A2 a.list.length c2] 26)).alloc (.cells #[.int .i64 u.kind, .bool u.bool, .int .i64 u.int, .string u.text, .slice B1 u.keys.length d1, .slice B2 u.list.length d2] 26)).drewN nq).heap.size := by show w.heap.size + 1 + 1 ≤ ((w.alloc _).alloc _).heap.size; simp
        generalize ((w.alloc (.cells #[.int .i64 a.kind, .bool a.bool, .int .i64 a.int, .string a.text, .slice A1 a.keys.length c1, .slice A2 a.list.length c2] 26)).alloc (.cells #[.int .i64 u.kind, .bool u.bool, .int .i64 u.int, .string u.text, .slice B1 u.keys.length d1, .slice B2 u.list.length d2] 26)).drewN nq = W0 at *
        have KS := Lib.hid (show ∀ w', Below W0.heap.size W0 w' → w'.cell? ⟨w.heap.size, 2, none⟩ = some (.int .i64 a.int) ∧ w'.cell? ⟨w.heap.size, 4, none⟩ = some (.slice A1 a.keys.length c1) ∧ w'.cell? ⟨w.heap.size, 5, none⟩ = some (.slice A2 a.list.length c2) ∧
          w'.cell? ⟨w.heap.size + 1, 2, none⟩ = some (.int .i64 u.int) ∧ w'.cell? ⟨w.heap.size + 1, 4, none⟩ = some (.slice B1 u.keys.length d1) ∧ w'.cell? ⟨w.heap.size + 1, 5, none⟩ = some (.slice B2 u.list.length d2) ∧ Below W0.heap.size W0 w' from fun w' hb =>
            ⟨(b1.below hb).rd.1 2, (b1.below hb).rd.1 4, (b1.below hb).rd.1 5, (b2.below hb).rd.1 2, (b2.below hb).rd.1 4, (b2.below hb).rd.1 5, hb⟩)
        have HK2 := Lib.hid (fun W (hW : Below W0.heap.size W0 W) => HK.out W (below_call hB2 hB2.size hW))
        have HL2 := Lib.hid (fun W (hW : Below W0.heap.size W0 W) => (HL.out W (below_call hB2 hB2.size hW)).mono (fun e w' h => (⟨h.1, hW.trans (h.2.mono hW.size)⟩ : e = .returned (.int .i64 (cmpL V.cmp a.list u.list)) ∧ Below W0.heap.size W0 w')))
        have HO := Lib.hid (cmp_i64 a.int u.int)
        have HR := Lib.hid (fun (x y z : Int) (W : World) => or_int [x, y, z] (fun _ => True) (some ⟨W.heap.size, 0, none⟩) 3 (W.alloc (.cells #[.int .i64 x, .int .i64 y, .int .i64 z] 3)) (row_ints W x y z) (by show 3 ≤ BIG; decide))
        have KW := Lib.hid (KS.out W0 (Below.refl _ _))
        generalize cmpL cmpB a.keys u.keys = x1 at *
        generalize cmpL V.cmp a.list u.list = x2 at *
        generalize cmpI a.int u.int = x3 at *
        have hBf := Lib.hid hB2
        clear b1 b2 hB2 HK HL
        obtain ⟨m1, m2, m3, m4, m5, m6, m7⟩ := KW.out
        clear KW
        go_region_held3 (fun w' => w'.cell? ⟨w.heap.size, 2, none⟩ = some (.int .i64 a.int) ∧ w'.cell? ⟨w.heap.size, 4, none⟩ = some (.slice A1 a.keys.length c1) ∧ w'.cell? ⟨w.heap.size, 5, none⟩ = some (.slice A2 a.list.length c2) ∧
          w'.cell? ⟨w.heap.size + 1, 2, none⟩ = some (.int .i64 u.int) ∧ w'.cell? ⟨w.heap.size + 1, 4, none⟩ = some (.slice B1 u.keys.length d1) ∧ w'.cell? ⟨w.heap.size + 1, 5, none⟩ = some (.slice B2 u.list.length d2) ∧ Below W0.heap.size W0 w')
          (first | (exact KS.out _ (below_drewN (Below.refl _ _) 1)) | (go_split_ands; refine KS.out _ ?_; assumption) | (go_split_ands; refine KS.out _ (below_alloc' ?_ (Nat.le_refl _) _); assumption))
          (first
            | (go_at_call 250; refine (HK2.out _ ?_).mono ?_; (go_split_ands; assumption); rintro e w1 ⟨rfl, rfl⟩)
            | (go_at_call 251; refine (HL2.out _ ?_).mono ?_; (go_split_ands; assumption); rintro e w1 ⟨rfl, hb1⟩)
            | (go_at_call 252; refine (HO.out _).mono ?_; rintro e w1 ⟨rfl, rfl⟩)
            | (go_at_call 249; refine (HR.out _ _ _ _).mono ?_; rintro e w1 ⟨rfl, rfl⟩))
        go_wp2_with fail
        go_ret
        exact ⟨by rw [HT.out]; rfl, below_call hBf.out hBf.out.size (by go_split_ands; assumption)⟩
  · have HT := Lib.hid (show r = c by rw [HE.out, if_neg hc])
    go_enter Tryz.func178, Tryz.ntmps178
    go_wp2_with fail
    go_quiet (first | (go_at_call_of 246 (Value.int IntKind.i64 a.kind); exact Calls.quiet_of_same (HA.out _)) | (go_at_call 246; exact Calls.quiet_of_same (HU.out _)) | (go_at_call 245; exact Calls.quiet_of_same (HC.out _)))
    go_wp2_with fail
    go_ret
    exact ⟨by rw [HT.out]; rfl, below_drewN (below_alloc' (below_alloc' (Below.refl _ _) (Nat.le_refl _) _) (Nat.le_refl _) _) _⟩
theorem compare_any (a : V) : CmpP a := by
  induction a using V.ind with
  | h k b n t ks l ih => exact compare_step _ (Lib.hid ih)
end Go.Proofs.YtcmahpddjggcaaaGreatDoor
