/- value: fine, rank, truths; cmp.Compare, cmp.Or. -/
import Derived.Test.YtcmahpddjggcaaaGreatDoorKIdx
import Derived.Maps.Own
namespace Go.Proofs.YtcmahpddjggcaaaGreatDoor
open Go Go.RowKit Go.Maps
set_option maxHeartbeats 1000000
set_option maxRecDepth 100000

/-- The order of whole numbers. -/
def cmpI (a b : Int) : Int := if a < b then -1 else if b < a then 1 else 0
theorem cmpI_range (a b : Int) : -1 ≤ cmpI a b ∧ cmpI a b ≤ 1 := by unfold cmpI; split <;> (try split) <;> omega
theorem cmpI_lt {a b : Int} (h : a < b) : cmpI a b = -1 := by simp [cmpI, h]
theorem cmpI_gt {a b : Int} (h : b < a) : cmpI a b = 1 := by simp [cmpI, h, Int.not_lt.2 (Int.le_of_lt h)]
theorem cmpI_eq {a b : Int} (h : a = b) : cmpI a b = 0 := by subst h; simp [cmpI]
def V.rank (k : Int) : Int := if k = 0 then 7 else if k = 2 then 6 else if k = 1 then 5 else if k = 3 then 4 else if k = 4 then 3 else if k = 7 then 2 else if k = 6 then 1 else 0
theorem V.rank_range (k : Int) : 0 ≤ V.rank k ∧ V.rank k ≤ 7 := by unfold V.rank; repeat' split
                                                                   all_goals omega
def truthI (b : Bool) : Int := if b then 1 else 0
/-- The first that is not 0. -/
def orI : List Int → Int
  | [] => 0
  | x :: xs => if x = 0 then orI xs else x

theorem isNaN_int (a : Int) (w : World) : Calls Tryz.prog 305 #[.int .i64 a] w fun e w' => e = .returned (.bool false) ∧ w' = w := by
  go_enter Tryz.func305, Tryz.ntmps305
  go_wp2
  go_ret
  simp
theorem isNaN_i64 (a : Int) (w : World) : Calls Tryz.prog 309 #[.int .i64 a] w fun e w' => e = .returned (.bool false) ∧ w' = w := by
  go_enter Tryz.func309, Tryz.ntmps309
  go_wp2
  go_ret
  simp
theorem cmp_int (a b : Int) (w : World) : Calls Tryz.prog 245 #[.int .i64 a, .int .i64 b] w fun e w' => e = .returned (.int .i64 (cmpI a b)) ∧ w' = w := by
  rcases Int.lt_trichotomy a b with h | h | h
  · rw [cmpI_lt h]
    go_enter Tryz.func245, Tryz.ntmps245
    go_wp2_with (first | (go_at_call 305; refine (isNaN_int _ _).mono ?_; rintro e w1 ⟨rfl, rfl⟩))
    go_ret
    simp
  · subst h
    rw [cmpI_eq rfl]
    go_enter Tryz.func245, Tryz.ntmps245
    go_wp2_with (first | (go_at_call 305; refine (isNaN_int _ _).mono ?_; rintro e w1 ⟨rfl, rfl⟩))
    go_ret
    simp
  · rw [cmpI_gt h]
    go_enter Tryz.func245, Tryz.ntmps245
    go_wp2_with (first | (go_at_call 305; refine (isNaN_int _ _).mono ?_; rintro e w1 ⟨rfl, rfl⟩))
    go_ret
    simp
theorem cmp_i64 (a b : Int) (w : World) : Calls Tryz.prog 252 #[.int .i64 a, .int .i64 b] w fun e w' => e = .returned (.int .i64 (cmpI a b)) ∧ w' = w := by
  rcases Int.lt_trichotomy a b with h | h | h
  · rw [cmpI_lt h]
    go_enter Tryz.func252, Tryz.ntmps252
    go_wp2_with (first | (go_at_call 309; refine (isNaN_i64 _ _).mono ?_; rintro e w1 ⟨rfl, rfl⟩))
    go_ret
    simp
  · subst h
    rw [cmpI_eq rfl]
    go_enter Tryz.func252, Tryz.ntmps252
    go_wp2_with (first | (go_at_call 309; refine (isNaN_i64 _ _).mono ?_; rintro e w1 ⟨rfl, rfl⟩))
    go_ret
    simp
  · rw [cmpI_gt h]
    go_enter Tryz.func252, Tryz.ntmps252
    go_wp2_with (first | (go_at_call 309; refine (isNaN_i64 _ _).mono ?_; rintro e w1 ⟨rfl, rfl⟩))
    go_ret
    simp
theorem or_int (l : List Int) (I : Nat → Prop) (A : Option Addr) (c : Nat) (w : World) (h : Row 1 ((Ty.int .i64).rep I w) I w A l) (hs : l.length ≤ BIG) :
    Calls Tryz.prog 249 #[.slice A l.length c] w fun e w' => e = .returned (.int .i64 (orI l)) ∧ w' = w := by
  have hlen : (l.length : Int) ≤ 9223372036854775807 := by rw [BIG_eq] at hs; omega
  go_enter Tryz.func249, Tryz.ntmps249
  go_wp2_with fail
  go_loopw [8] (fun i wr => ∃ k : Nat, k ≤ l.length ∧ i = .int .i64 k ∧ Hid (orI l = orI (l.drop k)) ∧ wr = w) (fun i _ => l.length - (intOf i).toNat)
  case atStart => exact ⟨0, Nat.zero_le _, rfl, Lib.hid rfl, rfl⟩
  case round =>
    obtain ⟨k, hk, rfl, HN, rfl⟩ := hrel
    by_cases hlt : k < l.length
    · obtain ⟨x, hx, hxm⟩ := get_some hlt
      obtain ⟨b, off, cs, rfl, hIb, hbl, hcs, hat⟩ := h.get hx
      obtain rfl := hcs
      have g0 := hat.one
      simp only [Nat.mul_one] at g0
      have HD := Lib.hid (show l.drop k = x :: l.drop (k + 1) by rw [List.drop_eq_getElem_cons hlt]; rw [List.getElem?_eq_getElem hlt] at hx; injection hx with hx; rw [hx])
      clear hx hat
      by_cases hx0 : x = 0
      · have HS := Lib.hid (show orI l = orI (l.drop (k + 1)) by rw [HN.out, HD.out]; simp [orI, hx0])
        go_wp2_with fail
        go_roundw
        case rel => exact ⟨k + 1, by omega, by go_num, HS, trivial⟩
        case measure => simp [intOf]; omega
      · have HS := Lib.hid (show orI l = x by rw [HN.out, HD.out]; simp [orI, hx0])
        go_wp2_with fail
        go_ret
        exact ⟨by rw [HS.out]; rfl, rfl⟩
    · have HS := Lib.hid (show orI l = 0 by rw [HN.out, List.drop_of_length_le (by omega)]; rfl)
      go_wp2_with fail
      go_ret
      exact ⟨by rw [HS.out]; rfl, rfl⟩
theorem rank_any (k : Int) (w : World) : Calls Tryz.prog 246 #[.int .i64 k] w fun e w' => e = .returned (.int .i64 (V.rank k)) ∧ w' = w := by
  generalize hr : V.rank k = r
  unfold V.rank at hr
  repeat' (split at hr)
  all_goals subst hr
  all_goals
    go_enter Tryz.func246, Tryz.ntmps246
    go_wp2
    go_ret
    simp
theorem fine1_any (v : V) (I : Nat → Prop) (w : World) (cs : List Value) (h : V.ty.rep I w v cs) (hs : v.size + 1 ≤ BIG) (hT : Tabs w) :
    Calls Tryz.prog 244 #[.agg cs.toArray] w fun e w' => e = .returned (.bool (v.check != 0)) ∧ Below w.heap.size w w' := by
  obtain ⟨A1, c1, A2, c2, rfl, h1, h2, h3, h4⟩ := V.rep_open h
  have hc := check_any v I (w.alloc (.cells #[.int .i64 v.kind, .bool v.bool, .int .i64 v.int, .string v.text, .slice A1 v.keys.length c1, .slice A2 v.list.length c2] 26)) _ (V.ty.below (below_alloc' (Below.refl _ _) (Nat.le_refl _) _) h) hs (hT.below (below_alloc' (Below.refl _ _) (Nat.le_refl _) _))
  generalize v.check = r at hc ⊢
  have HC := Lib.hid hc
  clear hc h h1 h2 h3 h4
  go_enter Tryz.func244, Tryz.ntmps244
  go_wp2_with fail
  refine HC.out.mono ?_
  rintro e w1 ⟨rfl, hb1⟩
  go_wp2_with fail
  go_ret
  exact ⟨by simp [bne, BEq.beq], (below_alloc' (Below.refl _ _) (Nat.le_refl _) _).trans (hb1.mono (by simp))⟩
theorem fine_any (l : List V) (I : Nat → Prop) (A : Option Addr) (c : Nat) (w : World) (h : Row 6 (V.ty.rep I w) I w A l) (hl : l.length ≤ BIG) (hs : ∀ v, v ∈ l → v.size + 1 ≤ BIG) (hT : Tabs w) :
    Calls Tryz.prog 177 #[.slice A l.length c] w fun e w' => e = .returned (.bool (l.all fun v => v.check == 0)) ∧ Below w.heap.size w w' := by
  have hc := containsFunc_val 244 #[] (enters_of Tryz.func244 (by kernel_rfl) rfl) (fun v => v.check != 0) l I A c w h hl (fun x hx W cs hB hr => fine1_any x _ W cs hr (hs x hx) (hT.below hB))
  have he : (l.all fun v => v.check == 0) = !(l.any fun v => v.check != 0) := by
    clear hc h hs hl
    induction l with
    | nil => rfl
    | cons x xs ih => simp only [List.all_cons, List.any_cons, Bool.not_or]; rw [ih]; simp [bne]
  have HC := Lib.hid hc
  have HE := Lib.hid he
  clear hc he h
  go_enter Tryz.func177, Tryz.ntmps177
  go_wp2_with fail
  refine HC.out.mono ?_
  rintro e w1 ⟨rfl, hb1⟩
  go_wp2_with fail
  go_ret
  exact ⟨by rw [HE.out]; rfl, hb1⟩
theorem under_mbi : Tryz.prog.underlying 351 = some (.map 4 3) := by kernel_rfl
theorem under_bool : Tryz.prog.underlying 4 = some .bool := by kernel_rfl
theorem under_int : Tryz.prog.underlying 3 = some (.int .i64) := by kernel_rfl
theorem truths_any (a b : Bool) (w : World) : Calls Tryz.prog 247 #[.bool a, .bool b] w fun e w' => e = .returned (.int .i64 (cmpI (truthI a) (truthI b))) ∧ Below w.heap.size w w' := by
  have hmm := @run_makeMap Tryz.prog
  obtain ⟨w2, hr, ho, hg⟩ := (World.ownsMap_made (H := Unit) w Tryz.prog 4 (plainElem Tryz.prog 3)).update (bool_keyed under_bool) under_mbi (by decide) (keyOf_bool_mk under_bool true) (plainElem_int (a := 1) under_int (by decide))
  obtain ⟨x, hx, ha, _⟩ := ho.lookup_int (bool_keyed under_bool) under_mbi under_int (show (zeroValue 3).run Tryz.prog w2 = _ by kernel_rfl) (keyOf_bool_mk under_bool a)
  obtain ⟨y, hy, hb, _⟩ := ho.lookup_int (bool_keyed under_bool) under_mbi under_int (show (zeroValue 3).run Tryz.prog w2 = _ by kernel_rfl) (keyOf_bool_mk under_bool b)
  have ex : x = truthI a := by
    cases a
    · have := (show _ = DataW.lit (.int .i64 0) from rfl).symm.trans ha
      injection this with this; injection this with _ this; exact this.symm
    · have := (show _ = DataW.lit (.int .i64 1) from rfl).symm.trans ha
      injection this with this; injection this with _ this; exact this.symm
  have ey : y = truthI b := by
    cases b
    · have := (show _ = DataW.lit (.int .i64 0) from rfl).symm.trans hb
      injection this with this; injection this with _ this; exact this.symm
    · have := (show _ = DataW.lit (.int .i64 1) from rfl).symm.trans hb
      injection this with this; injection this with _ this; exact this.symm
  have hB : Below w.heap.size w w2 := (below_alloc' (Below.refl _ _) (Nat.le_refl _) _).grown hg (by simp) (fun k hk => by injection hk with hk; omega)
  subst ex ey
  clear ha hb ho hg
  go_enter Tryz.func247, Tryz.ntmps247
  go_wp2_with fail
  refine (cmp_int _ _ _).mono ?_
  rintro e w1 ⟨rfl, rfl⟩
  go_wp2_with fail
  go_ret
  exact ⟨rfl, hB⟩
end Go.Proofs.YtcmahpddjggcaaaGreatDoor
