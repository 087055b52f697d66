/- index: the closures that are handed to search, all, IndexFunc. Printed by wip/gen_clos.py. -/
import Derived.Test.YtcmahpddjggcaaaGreatDoorKSrch
namespace Go.Proofs.YtcmahpddjggcaaaGreatDoor
open Go Go.RowKit
set_option maxHeartbeats 4000000
set_option maxRecDepth 100000

theorem drop1_any (a u : EntD) (I J : Nat → Prop) (w : World) (cs ds : List Value) (n : Nat) (h : EntD.ty.rep I w a cs) (h' : EntD.ty.rep J w u ds) (hn : Blk w n ds 148) (hs : a.val.size + 1 ≤ BIG) (hs' : u.val.size + 1 ≤ BIG) (hT : Tabs w) :
    Calls Tryz.prog 193 #[.agg cs.toArray, .pointer (some ⟨n, 0, none⟩)] w fun e w' => e = .returned (.bool (decide (0 ≤ EntD.before a u))) ∧ Below w.heap.size w w' := by
  have HV := Lib.hid h
  have HV' := Lib.hid h'
  obtain ⟨A1, c1, A2, c2, rfl, _⟩ := EntD.rep_open h
  obtain ⟨B1, d1, B2, d2, rfl, _⟩ := EntD.rep_open h'
  have hB0 := below_alloc' (Below.refl w.heap.size w) (Nat.le_refl _) (.cells #[.int .i64 a.id, .int .i64 a.val.kind, .bool a.val.bool, .int .i64 a.val.int, .string a.val.text, .slice A1 a.val.keys.length c1, .slice A2 a.val.list.length c2] 148)
  have HC := Lib.hid (before_any a u _ _ (w.alloc (.cells #[.int .i64 a.id, .int .i64 a.val.kind, .bool a.val.bool, .int .i64 a.val.int, .string a.val.text, .slice A1 a.val.keys.length c1, .slice A2 a.val.list.length c2] 148)) _ _ (EntD.ty.below hB0 HV.out) (EntD.ty.below hB0 HV'.out) hs hs' (hT.below hB0))
  obtain ⟨q1, q2, q3⟩ := (hn.alloc (.cells #[.int .i64 a.id, .int .i64 a.val.kind, .bool a.val.bool, .int .i64 a.val.int, .string a.val.text, .slice A1 a.val.keys.length c1, .slice A2 a.val.list.length c2] 148)).facts
  obtain ⟨p1, p2, p3⟩ := hn.facts
  generalize EntD.before a u = r at *
  clear h h' HV HV'
  go_enter Tryz.func193, Tryz.ntmps193
  go_wp2_with fail
  refine HC.out.mono ?_
  rintro e w1 ⟨rfl, hb1⟩
  go_wp2_with fail
  go_ret
  exact ⟨rfl, below_call hB0 hB0.size hb1⟩

theorem put2_any (a u : EntD) (I J : Nat → Prop) (w : World) (cs ds : List Value) (n : Nat) (h : EntD.ty.rep I w a cs) (h' : EntD.ty.rep J w u ds) (hn : Blk w n ds 148) (hs : a.val.size + 1 ≤ BIG) (hs' : u.val.size + 1 ≤ BIG) (hT : Tabs w) :
    Calls Tryz.prog 191 #[.agg cs.toArray, .pointer (some ⟨n, 0, none⟩)] w fun e w' => e = .returned (.bool (decide (0 ≤ EntD.before a u))) ∧ Below w.heap.size w w' := by
  have HV := Lib.hid h
  have HV' := Lib.hid h'
  obtain ⟨A1, c1, A2, c2, rfl, _⟩ := EntD.rep_open h
  obtain ⟨B1, d1, B2, d2, rfl, _⟩ := EntD.rep_open h'
  have hB0 := below_alloc' (Below.refl w.heap.size w) (Nat.le_refl _) (.cells #[.int .i64 a.id, .int .i64 a.val.kind, .bool a.val.bool, .int .i64 a.val.int, .string a.val.text, .slice A1 a.val.keys.length c1, .slice A2 a.val.list.length c2] 148)
  have HC := Lib.hid (before_any a u _ _ (w.alloc (.cells #[.int .i64 a.id, .int .i64 a.val.kind, .bool a.val.bool, .int .i64 a.val.int, .string a.val.text, .slice A1 a.val.keys.length c1, .slice A2 a.val.list.length c2] 148)) _ _ (EntD.ty.below hB0 HV.out) (EntD.ty.below hB0 HV'.out) hs hs' (hT.below hB0))
  obtain ⟨q1, q2, q3⟩ := (hn.alloc (.cells #[.int .i64 a.id, .int .i64 a.val.kind, .bool a.val.bool, .int .i64 a.val.int, .string a.val.text, .slice A1 a.val.keys.length c1, .slice A2 a.val.list.length c2] 148)).facts
  obtain ⟨p1, p2, p3⟩ := hn.facts
  generalize EntD.before a u = r at *
  clear h h' HV HV'
  go_enter Tryz.func191, Tryz.ntmps191
  go_wp2_with fail
  refine HC.out.mono ?_
  rintro e w1 ⟨rfl, hb1⟩
  go_wp2_with fail
  go_ret
  exact ⟨rfl, below_call hB0 hB0.size hb1⟩

theorem seek1_any (a : EntD) (v : V) (I J : Nat → Prop) (w : World) (cs ds : List Value) (n : Nat) (h : EntD.ty.rep I w a cs) (h' : V.ty.rep J w v ds) (hn : Blk w n ds 26) (hs : a.val.size + 1 ≤ BIG) (hs' : v.size + 1 ≤ BIG) (hT : Tabs w) :
    Calls Tryz.prog 80 #[.agg cs.toArray, .pointer (some ⟨n, 0, none⟩)] w fun e w' => e = .returned (.bool (decide (0 ≤ V.Cmp a.val v))) ∧ Below w.heap.size w w' := by
  have HV' := Lib.hid h'
  obtain ⟨A1, c1, A2, c2, rfl, hv⟩ := EntD.rep_open h
  obtain ⟨B1, d1, B2, d2, rfl, _⟩ := V.rep_open h'
  have hB0 := below_alloc' (Below.refl w.heap.size w) (Nat.le_refl _) (.cells #[.int .i64 a.id, .int .i64 a.val.kind, .bool a.val.bool, .int .i64 a.val.int, .string a.val.text, .slice A1 a.val.keys.length c1, .slice A2 a.val.list.length c2] 148)
  have HC := Lib.hid (Compare_any a.val v _ _ (w.alloc (.cells #[.int .i64 a.id, .int .i64 a.val.kind, .bool a.val.bool, .int .i64 a.val.int, .string a.val.text, .slice A1 a.val.keys.length c1, .slice A2 a.val.list.length c2] 148)) _ _ (V.ty.below hB0 hv) (V.ty.below hB0 HV'.out) hs hs' (hT.below hB0))
  obtain ⟨q1, q2, q3⟩ := (hn.alloc (.cells #[.int .i64 a.id, .int .i64 a.val.kind, .bool a.val.bool, .int .i64 a.val.int, .string a.val.text, .slice A1 a.val.keys.length c1, .slice A2 a.val.list.length c2] 148)).facts
  obtain ⟨p1, p2, p3⟩ := hn.facts
  generalize V.Cmp a.val v = r at *
  clear h h' HV' hv
  go_enter Tryz.func80, Tryz.ntmps80
  go_wp2_with fail
  refine HC.out.mono ?_
  rintro e w1 ⟨rfl, hb1⟩
  go_wp2_with fail
  go_ret
  exact ⟨rfl, below_call hB0 hB0.size hb1⟩

/-- What the closure asks of a value. -/
def V.lessOr (v : V) (or : Bool) (o : V) : Bool := V.Less o v == 2 || or && V.Equal o v == 2
theorem below1_any (o v : V) (or : Bool) (I J : Nat → Prop) (w : World) (cs ds : List Value) (n m : Nat) (h : V.ty.rep I w o cs) (h' : V.ty.rep J w v ds) (hn : Blk w n ds 26) (hm : Blk w m [.bool or] 4) (hs : o.size + 1 ≤ BIG) (hs' : v.size + 1 ≤ BIG) (hT : Tabs w) :
    Calls Tryz.prog 84 #[.agg cs.toArray, .pointer (some ⟨n, 0, none⟩), .pointer (some ⟨m, 0, none⟩)] w fun e w' => e = .returned (.bool (V.lessOr v or o)) ∧ Below w.heap.size w w' := by
  have HV := Lib.hid h
  have HV' := Lib.hid h'
  obtain ⟨A1, c1, A2, c2, rfl, _⟩ := V.rep_open h
  obtain ⟨B1, d1, B2, d2, rfl, _⟩ := V.rep_open h'
  have hB0 := below_alloc' (Below.refl w.heap.size w) (Nat.le_refl _) (.cells #[.int .i64 o.kind, .bool o.bool, .int .i64 o.int, .string o.text, .slice A1 o.keys.length c1, .slice A2 o.list.length c2] 26)
  have HC := Lib.hid (Less_any o v _ _ (w.alloc (.cells #[.int .i64 o.kind, .bool o.bool, .int .i64 o.int, .string o.text, .slice A1 o.keys.length c1, .slice A2 o.list.length c2] 26)) _ _ (V.ty.below hB0 HV.out) (V.ty.below hB0 HV'.out) hs hs' (hT.below hB0))
  have HQ := Lib.hid (fun W (hW : Below (w.alloc (.cells #[.int .i64 o.kind, .bool o.bool, .int .i64 o.int, .string o.text, .slice A1 o.keys.length c1, .slice A2 o.list.length c2] 26)).heap.size (w.alloc (.cells #[.int .i64 o.kind, .bool o.bool, .int .i64 o.int, .string o.text, .slice A1 o.keys.length c1, .slice A2 o.list.length c2] 26)) W) => Equal_any o v _ _ W _ _ (V.ty.below hW (V.ty.below hB0 HV.out)) (V.ty.below hW (V.ty.below hB0 HV'.out)) hs hs' ((hT.below hB0).below hW))
  have b0 := Blk.new w [.int .i64 o.kind, .bool o.bool, .int .i64 o.int, .string o.text, .slice A1 o.keys.length c1, .slice A2 o.list.length c2] 26
  have b1 := hn.alloc (.cells #[.int .i64 o.kind, .bool o.bool, .int .i64 o.int, .string o.text, .slice A1 o.keys.length c1, .slice A2 o.list.length c2] 26)
  have b2 := hm.alloc (.cells #[.int .i64 o.kind, .bool o.bool, .int .i64 o.int, .string o.text, .slice A1 o.keys.length c1, .slice A2 o.list.length c2] 26)
  obtain ⟨q1, q2, q3⟩ := b1.facts
  obtain ⟨p1, p2, p3⟩ := hn.facts
  have HE := Lib.hid (show V.lessOr v or o = (V.Less o v == 2 || or && V.Equal o v == 2) from rfl)
  generalize V.lessOr v or o = r at *
  generalize V.Less o v = ls at *
  generalize V.Equal o v = eq at *
  clear h h' HV HV' hn hm
  by_cases hl : ls = 2
  · have HT := Lib.hid (show r = true by rw [HE.out, hl]; rfl)
    have l1 : (ls == 2) = true := by simpa using hl
    have l2 : ls ≤ 2 := by omega
    have l3 : 2 ≤ ls := by omega
    clear hl
    go_enter Tryz.func84, Tryz.ntmps84
    go_wp2_with fail
    refine HC.out.mono ?_
    rintro e w1 ⟨rfl, hb1⟩
    go_wp2_with fail
    go_ret
    exact ⟨by rw [HT.out]; rfl, below_call hB0 hB0.size hb1⟩
  have l1 : (ls == 2) = false := by simpa using hl
  cases or with
  | false =>
    have HT := Lib.hid (show r = false by rw [HE.out, l1]; rfl)
    go_enter Tryz.func84, Tryz.ntmps84
    go_wp2_with fail
    refine HC.out.mono ?_
    rintro e w1 ⟨rfl, hb1⟩
    obtain ⟨z1, z2, z3⟩ := (b2.below hb1).facts
    go_wp2_with fail
    go_ret
    exact ⟨by rw [HT.out]; rfl, below_call hB0 hB0.size hb1⟩
  | true =>
    by_cases he : eq = 2
    · have HT := Lib.hid (show r = true by rw [HE.out, l1, he]; rfl)
      have e1 : (eq == 2) = true := by simpa using he
      have e2 : eq ≤ 2 := by omega
      have e3 : 2 ≤ eq := by omega
      clear he
      go_enter Tryz.func84, Tryz.ntmps84
      go_wp2_with fail
      refine HC.out.mono ?_
      rintro e w1 ⟨rfl, hb1⟩
      obtain ⟨z1, z2, z3⟩ := (b2.below hb1).facts
      obtain ⟨y1, y2, y3⟩ := (b1.below hb1).facts
      obtain ⟨x1, x2, x3⟩ := (b0.below hb1).facts
      have hB1 := below_call hB0 hB0.size hb1
      have HQ1 := Lib.hid (HQ.out _ hb1)
      clear hb1
      go_wp2_with fail
      refine HQ1.out.mono ?_
      rintro e w2 ⟨rfl, hb2⟩
      go_wp2_with fail
      go_ret
      exact ⟨by rw [HT.out]; rfl, below_call hB1 hB1.size hb2⟩
    · have e1 : (eq == 2) = false := by simpa using he
      have HT := Lib.hid (show r = false by rw [HE.out, l1, e1]; rfl)
      go_enter Tryz.func84, Tryz.ntmps84
      go_wp2_with fail
      refine HC.out.mono ?_
      rintro e w1 ⟨rfl, hb1⟩
      obtain ⟨z1, z2, z3⟩ := (b2.below hb1).facts
      obtain ⟨y1, y2, y3⟩ := (b1.below hb1).facts
      obtain ⟨x1, x2, x3⟩ := (b0.below hb1).facts
      have hB1 := below_call hB0 hB0.size hb1
      have HQ1 := Lib.hid (HQ.out _ hb1)
      clear hb1
      go_wp2_with fail
      refine HQ1.out.mono ?_
      rintro e w2 ⟨rfl, hb2⟩
      go_wp2_with fail
      go_ret
      exact ⟨by rw [HT.out]; rfl, below_call hB1 hB1.size hb2⟩

/-- What the closure asks of a value. -/
def V.moreOr (v : V) (or : Bool) (o : V) : Bool := V.Less v o == 2 || or && V.Equal o v == 2
theorem above1_any (o v : V) (or : Bool) (I J : Nat → Prop) (w : World) (cs ds : List Value) (n m : Nat) (h : V.ty.rep I w o cs) (h' : V.ty.rep J w v ds) (hn : Blk w n ds 26) (hm : Blk w m [.bool or] 4) (hs : o.size + 1 ≤ BIG) (hs' : v.size + 1 ≤ BIG) (hT : Tabs w) :
    Calls Tryz.prog 86 #[.agg cs.toArray, .pointer (some ⟨n, 0, none⟩), .pointer (some ⟨m, 0, none⟩)] w fun e w' => e = .returned (.bool (V.moreOr v or o)) ∧ Below w.heap.size w w' := by
  have HV := Lib.hid h
  have HV' := Lib.hid h'
  obtain ⟨A1, c1, A2, c2, rfl, _⟩ := V.rep_open h
  obtain ⟨B1, d1, B2, d2, rfl, _⟩ := V.rep_open h'
  have hB0 := below_alloc' (Below.refl w.heap.size w) (Nat.le_refl _) (.cells #[.int .i64 o.kind, .bool o.bool, .int .i64 o.int, .string o.text, .slice A1 o.keys.length c1, .slice A2 o.list.length c2] 26)
  have HC := Lib.hid (Less_any v o _ _ (w.alloc (.cells #[.int .i64 o.kind, .bool o.bool, .int .i64 o.int, .string o.text, .slice A1 o.keys.length c1, .slice A2 o.list.length c2] 26)) _ _ (V.ty.below hB0 HV'.out) (V.ty.below hB0 HV.out) hs' hs (hT.below hB0))
  have HQ := Lib.hid (fun W (hW : Below (w.alloc (.cells #[.int .i64 o.kind, .bool o.bool, .int .i64 o.int, .string o.text, .slice A1 o.keys.length c1, .slice A2 o.list.length c2] 26)).heap.size (w.alloc (.cells #[.int .i64 o.kind, .bool o.bool, .int .i64 o.int, .string o.text, .slice A1 o.keys.length c1, .slice A2 o.list.length c2] 26)) W) => Equal_any o v _ _ W _ _ (V.ty.below hW (V.ty.below hB0 HV.out)) (V.ty.below hW (V.ty.below hB0 HV'.out)) hs hs' ((hT.below hB0).below hW))
  have b0 := Blk.new w [.int .i64 o.kind, .bool o.bool, .int .i64 o.int, .string o.text, .slice A1 o.keys.length c1, .slice A2 o.list.length c2] 26
  have b1 := hn.alloc (.cells #[.int .i64 o.kind, .bool o.bool, .int .i64 o.int, .string o.text, .slice A1 o.keys.length c1, .slice A2 o.list.length c2] 26)
  have b2 := hm.alloc (.cells #[.int .i64 o.kind, .bool o.bool, .int .i64 o.int, .string o.text, .slice A1 o.keys.length c1, .slice A2 o.list.length c2] 26)
  obtain ⟨q1, q2, q3⟩ := b1.facts
  obtain ⟨p1, p2, p3⟩ := hn.facts
  have HE := Lib.hid (show V.moreOr v or o = (V.Less v o == 2 || or && V.Equal o v == 2) from rfl)
  generalize V.moreOr v or o = r at *
  generalize V.Less v o = ls at *
  generalize V.Equal o v = eq at *
  clear h h' HV HV' hn hm
  by_cases hl : ls = 2
  · have HT := Lib.hid (show r = true by rw [HE.out, hl]; rfl)
    have l1 : (ls == 2) = true := by simpa using hl
    have l2 : ls ≤ 2 := by omega
    have l3 : 2 ≤ ls := by omega
    clear hl
    go_enter Tryz.func86, Tryz.ntmps86
    go_wp2_with fail
    refine HC.out.mono ?_
    rintro e w1 ⟨rfl, hb1⟩
    go_wp2_with fail
    go_ret
    exact ⟨by rw [HT.out]; rfl, below_call hB0 hB0.size hb1⟩
  have l1 : (ls == 2) = false := by simpa using hl
  cases or with
  | false =>
    have HT := Lib.hid (show r = false by rw [HE.out, l1]; rfl)
    go_enter Tryz.func86, Tryz.ntmps86
    go_wp2_with fail
    refine HC.out.mono ?_
    rintro e w1 ⟨rfl, hb1⟩
    obtain ⟨z1, z2, z3⟩ := (b2.below hb1).facts
    go_wp2_with fail
    go_ret
    exact ⟨by rw [HT.out]; rfl, below_call hB0 hB0.size hb1⟩
  | true =>
    by_cases he : eq = 2
    · have HT := Lib.hid (show r = true by rw [HE.out, l1, he]; rfl)
      have e1 : (eq == 2) = true := by simpa using he
      have e2 : eq ≤ 2 := by omega
      have e3 : 2 ≤ eq := by omega
      clear he
      go_enter Tryz.func86, Tryz.ntmps86
      go_wp2_with fail
      refine HC.out.mono ?_
      rintro e w1 ⟨rfl, hb1⟩
      obtain ⟨z1, z2, z3⟩ := (b2.below hb1).facts
      obtain ⟨y1, y2, y3⟩ := (b1.below hb1).facts
      obtain ⟨x1, x2, x3⟩ := (b0.below hb1).facts
      have hB1 := below_call hB0 hB0.size hb1
      have HQ1 := Lib.hid (HQ.out _ hb1)
      clear hb1
      go_wp2_with fail
      refine HQ1.out.mono ?_
      rintro e w2 ⟨rfl, hb2⟩
      go_wp2_with fail
      go_ret
      exact ⟨by rw [HT.out]; rfl, below_call hB1 hB1.size hb2⟩
    · have e1 : (eq == 2) = false := by simpa using he
      have HT := Lib.hid (show r = false by rw [HE.out, l1, e1]; rfl)
      go_enter Tryz.func86, Tryz.ntmps86
      go_wp2_with fail
      refine HC.out.mono ?_
      rintro e w1 ⟨rfl, hb1⟩
      obtain ⟨z1, z2, z3⟩ := (b2.below hb1).facts
      obtain ⟨y1, y2, y3⟩ := (b1.below hb1).facts
      obtain ⟨x1, x2, x3⟩ := (b0.below hb1).facts
      have hB1 := below_call hB0 hB0.size hb1
      have HQ1 := Lib.hid (HQ.out _ hb1)
      clear hb1
      go_wp2_with fail
      refine HQ1.out.mono ?_
      rintro e w2 ⟨rfl, hb2⟩
      go_wp2_with fail
      go_ret
      exact ⟨by rw [HT.out]; rfl, below_call hB1 hB1.size hb2⟩
end Go.Proofs.YtcmahpddjggcaaaGreatDoor
