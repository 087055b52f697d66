/- value.bare, value.may: what a value alone may be. -/
import Derived.Test.YtcmahpddjggcaaaGreatDoorKShelfT
import Derived.WalkLawsBesides
namespace Go.Proofs.YtcmahpddjggcaaaGreatDoor
open Go Go.RowKit
set_option maxHeartbeats 400000
set_option maxRecDepth 100000

theorem Tabs.below {w w' : World} (h : Tabs w) (hb : Below w.heap.size w w') : Tabs w' := by
  refine ⟨fun c hc => ?_, fun i hi => ?_⟩
  · exact (hb.cell (World.block_lt_of_cell? w _ (h.1 c hc))).trans (h.1 c hc)
  · exact ⟨(hb.cell (World.block_lt_of_cell? w _ (h.2 i hi).1)).trans (h.2 i hi).1, (hb.cell (World.block_lt_of_cell? w _ (h.2 i hi).2)).trans (h.2 i hi).2⟩

/-- Whether a value alone has just what its kind uses. -/
def vBare (k : Int) (b : Bool) (n : Int) (t : ByteArray) (nk nl : Nat) : Bool :=
  (k == 1 || !b) && (k == 6 || k == 7 || k == 2 || n == 0) && (k == 3 || t.toList.isEmpty) && (k == 5 || nk == 0) && (k == 5 || k == 4 || nl == 0) && (0 ≤ k && k ≤ 7) && !((k == 6 || k == 7) && n < 0)

theorem bare_any (k : Int) (b : Bool) (n : Int) (t : ByteArray) (A1 : Option Addr) (n1 c1 : Nat) (A2 : Option Addr) (n2 c2 : Nat) (w : World) :
    Calls Tryz.prog 255 #[.agg #[.int .i64 k, .bool b, .int .i64 n, .string t, .slice A1 n1 c1, .slice A2 n2 c2]] w fun e w' => e = .returned (.bool (vBare k b n t n1 n2)) ∧ Below w.heap.size w w' := by
  go_enter Tryz.func255, Tryz.ntmps255
  go_wp2
  go_quiet (fail)
  go_wp2
  all_goals
    go_ret
    refine ⟨?_, below_drewN ((Below.refl _ _).alloc (Nat.le_refl _) _) _⟩
    simp_all [vBare]
    try (rw [Bool.eq_iff_iff]; simp; omega)
    try omega
end Go.Proofs.YtcmahpddjggcaaaGreatDoor
/- value.may: what a value alone may be. -/
namespace Go.Proofs.YtcmahpddjggcaaaGreatDoor
open Go Go.RowKit
set_option maxHeartbeats 400000
set_option maxRecDepth 100000

def kAt (ks : List ByteArray) (i : Nat) : ByteArray := ks.getD i ⟨#[]⟩
def keyOk (ks : List ByteArray) (i : Nat) : Bool := Lib.validD (kAt ks i).data.toList && (i == 0 || Op.bytesLess (kAt ks (i - 1)).toList (kAt ks i).toList)
def keysOk (ks : List ByteArray) : Bool := (List.range ks.length).all (keyOk ks)
def V.may (v : V) : Bool := vBare v.kind v.bool v.int v.text v.keys.length v.list.length && Lib.validD v.text.data.toList && !(v.kind == 5 && v.keys.length != v.list.length) && keysOk v.keys

theorem row_str {I : Nat → Prop} {w : World} {A : Option Addr} {ks : List ByteArray} (h : Row 1 (Ty.str.rep I w) I w A ks) {k : Nat} (hk : k < ks.length) : ∃ b off, A = some ⟨b, off, none⟩ ∧ b < w.heap.size ∧ w.cell? ⟨b, off + k, none⟩ = some (.string (kAt ks k)) := by
  obtain ⟨b, off, cs, hA, _, hl, rfl, hat⟩ := h.get (List.getElem?_eq_getElem hk)
  refine ⟨b, off, hA, hl, ?_⟩
  have := hat.one
  rw [Nat.mul_one] at this
  rw [this, kAt, List.getD_eq_getElem?_getD, List.getElem?_eq_getElem hk]; rfl

theorem may_keys_true {ks : List ByteArray} {k : Nat} (h : ∀ j, j < k → keyOk ks j = true) (hk : k = ks.length) : keysOk ks = true := by
  simp only [keysOk, List.all_eq_true, List.mem_range]
  intro j hj
  exact h j (by omega)
theorem may_keys_false {ks : List ByteArray} {k : Nat} (h : keyOk ks k = false) (hk : k < ks.length) : keysOk ks = false := by
  rw [Bool.eq_false_iff]
  intro ha
  simp only [keysOk, List.all_eq_true, List.mem_range] at ha
  rw [ha k hk] at h
  cases h

theorem may_any (v : V) (I : Nat → Prop) (w : World) (cs : List Value) (h : V.ty.rep I w v cs) (hs : v.size ≤ BIG) (hT : Tabs w) :
    Calls Tryz.prog 182 #[.agg cs.toArray] w fun e w' => e = .returned (.bool v.may) ∧ Below w.heap.size w w' := by
  obtain ⟨k, bo, n, t, ks, l⟩ := v
  obtain ⟨A1, c1, A2, c2, rfl, h1, h2, h3, h4⟩ := V.rep_open h
  simp only [V.may, V.kind, V.bool, V.int, V.text, V.keys, V.list] at h1 h2 h3 h4 ⊢
  rw [V.size_eq] at hs
  have hks := V.sumBy_len (f := fun s : ByteArray => 1 + s.size) (fun _ => by omega) ks
  have hkm : ∀ s, s ∈ ks → s.size ≤ BIG := fun s hm => by have := V.sumBy_mem (f := fun s : ByteArray => 1 + s.size) hm; omega
  have hlen : (ks.length : Int) ≤ 9223372036854775807 := by rw [BIG_eq] at hs; omega
  have hb0 := bare_any k bo n t A1 ks.length c1 A2 l.length c2 (w.alloc (.cells #[.int .i64 k, .bool bo, .int .i64 n, .string t, .slice A1 ks.length c1, .slice A2 l.length c2] 26))
  have x0 := Blk.new w [.int .i64 k, .bool bo, .int .i64 n, .string t, .slice A1 ks.length c1, .slice A2 l.length c2] 26
  have hBa := below_alloc' (Below.refl w.heap.size w) (Nat.le_refl _) (.cells #[.int .i64 k, .bool bo, .int .i64 n, .string t, .slice A1 ks.length c1, .slice A2 l.length c2] 26)
  have ht : t.size ≤ BIG := by omega
  have hv := fun W (hW : Tabs W) => valid_any t W ht hW
  have hvk : ∀ j, j < ks.length → ∀ W, Tabs W → Calls Tryz.prog 196 #[.string (kAt ks j)] W fun e w' => e = .returned (.bool (Lib.validD (kAt ks j).data.toList)) ∧ Below W.heap.size W w' := fun j hj W hW =>
    valid_any _ W (by rw [kAt, List.getD_eq_getElem?_getD, List.getElem?_eq_getElem hj]; exact hkm _ (List.getElem_mem hj)) hW
  have hK1 : ∀ j, j < ks.length → ∃ b off, A1 = some ⟨b, off, none⟩ ∧ b < w.heap.size ∧ w.cell? ⟨b, off + j, none⟩ = some (.string (kAt ks j)) := fun j hj => row_str h3 hj
  generalize vBare k bo n t ks.length l.length = r at hb0 ⊢
  generalize Lib.validD t.data.toList = q at hv ⊢
  have HB0 := Lib.hid hb0
  have HV := Lib.hid hv
  have HK := Lib.hid hvk
  have HK1 := Lib.hid hK1
  clear hb0 hs hks h4 h2 hv hvk h h3 hK1 hkm
  cases r with
  | false =>
    go_enter Tryz.func182, Tryz.ntmps182
    go_wp2_with fail
    refine HB0.out.mono ?_
    rintro e w1 ⟨rfl, hb1⟩
    go_wp2_with fail
    go_ret
    exact ⟨by simp, below_call hBa (by simp) hb1⟩
  | true =>
    cases q with
    | false =>
      go_enter Tryz.func182, Tryz.ntmps182
      go_wp2_with fail
      refine HB0.out.mono ?_
      rintro e w1 ⟨rfl, hb1⟩
      have hB1 := below_call hBa (by simp) hb1
      obtain ⟨y1, z1⟩ := (x0.below hb1).rd
      go_wp2_with fail
      refine (HV.out _ (hT.below hB1)).mono ?_
      rintro e w2 ⟨rfl, hb2⟩
      go_wp2_with fail
      go_ret
      exact ⟨by simp, below_call hB1 hB1.size hb2⟩
    | true =>
      by_cases hd : k = 5 ∧ ks.length ≠ l.length
      · obtain ⟨rfl, hd2⟩ := hd
        have hd3 : ((ks.length : Int) != (l.length : Int)) = true := by rw [bne_iff_ne]; omega
        go_enter Tryz.func182, Tryz.ntmps182
        go_wp2_with fail
        refine HB0.out.mono ?_
        rintro e w1 ⟨rfl, hb1⟩
        have hB1 := below_call hBa (by simp) hb1
        obtain ⟨y1, z1⟩ := (x0.below hb1).rd
        go_wp2_with fail
        refine (HV.out _ (hT.below hB1)).mono ?_
        rintro e w2 ⟨rfl, hb2⟩
        obtain ⟨y2, z2⟩ := ((x0.below hb1).below hb2).rd
        go_wp2_with fail
        go_ret
        refine ⟨?_, below_call hB1 hB1.size hb2⟩
        have : (ks.length != l.length) = true := by rw [bne_iff_ne]; exact hd2
        simp [this]
      · have hd' : (!(k == 5 && ks.length != l.length)) = true := by
          rw [Bool.not_eq_true', Bool.and_eq_false_iff]
          by_cases h5 : k = 5
          · right; rw [bne_eq_false_iff_eq]; by_cases hh : ks.length = l.length; exact hh; exact absurd ⟨h5, hh⟩ hd
          · left; rw [beq_eq_false_iff_ne]; exact h5
        have e5 : ((k == 5) = false) ∨ ((k == 5) = true ∧ ((ks.length : Int) != (l.length : Int)) = false) := by
          by_cases h5 : k = 5
          · right; refine ⟨by rw [beq_iff_eq]; exact h5, ?_⟩; rw [bne_eq_false_iff_eq]; by_cases hh : ks.length = l.length; omega; exact absurd ⟨h5, hh⟩ hd
          · left; rw [beq_eq_false_iff_ne]; exact h5
        rw [hd']
        simp only [Bool.true_and]
        generalize hKO : keysOk ks = ko
        have HKO := Lib.hid hKO
        clear hd hd' hKO
        rcases e5 with e5 | ⟨e5, e6⟩
        all_goals
          go_enter Tryz.func182, Tryz.ntmps182
          go_wp2_with fail
          refine HB0.out.mono ?_
          rintro e w1 ⟨rfl, hb1⟩
          have hB1 := below_call hBa (by simp) hb1
          obtain ⟨y1, z1⟩ := (x0.below hb1).rd
          go_wp2_with fail
          refine (HV.out _ (hT.below hB1)).mono ?_
          rintro e w2 ⟨rfl, hb2⟩
          have x2 := (x0.below hb1).below hb2
          have hB2 := below_call hB1 hB1.size hb2
          obtain ⟨y2, z2⟩ := x2.rd
          clear hb1 hb2 y1 z1
          go_wp2_with fail
          go_loopw [31] (fun i wr => ∃ j : Nat, j ≤ ks.length ∧ i = .int .i64 j ∧ Hid (∀ m, m < j → keyOk ks m = true) ∧ Blk wr w.heap.size [.int .i64 k, .bool bo, .int .i64 n, .string t, .slice A1 ks.length c1, .slice A2 l.length c2] 26 ∧ Below w.heap.size w wr) (fun i _ => ks.length - (intOf i).toNat)
          case atStart => exact ⟨0, Nat.zero_le _, rfl, Lib.hid (fun m hm => by omega), x2, hB2⟩
          case round =>
            obtain ⟨j, hj, rfl, HP, x3, hB3⟩ := hrel
            by_cases hlt : j < ks.length
            · obtain ⟨b, off, rfl, hbl, hcell⟩ := HK1.out j hlt
              have hc3 := (hB3.cell (p := ⟨b, off + j, none⟩) hbl).trans hcell
              have hv3 := HK.out j hlt wr (hT.below hB3)
              have hko : keyOk ks j = (Lib.validD (kAt ks j).data.toList && (j == 0 || Op.bytesLess (kAt ks (j - 1)).toList (kAt ks j).toList)) := rfl
              generalize Lib.validD (kAt ks j).data.toList = q at hv3 hko
              have HV3 := Lib.hid hv3
              have HKJ := Lib.hid hko
              clear hv3 hko hcell
              cases q with
              | false =>
                go_wp2_with fail
                refine HV3.out.mono ?_
                rintro e w4 ⟨rfl, hb4⟩
                go_wp2_with fail
                go_ret
                exact ⟨by rw [← HKO.out, may_keys_false (by rw [HKJ.out]; rfl) hlt]; rfl, below_call hB3 hB3.size hb4⟩
              | true =>
                cases j with
                | zero =>
                  have hP' := Lib.hid (show ∀ m, m < 0 + 1 → keyOk ks m = true from fun m hm => by obtain rfl : m = 0 := by omega
                                                                                                   rw [HKJ.out]; rfl)
                  simp only [Nat.add_zero] at hc3
                  go_wp2_with fail
                  refine HV3.out.mono ?_
                  rintro e w4 ⟨rfl, hb4⟩
                  go_wp2_with fail
                  go_roundw
                  case rel => exact ⟨1, by omega, by go_num, hP', x3.below hb4, below_call hB3 hB3.size hb4⟩
                  case measure => simp [intOf]; omega
                | succ m =>
                  obtain ⟨b', off', hA', hbl', hcell'⟩ := HK1.out m (by omega)
                  simp only [Option.some.injEq, Addr.mk.injEq, and_true] at hA'
                  obtain ⟨rfl, rfl⟩ := hA'
                  have hlm : m < ks.length := by omega
                  simp only [Nat.add_sub_cancel] at HKJ
                  generalize hlts : Op.bytesLess (kAt ks m).toList (kAt ks (m + 1)).toList = lt at HKJ
                  cases lt with
                  | true =>
                    have hP' := Lib.hid (show ∀ i, i < m + 1 + 1 → keyOk ks i = true from fun i hi => by
                      rcases Nat.lt_or_ge i (m + 1) with h | h
                      · exact HP.out i h
                      · obtain rfl : i = m + 1 := by omega
                        rw [HKJ.out]; simp)
                    go_wp2_with fail
                    refine HV3.out.mono ?_
                    rintro e w4 ⟨rfl, hb4⟩
                    have hB4 := below_call hB3 hB3.size hb4
                    have hc4 := (hB4.cell (p := ⟨b, off + m, none⟩) hbl').trans hcell'
                    obtain ⟨y4, z4⟩ := (x3.below hb4).rd
                    go_wp2_with fail
                    go_roundw
                    case rel => exact ⟨m + 1 + 1, by omega, by go_num, hP', x3.below hb4, hB4⟩
                    case measure => simp [intOf]; omega
                  | false =>
                    have hF := Lib.hid (may_keys_false (k := m + 1) (ks := ks) (by rw [HKJ.out]; simp) hlt)
                    go_wp2_with fail
                    refine HV3.out.mono ?_
                    rintro e w4 ⟨rfl, hb4⟩
                    have hB4 := below_call hB3 hB3.size hb4
                    have hc4 := (hB4.cell (p := ⟨b, off + m, none⟩) hbl').trans hcell'
                    obtain ⟨y4, z4⟩ := (x3.below hb4).rd
                    go_wp2_with fail
                    go_ret
                    exact ⟨by rw [← HKO.out, hF.out]; rfl, hB4⟩
            · have hjl : j = ks.length := by omega
              have HT := Lib.hid (may_keys_true HP.out hjl)
              clear hjl
              go_wp2_with fail
              go_ret
              exact ⟨by rw [← HKO.out, HT.out]; rfl, hB3⟩
end Go.Proofs.YtcmahpddjggcaaaGreatDoor
