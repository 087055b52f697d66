/- value.Check: whether a value may be, a panic inside caught inside. -/
import Derived.Test.YtcmahpddjggcaaaGreatDoorKVal4
import Derived.RecoverIn
namespace Go.Proofs.YtcmahpddjggcaaaGreatDoor
open Go Go.RowKit
set_option maxHeartbeats 1000000
set_option maxRecDepth 100000
attribute [local go_sem] Oper.semAt_some

theorem check1_panic (n r : Nat) (w : World) (x : Int) (hr : Blk w r [.int .i64 x] 45) :
    CallsDIn Fence.wide n Tryz.prog 180 #[.pointer (some ⟨r, 0, none⟩)] (.panicking [{ v := .iface 250 (.agg #[]), recovered := false }]) w fun e u' w' =>
      e = .returned (.tuple #[]) ∧ u' = .panicking [{ v := .iface 250 (.agg #[]), recovered := true }] ∧ w' = (w.setCell ⟨r, 0, none⟩ (.int .i64 3)).alloc (.cells #[] 250) := by
  obtain ⟨y, z, hl⟩ := hr.facts
  have ha : ∀ (v : Value) (w : World), (Instr.typeAssert (.iface 250 v) 20 250 true).run Tryz.prog w = .ok (.tuple #[v, .bool true]) w := fun v w => by kernel_rfl
  refine callsDIn_of_wpSIn Tryz.func180 rfl trivial fun c₀ cs hu => ?_
  apply wpSIn_seq
  apply wpSIn_region
  simp [wpOpsSIn, go_sem, recoverD, hu, Tryz.ntmps180, Exit.thenS]
  refine wpSIn_of_wpIn rfl ?_
  have hfr : (#[Value.pointer (some ⟨r, 0, none⟩)] ++ (Array.replicate 9 undef).setIfInBounds 3 (Value.iface 250 (Value.agg #[]))) = #[.pointer (some ⟨r, 0, none⟩), undef, undef, undef, .iface 250 (.agg #[]), undef, undef, undef, undef, undef] := rfl
  rw [hfr]
  gi_wp2
  simp [bodyPostS, results, Tryz.results180, go_sem]

theorem check1_ret (n r : Nat) (w : World) :
    CallsDIn Fence.wide n Tryz.prog 180 #[.pointer (some ⟨r, 0, none⟩)] .returning w fun e u' w' => e = .returned (.tuple #[]) ∧ u' = .returning ∧ w' = w := by
  refine callsDIn_of_wpSIn Tryz.func180 rfl trivial fun c₀ cs hu => ?_
  apply wpSIn_seq
  apply wpSIn_region
  simp [wpOpsSIn, go_sem, recoverD, hu, Tryz.ntmps180, Exit.thenS]
  refine wpSIn_of_wpIn rfl ?_
  have hfr : (#[Value.pointer (some ⟨r, 0, none⟩)] ++ (Array.replicate 9 undef).setIfInBounds 3 Value.nilIface) = #[.pointer (some ⟨r, 0, none⟩), undef, undef, undef, .nilIface, undef, undef, undef, undef, undef] := rfl
  rw [hfr]
  gi_wp2
  cases c₀
  simp_all [bodyPostS, results, Tryz.results180, go_sem]
/-- How many bytes a value alone has, as Check counts them. -/
def V.bytes (v : V) : Nat := v.text.size + V.sumBy (fun s => s.size) v.keys
/-- Check's two sums, a round on. -/
def V.step (s : Nat × Bool) (p : Int × V) : Nat × Bool := (s.1 + p.2.bytes, s.2 || decide (64 < p.1) || decide (65536 < (p.2.list.length : Int)) || decide (1048576 < ((s.1 + p.2.bytes : Nat) : Int)))
def V.sums (l : List (Int × V)) : Nat × Bool := l.foldl V.step (0, false)
theorem V.sums_snoc (l : List (Int × V)) (p : Int × V) : V.sums (l ++ [p]) = V.step (V.sums l) p := by simp [V.sums]
/-- What Check answers: 0; 110: a value may not be; 3: it is too great. -/
def V.check (v : V) : Int := if (v.pre 1).all (fun p => p.2.may) then (if (V.sums (v.pre 1)).2 then 3 else 0) else 110

theorem V.bytes_mk (k : Int) (b : Bool) (n : Int) (t : ByteArray) (ks : List ByteArray) (l : List V) : (V.mk k b n t ks l).bytes ≤ t.size + V.sumBy (fun s => 1 + s.size) ks := by
  have h : V.sumBy (fun s : ByteArray => s.size) ks ≤ V.sumBy (fun s : ByteArray => 1 + s.size) ks := by
    induction ks with
    | nil => simp [V.sumBy]
    | cons x xs ih => simp only [V.sumBy]; omega
  simp only [V.bytes, V.text, V.keys]
  omega
theorem V.sums_fst (l : List (Int × V)) : ∀ s : Nat × Bool, (l.foldl V.step s).1 = s.1 + V.sumBy (fun p => p.2.bytes) l := by
  induction l with
  | nil => intro s; simp [V.sumBy]
  | cons x xs ih => intro s; simp only [List.foldl_cons, ih, V.step, V.sumBy]; omega
theorem V.sumBy_flatMap {α β : Type} (f : β → Nat) (g : α → List β) (l : List α) : V.sumBy f (l.flatMap g) = V.sumBy (fun x => V.sumBy f (g x)) l := by
  induction l with
  | nil => rfl
  | cons x xs ih => simp only [List.flatMap_cons, V.sumBy_append, V.sumBy, ih]
theorem V.sumBy_le {α : Type} {f g : α → Nat} {l : List α} (h : ∀ x, x ∈ l → f x ≤ g x) : V.sumBy f l ≤ V.sumBy g l := by
  induction l with
  | nil => simp [V.sumBy]
  | cons x xs ih =>
    have h1 := h x (by simp)
    have h2 := ih (fun y hy => h y (by simp [hy]))
    simp only [V.sumBy]; omega
/-- All that lies in a value has together no more bytes than it is great. -/
theorem V.pre_bytes : ∀ (v : V) (d : Int), V.sumBy (fun p : Int × V => p.2.bytes) (v.pre d) ≤ v.size := by
  intro v
  induction v using V.ind with
  | h k b n t ks l ih =>
    intro d
    rw [V.pre_eq, V.size_eq, V.pres_eq]
    simp only [V.sumBy, V.list]
    rw [V.sumBy_flatMap]
    have h1 := V.sumBy_le (f := fun x : V => V.sumBy (fun p : Int × V => p.2.bytes) (x.pre (d + 1))) (g := V.size) (l := l) (fun x hx => ih x hx (d + 1))
    have h2 := V.bytes_mk k b n t ks l
    omega
theorem V.sumBy_prefix {α : Type} {f : α → Nat} {l m : List α} (h : l <+: m) : V.sumBy f l ≤ V.sumBy f m := by
  obtain ⟨r, rfl⟩ := h
  rw [V.sumBy_append]; omega
theorem V.sums_bound {v : V} {d : Int} {l : List (Int × V)} (h : l <+: v.pre d) : (V.sums l).1 ≤ v.size := by
  have h1 := V.sums_fst l (0, false)
  have h2 := V.sumBy_prefix (f := fun p : Int × V => p.2.bytes) h
  have h3 := V.pre_bytes v d
  simp only [V.sums]
  simp only at h1
  omega
end Go.Proofs.YtcmahpddjggcaaaGreatDoor
