/- sync.Once around the summer's fill; its atomic number. -/
import Derived.Test.YthacpfijoadclaaObj
namespace Go.Proofs.Ythacpfijoadclaa
open Go Go.RowKit

theorem disable (w : World) : (callFunc 33 #[]).run Try.prog w = .ok (.value (.tuple #[])) w := run_call_mark0 Try.func33 (by kernel_rfl) (by kernel_rfl) (by kernel_rfl) .disable (by kernel_rfl) w
theorem enable (w : World) : (callFunc 35 #[]).run Try.prog w = .ok (.value (.tuple #[])) w := run_call_mark0 Try.func35 (by kernel_rfl) (by kernel_rfl) (by kernel_rfl) .enable (by kernel_rfl) w
theorem acquire (a : Addr) (w : World) : (callFunc 36 #[.pointer (some a)]).run Try.prog w = .ok (.value (.tuple #[])) w := run_call_marked Try.func36 (by kernel_rfl) (by kernel_rfl) (by kernel_rfl) .acquire (by kernel_rfl) a w
theorem releaseMerge (a : Addr) (w : World) : (callFunc 38 #[.pointer (some a)]).run Try.prog w = .ok (.value (.tuple #[])) w := run_call_marked Try.func38 (by kernel_rfl) (by kernel_rfl) (by kernel_rfl) .releaseMerge (by kernel_rfl) a w

theorem store_deferred (a : Addr) (x : Value) (u : FrameMode) (w : World) (hc : w.cell? a = some x) (hz : w.frozen? a = false) :
    CallsD Try.prog 28 #[.pointer (some a), .bool true] u w fun e u' w' => u' = u ∧ (e = .returned (.tuple #[]) ∧ w' = w.drew.setCell a (.int .u32 1)) := by
  have hc' : w.drew.cell? a = some x := by go_simp
  have hz' : w.drew.frozen? a = false := by go_simp
  have hst := run_call_store (P := Try.prog) Try.func31 (by kernel_rfl) (by kernel_rfl) (by kernel_rfl) (by kernel_rfl) (k := .u32) (y := 1) hc' hz'
  go_enter_d Try.func28, Try.ntmps28
  go_wp2
  go_region_calls
  all_goals (go_end0; exact ⟨rfl, rfl⟩)

theorem unlock_deferred (a : Addr) (u : FrameMode) (w : World) (hc : w.cell? a = some (.int .i32 1)) (hz : w.frozen? a = false) :
    CallsD Try.prog 27 #[.pointer (some a)] u w fun e u' w' => u' = u ∧ (e = .returned (.tuple #[]) ∧ w' = w.setCell a (.int .i32 0)) := by
  have hd := disable
  have he := enable
  have hr := releaseMerge
  have hadd := run_call_add (P := Try.prog) Try.func39 (by kernel_rfl) (by kernel_rfl) (by kernel_rfl) .i32 (by kernel_rfl) (y := -1) (s := 0) hc hz (by simp [go_sem]; rfl)
  have hcv := run_convert_to_unsafe (P := Try.prog) (src := 73) (dst := 77) Try.underlying73 Try.underlying77 (by kernel_rfl) hc
  go_enter_d Try.func27, Try.ntmps27
  go_wp2
  go_end0
  exact ⟨rfl, rfl⟩

theorem lock_free (a : Addr) (w : World) (hc : w.cell? a = some (.int .i32 0)) (hz : w.frozen? a = false) :
    Calls Try.prog 26 #[.pointer (some a)] w fun e w' => e = .returned (.tuple #[]) ∧ w' = w.setCell a (.int .i32 1) := by
  have hd := disable
  have he := enable
  have ha := acquire
  have hcas := run_call_cas_hit (P := Try.prog) Try.func34 (by kernel_rfl) (by kernel_rfl) (by kernel_rfl) .i32 (by kernel_rfl) (y := 1) hc hz
  have hc' : (w.setCell a (.int .i32 1)).cell? a = some (.int .i32 1) := World.cell?_setCell_same w a _ hc
  have hcv := run_convert_to_unsafe (P := Try.prog) (src := 73) (dst := 77) Try.underlying73 Try.underlying77 (by kernel_rfl) hc'
  go_enter Try.func26, Try.ntmps26
  go_wp2
  first | go_end0 | (simp only [Exit.inBlock, Exit.then]; refine bodyPost_ret (results_none rfl _ _ _) rfl ?_) | refine bodyPost_ret (results_none rfl _ _ _) rfl ?_
  exact ⟨rfl, rfl⟩

theorem load_bool (a : Addr) (x : Int) (b : Bool) (hb : (x != 0) = b) (w : World) (hc : w.cell? a = some (.int .u32 x)) :
    Calls Try.prog 22 #[.pointer (some a)] w fun e w' => e = .returned (.bool b) ∧ w = w' := by
  have hl := run_call_load (P := Try.prog) Try.func25 (by kernel_rfl) (by kernel_rfl) (by kernel_rfl) .u32 (by kernel_rfl) hc
  subst hb
  go_enter Try.func22, Try.ntmps22
  go_wp2
  go_ret
  exact ⟨rfl, rfl⟩

set_option maxRecDepth 100000 in
set_option maxHeartbeats 1600000 in
theorem slow_any (g : Nat) (n : Int) (T : List W32) (hT : T.length = 16) (w : World) (h : Sm w g 0 0 n T) :
    Calls Try.prog 23 #[.pointer (some ⟨g, 0, none⟩), .func (.func 20) #[.pointer (some ⟨g, 0, none⟩)] #[]] w fun e w' => e = .returned (.tuple #[]) ∧ Only g w w' ∧ Sm w' g 1 0 n tab := by
  have hnot : ∀ (x : Bool) (w : World), (Op.unary .not (.bool x)).run Try.prog w = .ok (.bool (!x)) w := fun _ _ => rfl
  have h1 := h.s1 1
  have HL := Lib.hid (load_bool ⟨g, 0, none⟩ 0 false rfl _ h1.c0)
  have HF := Lib.hid (fill_any g 0 1 n T hT _ h1)
  have HK := Lib.hid (lock_free ⟨g, 1, none⟩ w h.c1 (h.fz 1))
  have HO := Lib.hid ((Only.refl g w).set 1 (.int .i32 1))
  clear h1 h
  go_enter_defers Try.func23, Try.ntmps23
  go_wp2_with fail
  refine HK.out.mono ?_
  rintro e w' ⟨rfl, rfl⟩
  go_wp2_with fail
  refine HL.out.mono ?_
  rintro e w' ⟨rfl, rfl⟩
  go_wp2_with fail
  refine HF.out.mono ?_
  rintro e w2 ⟨rfl, ho, hs⟩
  have hz0 := hs.fz 0
  have hc0 := hs.c0
  have H2 := Lib.hid (And.intro ho hs)
  clear ho hs
  go_wp2_with fail
  refine leaves_cons (f := 28) (args := #[.pointer (some ⟨g, 0, none⟩), .bool true]) (by simp) (by simp [go_sem]) ?_
  refine (store_deferred ⟨g, 0, none⟩ (.int .u32 0) .returning _ hc0 hz0).mono ?_
  rintro e u' w'' ⟨rfl, rfl, rfl⟩
  have h3 := (H2.out.2.drew).s0 1
  refine leaves_cons (f := 27) (args := #[.pointer (some ⟨g, 1, none⟩)]) (by simp [settle]) (by simp [go_sem]) ?_
  refine (unlock_deferred ⟨g, 1, none⟩ _ _ h3.c1 (h3.fz 1)).mono ?_
  rintro e u' w'' ⟨rfl, rfl, rfl⟩
  have h4 := h3.s1 0
  have h5 := (((HO.out.trans H2.out.1).drew).set 0 (.int .u32 1)).set 1 (.int .i32 0)
  simp [Leaves, settle, results, Try.results23]
  exact ⟨h5, h4⟩

/-! ### Do -/
theorem do_first (g : Nat) (n : Int) (T : List W32) (hT : T.length = 16) (w : World) (h : Sm w g 0 0 n T) :
    Calls Try.prog 19 #[.pointer (some ⟨g, 0, none⟩), .func (.func 20) #[.pointer (some ⟨g, 0, none⟩)] #[]] w fun e w' => e = .returned (.tuple #[]) ∧ Only g w w' ∧ Sm w' g 1 0 n tab := by
  have hnot : ∀ (x : Bool) (w : World), (Op.unary .not (.bool x)).run Try.prog w = .ok (.bool (!x)) w := fun _ _ => rfl
  have HL := Lib.hid (load_bool ⟨g, 0, none⟩ 0 false rfl _ h.c0)
  have HS := Lib.hid (slow_any g n T hT w h)
  clear h
  go_enter Try.func19, Try.ntmps19
  go_wp2_with fail
  refine HL.out.mono ?_
  rintro e w' ⟨rfl, rfl⟩
  go_wp2_with fail
  refine HS.out.mono ?_
  rintro e w' ⟨rfl, ho, hs⟩
  have HX := Lib.hid (And.intro ho hs)
  clear ho hs
  go_wp2_with fail
  go_returns
  exact ⟨rfl, HX.out⟩
theorem do_again (g : Nat) (n : Int) (T : List W32) (w : World) (fv : Value) (h : Sm w g 1 0 n T) :
    Calls Try.prog 19 #[.pointer (some ⟨g, 0, none⟩), fv] w fun e w' => e = .returned (.tuple #[]) ∧ w = w' := by
  have hnot : ∀ (x : Bool) (w : World), (Op.unary .not (.bool x)).run Try.prog w = .ok (.bool (!x)) w := fun _ _ => rfl
  have HL := Lib.hid (load_bool ⟨g, 0, none⟩ 1 true rfl _ h.c0)
  clear h
  go_enter Try.func19, Try.ntmps19
  go_wp2_with fail
  refine HL.out.mono ?_
  rintro e w' ⟨rfl, rfl⟩
  go_wp2_with fail
  go_returns
  exact ⟨rfl, rfl⟩
/-- the summer as it stands between calls: its table made, or not yet -/
def Sum (w : World) (g : Nat) (n : Int) : Prop := Sm w g 0 0 n zeros ∨ Sm w g 1 0 n tab
theorem do_any (g : Nat) (n : Int) (w : World) (h : Sum w g n) :
    Calls Try.prog 19 #[.pointer (some ⟨g, 0, none⟩), .func (.func 20) #[.pointer (some ⟨g, 0, none⟩)] #[]] w fun e w' => e = .returned (.tuple #[]) ∧ Only g w w' ∧ Sm w' g 1 0 n tab := by
  rcases h with h | h
  · exact do_first g n zeros rfl w h
  · exact (do_again g n tab w _ h).mono (by rintro e w' ⟨rfl, rfl⟩; exact ⟨rfl, Only.refl _ _, h⟩)

/-! ### the atomic number -/
theorem add_any (g : Nat) (x : Int) (w : World) (hc : w.cell? ⟨g, 3, none⟩ = some (.int .i64 x)) (hz : w.frozen? ⟨g, 3, none⟩ = false) (h1 : 0 ≤ x) (h2 : x ≤ 1000000) :
    Calls Try.prog 15 #[.pointer (some ⟨g, 3, none⟩), .int .i64 1] w fun e w' => e = .returned (.int .i64 (x + 1)) ∧ w' = w.setCell ⟨g, 3, none⟩ (.int .i64 (x + 1)) := by
  have hadd := run_call_add (P := Try.prog) Try.func18 (by kernel_rfl) (by kernel_rfl) (by kernel_rfl) .i64 (by kernel_rfl) (y := 1) (s := x + 1) hc hz (by
    have e : IntKind.i64.wrap (x + 1) = x + 1 := by rw [IntKind.wrap_i64]; omega
    simp [go_sem, e])
  go_enter Try.func15, Try.ntmps15
  go_wp2
  go_ret
  exact ⟨rfl, rfl⟩
theorem load_any (g : Nat) (x : Int) (w : World) (hc : w.cell? ⟨g, 3, none⟩ = some (.int .i64 x)) :
    Calls Try.prog 17 #[.pointer (some ⟨g, 3, none⟩)] w fun e w' => e = .returned (.int .i64 x) ∧ w = w' := by
  have hl := run_call_load (P := Try.prog) Try.func21 (by kernel_rfl) (by kernel_rfl) (by kernel_rfl) .i64 (by kernel_rfl) hc
  go_enter Try.func17, Try.ntmps17
  go_wp2
  go_ret
  exact ⟨rfl, rfl⟩
end Go.Proofs.Ythacpfijoadclaa
