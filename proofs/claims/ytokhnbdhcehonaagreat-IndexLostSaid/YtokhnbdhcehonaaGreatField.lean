/- index: rec.number, text, field (printed by gen_field.py). -/
import Derived.Test.YtokhnbdhcehonaaGreatAttr
set_option linter.unusedSimpArgs false
set_option linter.unusedVariables false
namespace Go.Proofs.YtokhnbdhcehonaaGreat
open Go Go.RowKit Row
set_option maxRecDepth 100000
theorem number_any (n lo hi : Int) (w : World) : Calls Tryz.prog 127 #[.int .i64 n, .int .i64 lo, .int .i64 hi] w fun e w' => e = .returned (.bool (decide (lo ≤ n) && decide (n ≤ hi))) ∧ w' = w := by
  by_cases h1 : lo ≤ n
  · rw [decide_eq_true h1, Bool.true_and]
    go_enter Tryz.func127, Tryz.ntmps127
    go_wp2_with fail
    go_ret
    exact ⟨rfl, rfl⟩
  · have hd : decide (lo ≤ n) = false := decide_eq_false h1
    rw [hd, Bool.false_and]
    go_enter Tryz.func127, Tryz.ntmps127
    go_wp2_with fail
    go_ret
    exact ⟨rfl, rfl⟩
theorem text_any (s : ByteArray) (lo hi : Int) (w : World) : Calls Tryz.prog 128 #[.string s, .int .i64 lo, .int .i64 hi] w fun e w' => e = .returned (.bool (decide (lo ≤ (s.size : Int)) && decide ((s.size : Int) ≤ hi))) ∧ w' = w := by
  by_cases h1 : lo ≤ (s.size : Int)
  · rw [decide_eq_true h1, Bool.true_and]
    go_enter Tryz.func128, Tryz.ntmps128
    go_wp2_with fail
    go_ret
    exact ⟨rfl, rfl⟩
  · have hd : decide (lo ≤ (s.size : Int)) = false := decide_eq_false h1
    rw [hd, Bool.false_and]
    go_enter Tryz.func128, Tryz.ntmps128
    go_wp2_with fail
    go_ret
    exact ⟨rfl, rfl⟩
theorem size3 : (Tryz.prog.info? 3).map (·.size) = some 1 := by kernel_rfl
theorem size9 : (Tryz.prog.info? 9).map (·.size) = some 1 := by kernel_rfl
def numP (n lo hi : Int) : Bool := decide (lo ≤ n) && decide (n ≤ hi)
def txtP (s : ByteArray) (lo hi : Int) : Bool := decide (lo ≤ (s.size : Int)) && decide ((s.size : Int) ≤ hi)
def FieldV (bo : Nat) (o' : Ch) (ok : Bool) (w : World) (e : Ending) (w' : World) : Prop := e = .returned (.bool ok) ∧ w'.heap[bo]? = some (.cells (arr o') 69) ∧ w.grownBy w' (some bo)
theorem grownBy_below {w w' w'' : World} {b : Nat} (h : w.grownBy w' (some b)) (h2 : Below w'.heap.size w' w'') : w.grownBy w'' (some b) :=
  ⟨h2.os.trans h.os, h2.tape.trans h.tape, h2.output.trans h.output, Nat.le_trans h.size h2.size, fun k hk hne => (h2.block k (Nat.lt_of_lt_of_le hk h.size)).trans (h.block k hk hne)⟩
theorem grown_refl (w : World) (b : Option Nat) : w.grownBy w b := ⟨rfl, rfl, rfl, Nat.le_refl _, fun _ _ _ => rfl⟩
section
variable {w : World} {bo bx : Nat} {o x : Ch}
set_option maxHeartbeats 4000000 in
theorem field_e (ho : w.heap[bo]? = some (.cells (arr o) 69)) (hx : w.heap[bx]? = some (.cells (arr x) 69)) (hne : bx ≠ bo) :
    Calls Tryz.prog 97 #[.pointer (some ⟨bo, 0, none⟩), .pointer (some ⟨bx, 0, none⟩), .int .i32 101] w (FieldV bo { o with e := x.e } (numP x.e 1 4294967295) w) := by
  have x0 : w.cell? ⟨bx, 1, none⟩ = some (.int .i64 x.e) := by rw [row_cell hx]; rfl
  have HX := Lib.hid hx
  have HO := Lib.hid ho
  clear hx ho
  go_enter Tryz.func97, Tryz.ntmps97
  go_wp2_with (refine rw_cell (α := Ch) rfl 3 (.tmp 16) (.tmp 14) rfl bo 1 o { o with e := x.e } (.int .i64 x.e) rfl rfl HO.out (by decide) rfl rfl size3 ?_; intro w1 hb1 hg1 hs1; have HB := Lib.hid hb1; have HG := Lib.hid hg1; have x1 : w1.cell? ⟨bx, 1, none⟩ = some (.int .i64 x.e) := (by rw [row_cell ((hg1.block _ (heap_lt HX.out) (by simpa using hne)).trans HX.out)]; rfl); clear hb1 hg1 hs1)
  refine (number_any _ _ _ w1).mono ?_
  rintro e w2 ⟨rfl, rfl⟩
  go_wp2_with fail
  go_ret
  exact ⟨rfl, HB.out, HG.out⟩
set_option maxHeartbeats 4000000 in
theorem field_s (ho : w.heap[bo]? = some (.cells (arr o) 69)) (hx : w.heap[bx]? = some (.cells (arr x) 69)) (hne : bx ≠ bo) :
    Calls Tryz.prog 97 #[.pointer (some ⟨bo, 0, none⟩), .pointer (some ⟨bx, 0, none⟩), .int .i32 115] w (FieldV bo { o with s := x.s } (decide (1 ≤ x.s)) w) := by
  have x0 : w.cell? ⟨bx, 2, none⟩ = some (.int .i64 x.s) := by rw [row_cell hx]; rfl
  have HX := Lib.hid hx
  have HO := Lib.hid ho
  clear hx ho
  go_enter Tryz.func97, Tryz.ntmps97
  go_wp2_with (refine rw_cell (α := Ch) rfl 3 (.tmp 30) (.tmp 28) rfl bo 2 o { o with s := x.s } (.int .i64 x.s) rfl rfl HO.out (by decide) rfl rfl size3 ?_; intro w1 hb1 hg1 hs1; have HB := Lib.hid hb1; have HG := Lib.hid hg1; have x1 : w1.cell? ⟨bx, 2, none⟩ = some (.int .i64 x.s) := (by rw [row_cell ((hg1.block _ (heap_lt HX.out) (by simpa using hne)).trans HX.out)]; rfl); clear hb1 hg1 hs1)
  go_ret
  exact ⟨rfl, HB.out, HG.out⟩
set_option maxHeartbeats 4000000 in
theorem field_u (ho : w.heap[bo]? = some (.cells (arr o) 69)) (hx : w.heap[bx]? = some (.cells (arr x) 69)) (hne : bx ≠ bo) :
    Calls Tryz.prog 97 #[.pointer (some ⟨bo, 0, none⟩), .pointer (some ⟨bx, 0, none⟩), .int .i32 117] w (FieldV bo { o with up := x.up } (txtP x.up 1 64) w) := by
  have x0 : w.cell? ⟨bx, 3, none⟩ = some (.string x.up) := by rw [row_cell hx]; rfl
  have HX := Lib.hid hx
  have HO := Lib.hid ho
  clear hx ho
  go_enter Tryz.func97, Tryz.ntmps97
  go_wp2_with (refine rw_cell (α := Ch) rfl 9 (.tmp 44) (.tmp 42) rfl bo 3 o { o with up := x.up } (.string x.up) rfl rfl HO.out (by decide) rfl rfl size9 ?_; intro w1 hb1 hg1 hs1; have HB := Lib.hid hb1; have HG := Lib.hid hg1; have x1 : w1.cell? ⟨bx, 3, none⟩ = some (.string x.up) := (by rw [row_cell ((hg1.block _ (heap_lt HX.out) (by simpa using hne)).trans HX.out)]; rfl); clear hb1 hg1 hs1)
  refine (text_any _ _ _ w1).mono ?_
  rintro e w2 ⟨rfl, rfl⟩
  go_wp2_with fail
  go_ret
  exact ⟨rfl, HB.out, HG.out⟩
set_option maxHeartbeats 4000000 in
theorem field_n (ho : w.heap[bo]? = some (.cells (arr o) 69)) (hx : w.heap[bx]? = some (.cells (arr x) 69)) (hne : bx ≠ bo) :
    Calls Tryz.prog 97 #[.pointer (some ⟨bo, 0, none⟩), .pointer (some ⟨bx, 0, none⟩), .int .i32 110] w (FieldV bo { o with name := x.name } (txtP x.name 1 255) w) := by
  have x0 : w.cell? ⟨bx, 4, none⟩ = some (.string x.name) := by rw [row_cell hx]; rfl
  have HX := Lib.hid hx
  have HO := Lib.hid ho
  clear hx ho
  go_enter Tryz.func97, Tryz.ntmps97
  go_wp2_with (refine rw_cell (α := Ch) rfl 9 (.tmp 58) (.tmp 56) rfl bo 4 o { o with name := x.name } (.string x.name) rfl rfl HO.out (by decide) rfl rfl size9 ?_; intro w1 hb1 hg1 hs1; have HB := Lib.hid hb1; have HG := Lib.hid hg1; have x1 : w1.cell? ⟨bx, 4, none⟩ = some (.string x.name) := (by rw [row_cell ((hg1.block _ (heap_lt HX.out) (by simpa using hne)).trans HX.out)]; rfl); clear hb1 hg1 hs1)
  refine (text_any _ _ _ w1).mono ?_
  rintro e w2 ⟨rfl, rfl⟩
  go_wp2_with fail
  go_ret
  exact ⟨rfl, HB.out, HG.out⟩
set_option maxHeartbeats 4000000 in
theorem field_c (ho : w.heap[bo]? = some (.cells (arr o) 69)) (hx : w.heap[bx]? = some (.cells (arr x) 69)) (hne : bx ≠ bo) :
    Calls Tryz.prog 97 #[.pointer (some ⟨bo, 0, none⟩), .pointer (some ⟨bx, 0, none⟩), .int .i32 99] w (FieldV bo { o with ch := x.ch } (txtP x.ch 0 64) w) := by
  have x0 : w.cell? ⟨bx, 5, none⟩ = some (.string x.ch) := by rw [row_cell hx]; rfl
  have HX := Lib.hid hx
  have HO := Lib.hid ho
  clear hx ho
  go_enter Tryz.func97, Tryz.ntmps97
  go_wp2_with (refine rw_cell (α := Ch) rfl 9 (.tmp 72) (.tmp 70) rfl bo 5 o { o with ch := x.ch } (.string x.ch) rfl rfl HO.out (by decide) rfl rfl size9 ?_; intro w1 hb1 hg1 hs1; have HB := Lib.hid hb1; have HG := Lib.hid hg1; have x1 : w1.cell? ⟨bx, 5, none⟩ = some (.string x.ch) := (by rw [row_cell ((hg1.block _ (heap_lt HX.out) (by simpa using hne)).trans HX.out)]; rfl); clear hb1 hg1 hs1)
  refine (text_any _ _ _ w1).mono ?_
  rintro e w2 ⟨rfl, rfl⟩
  go_wp2_with fail
  go_ret
  exact ⟨rfl, HB.out, HG.out⟩
set_option maxHeartbeats 4000000 in
theorem field_b (ho : w.heap[bo]? = some (.cells (arr o) 69)) (hx : w.heap[bx]? = some (.cells (arr x) 69)) (hne : bx ≠ bo) :
    Calls Tryz.prog 97 #[.pointer (some ⟨bo, 0, none⟩), .pointer (some ⟨bx, 0, none⟩), .int .i32 98] w (FieldV bo { o with no := x.no } (numP x.no 0 65535) w) := by
  have x0 : w.cell? ⟨bx, 16, none⟩ = some (.int .i64 x.no) := by rw [row_cell hx]; rfl
  have HX := Lib.hid hx
  have HO := Lib.hid ho
  clear hx ho
  go_enter Tryz.func97, Tryz.ntmps97
  go_wp2_with (refine rw_cell (α := Ch) rfl 3 (.tmp 101) (.tmp 99) rfl bo 16 o { o with no := x.no } (.int .i64 x.no) rfl rfl HO.out (by decide) rfl rfl size3 ?_; intro w1 hb1 hg1 hs1; have HB := Lib.hid hb1; have HG := Lib.hid hg1; have x1 : w1.cell? ⟨bx, 16, none⟩ = some (.int .i64 x.no) := (by rw [row_cell ((hg1.block _ (heap_lt HX.out) (by simpa using hne)).trans HX.out)]; rfl); clear hb1 hg1 hs1)
  refine (number_any _ _ _ w1).mono ?_
  rintro e w2 ⟨rfl, rfl⟩
  go_wp2_with fail
  go_ret
  exact ⟨rfl, HB.out, HG.out⟩
set_option maxHeartbeats 4000000 in
theorem field_t (ho : w.heap[bo]? = some (.cells (arr o) 69)) (hx : w.heap[bx]? = some (.cells (arr x) 69)) (hne : bx ≠ bo) :
    Calls Tryz.prog 97 #[.pointer (some ⟨bo, 0, none⟩), .pointer (some ⟨bx, 0, none⟩), .int .i32 116] w (FieldV bo { o with sl := x.sl } (numP x.sl 0 65535) w) := by
  have x0 : w.cell? ⟨bx, 17, none⟩ = some (.int .i64 x.sl) := by rw [row_cell hx]; rfl
  have HX := Lib.hid hx
  have HO := Lib.hid ho
  clear hx ho
  go_enter Tryz.func97, Tryz.ntmps97
  go_wp2_with (refine rw_cell (α := Ch) rfl 3 (.tmp 113) (.tmp 111) rfl bo 17 o { o with sl := x.sl } (.int .i64 x.sl) rfl rfl HO.out (by decide) rfl rfl size3 ?_; intro w1 hb1 hg1 hs1; have HB := Lib.hid hb1; have HG := Lib.hid hg1; have x1 : w1.cell? ⟨bx, 17, none⟩ = some (.int .i64 x.sl) := (by rw [row_cell ((hg1.block _ (heap_lt HX.out) (by simpa using hne)).trans HX.out)]; rfl); clear hb1 hg1 hs1)
  refine (number_any _ _ _ w1).mono ?_
  rintro e w2 ⟨rfl, rfl⟩
  go_wp2_with fail
  go_ret
  exact ⟨rfl, HB.out, HG.out⟩
theorem set_at (o : Ch) (a : At) : overl (arr o) 6 (cells a) = arr ({ o with a := a } : Ch) := by
  apply Array.ext'
  show (overl _ 6 (At.cells a)).toList = _
  simp only [At.cells, overl, arr, cells, Ch.cells, List.cons_append, List.nil_append, List.setIfInBounds_toArray, List.set_cons_succ, List.set_cons_zero]
theorem range_at {w : World} {b : Nat} {x : Ch} {t : TypeId} (h : w.heap[b]? = some (.cells (arr x) t)) : w.rangeAt b 6 (cells x.a) := fun j u hu => by
  rw [row_cell h]
  have hj : j < 10 := (List.getElem?_eq_some_iff.1 hu).1
  have : (arr x)[6 + j]? = (cells x.a)[j]? := by
    have e : j = 0 ∨ j = 1 ∨ j = 2 ∨ j = 3 ∨ j = 4 ∨ j = 5 ∨ j = 6 ∨ j = 7 ∨ j = 8 ∨ j = 9 := by omega
    rcases e with rfl | rfl | rfl | rfl | rfl | rfl | rfl | rfl | rfl | rfl <;> rfl
  rw [this]; exact hu
theorem there_at {w : World} {b : Nat} {x : Ch} {t : TypeId} (h : w.heap[b]? = some (.cells (arr x) t)) : w.there b 6 10 := fun j hj => by
  rw [row_cell h, row_froz h]
  refine ⟨?_, rfl⟩
  rw [Array.getElem?_eq_getElem (by rw [arr_size]; show 6 + j < 18; omega)]
  rfl
set_option maxHeartbeats 8000000 in
theorem field_a (ho : w.heap[bo]? = some (.cells (arr o) 69)) (hx : w.heap[bx]? = some (.cells (arr x) 69)) (hne : bx ≠ bo) :
    Calls Tryz.prog 97 #[.pointer (some ⟨bo, 0, none⟩), .pointer (some ⟨bx, 0, none⟩), .int .i32 97] w (FieldV bo { o with a := x.a } (atP x.a) w) := by
  have HX := Lib.hid hx
  have HO := Lib.hid ho
  clear hx ho
  have HAT := Lib.hid (fun w => attr_any x.a w)
  generalize atP x.a = r at HAT ⊢
  go_enter Tryz.func97, Tryz.ntmps97
  go_wp2_with (first
    | (refine rw_load (α := At) rfl (.tmp 83) rfl bx 6 rfl x.a (range_at HX.out) ?_)
    | (refine wpList_store_mid rfl 45 (.tmp 86) (.tmp 84) rfl bo 6 (arr x.a) rfl rfl (by rw [arr_size]; exact there_at HO.out) (by rw [arr_size]; exact size_T (α := At)) (arr_all x.a) ?_
       have HB : Hid ((w.setCells bo 6 (arr x.a).toList).heap[bo]? = some (.cells (arr ({ o with a := x.a } : Ch)) 69)) := Lib.hid (by rw [setCells_heap _ _ _ _ HO.out]; exact congrArg _ (congrArg (fun z => Obj.cells z 69) (set_at o x.a)))
       have HG := Lib.hid (setCells_grown bo (arr x.a).toList 6 w)
       generalize w.setCells bo 6 (arr x.a).toList = w1 at *
       have HX1 := Lib.hid ((HG.out.block _ (heap_lt HX.out) (by simpa using hne)).trans HX.out))
    | (refine rw_load (α := At) rfl (.tmp 89) rfl bx 6 rfl x.a (range_at HX1.out) ?_))
  refine (HAT.out _).mono ?_
  rintro e w2 ⟨rfl, hb2⟩
  have HB2 := Lib.hid ((hb2.block _ (heap_lt HB.out)).trans HB.out)
  have HG2 := Lib.hid (grownBy_below HG.out hb2)
  clear hb2
  cases r
  · go_wp2_with fail
    go_ret
    exact ⟨rfl, HB2.out, HG2.out⟩
  · go_wp2_with fail
    go_ret
    exact ⟨rfl, HB2.out, HG2.out⟩
end
end Go.Proofs.YtokhnbdhcehonaaGreat
