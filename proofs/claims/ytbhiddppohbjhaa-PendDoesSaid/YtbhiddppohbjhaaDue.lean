/- pend.Table.Due. -/
import Derived.Test.YtbhiddppohbjhaaSortLaw
import Derived.Test.YtbhiddppohbjhaaNil
namespace Go.Proofs.Ytbhiddppohbjhaa
open Go Go.RowKit Go.Maps Go.WideShapes Go.ChangeMaps Go.WideMaps Go.MapKept
set_option maxRecDepth 100000
def cmpV : Value := .func (.func 29) #[] #[]
theorem ins_nil (f : Value) (w : World) : Calls Try.prog 36 #[.slice none 0 0, .int .i64 0, .int .i64 0, f] w fun e w' => e = .returned (.tuple #[]) ∧ w = w' := by
  go_enter Try.func36, Try.ntmps36
  go_wp2
  refine wp_loop_rounds 1 ?_
  rw [rounds_succ]
  go_wp2
  go_end0
  exact ⟨rfl, rfl⟩
theorem pdq_nil (f : Value) (l : Int) (w : World) : Calls Try.prog 33 #[.slice none 0 0, .int .i64 0, .int .i64 0, .int .i64 l, f] w fun e w' => e = .returned (.tuple #[]) ∧ w = w' := by
  have H := Lib.hid (fun w => ins_nil f w)
  go_enter Try.func33, Try.ntmps33
  go_wp2
  refine wp_loop_rounds 1 ?_
  rw [rounds_succ]
  go_wp2_with (go_at_call 36; refine (H.out _).mono ?_; rintro e w' ⟨rfl, rfl⟩)
  (try simp only [Exit.inBlock, Exit.then]); refine bodyPost_ret (results_none rfl _ _ _) rfl ?_
  exact ⟨rfl, rfl⟩
theorem sort_nil (f : Value) (w : World) : Calls Try.prog 28 #[.slice none 0 0, f] w fun e w' => e = .returned (.tuple #[]) ∧ w = w' := by
  have H := Lib.hid (fun l w => pdq_nil f l w)
  have HL := Lib.hid (fun w => hlen 0 w (by omega))
  go_enter Try.func28, Try.ntmps28
  go_wp2_with (first | (go_at_call 34; refine (HL.out _).mono ?_; rintro e w' ⟨⟨l, rfl⟩, rfl⟩) | (go_at_call 33; refine (H.out _ _).mono ?_; rintro e w' ⟨rfl, rfl⟩))
  go_end0
  exact ⟨rfl, rfl⟩
section
variable {w : World} {ops : Array Oper} {rest : List Oper} {o : Oper} {a : Act} {Q : Exit → Act → World → Prop}
theorem info37' : (Try.prog.info? 37).map (fun i => (i.zero.isSome, i.size)) = some (true, 34) := by kernel_rfl
/-- a slice literal of one call -/
theorem pw_lit37 (hgd : o.guard = none) (x : Operand) (ho : o.op = .buildSlice 48 1 #[(0, x)]) (p : Pd) (hp : p.ok) (hx : a.eval x = .agg p.arr)
    (h : wpList Try.prog ops Q rest (a.put o.dst (.slice (some ⟨w.heap.size, 0, none⟩) 1 1)) (w.alloc (.cells p.arr 37))) : wpList Try.prog ops Q (o :: rest) a w := by
  cases hie : Try.prog.info? 37 with
  | none => have := info37'; rw [hie] at this; cases this
  | some ie =>
    have h44 := info37'
    rw [hie] at h44
    simp only [Option.map_some, Option.some.injEq, Prod.mk.injEq] at h44
    obtain ⟨z, hz⟩ := Option.isSome_iff_exists.1 h44.1
    refine wpList_buildSlice hgd 48 37 1 #[(0, x)] ho p.arr ie z Try.underlying48 hie hz (by rw [h44.2]; omega) (by rw [h44.2]; omega) ?_ h
    simp only [List.map_toArray, List.map_cons, List.map_nil, hx, h44.2]
    exact fill_one (by simp) (Pd.size hp)
end
/-- the calls that are due, as far as they have come up -/
structure Col (M : Tb) (now : Int) (left : Lit → Bool) (L : List Pk) : Prop where
  has : ∀ p : Pk, p ∈ L ↔ ∃ k, M k = some p.1 ∧ p.1.du ≤ now ∧ left (kl k) = false
  nd : L.Nodup
  in_ : ∀ k, left (kl k) = true → (M k).isSome = true
theorem col_start {M : Tb} {now : Int} {D : DataW Value} (hh : ∀ k, has D (kl k) = (M k).isSome) : Col M now (has D) [] := by
  refine ⟨fun q => ⟨fun hq => absurd hq List.not_mem_nil, ?_⟩, List.nodup_nil, fun k hk => by rw [← hh]; exact hk⟩
  rintro ⟨k, h1, _, h3⟩
  rw [hh, h1] at h3
  cases h3
theorem col_no {M : Tb} {now : Int} {left : Lit → Bool} {L : List Pk} (h : Col M now left L) (hM : Tok M) {x : Int} {p : Pd} (hx : M x = some p) (hd : ¬ p.du ≤ now) : Col M now (fun z => left z && !z.sameKey (kl x)) L := by
  refine ⟨fun q => ?_, h.nd, fun k hk => h.in_ k (by simp at hk; exact hk.1)⟩
  rw [h.has q]
  constructor
  · rintro ⟨k, h1, h2, h3⟩
    exact ⟨k, h1, h2, by simp [h3]⟩
  · rintro ⟨k, h1, h2, h3⟩
    refine ⟨k, h1, h2, ?_⟩
    by_cases hk : k = x
    · subst hk; rw [hx] at h1; cases h1; exact absurd h2 hd
    · have : (kl k).sameKey (kl x) = false := sameKey_ne (fun e => hk (kl_inj e))
      simpa [this] using h3
theorem col_yes {M : Tb} {now : Int} {left : Lit → Bool} {L : List Pk} (h : Col M now left L) (hM : Tok M) {x : Int} {p : Pd} (hx : M x = some p) (hl : left (kl x) = true) (hd : p.du ≤ now) : Col M now (fun z => left z && !z.sameKey (kl x)) (L ++ [⟨p, hM.ok x p hx⟩]) := by
  have hself : (kl x).sameKey (kl x) = true := by simp [Lit.sameKey, kl]
  refine ⟨fun q => ?_, ?_, fun k hk => h.in_ k (by simp at hk; exact hk.1)⟩
  · rw [List.mem_append, List.mem_singleton, h.has q]
    constructor
    · rintro (⟨k, h1, h2, h3⟩ | rfl)
      · exact ⟨k, h1, h2, by simp [h3]⟩
      · exact ⟨x, hx, hd, by simp [hself]⟩
    · rintro ⟨k, h1, h2, h3⟩
      by_cases hk : k = x
      · subst hk
        rw [hx] at h1
        right
        apply Subtype.ext
        exact (Option.some.inj h1).symm
      · have : (kl k).sameKey (kl x) = false := sameKey_ne (fun e => hk (kl_inj e))
        exact .inl ⟨k, h1, h2, by simpa [this] using h3⟩
  · rw [List.nodup_append]
    refine ⟨h.nd, by simp, fun a ha b hb e => ?_⟩
    rw [List.mem_singleton] at hb
    subst hb
    subst e
    obtain ⟨k, h1, _, h3⟩ := (h.has _).1 ha
    have e1 := hM.me k _ h1
    have e2 := hM.me x p hx
    have e3 : k = x := e1.symm.trans e2
    rw [e3] at h3
    rw [h3] at hl; cases hl
structure DueL (M : Tb) (now : Int) (L : List Pk) : Prop where
  has : ∀ p : Pk, p ∈ L ↔ ∃ k, M k = some p.1 ∧ p.1.du ≤ now
  nd : L.Nodup
  srt : Srt L
theorem due_of {M : Tb} {now : Int} {left : Lit → Bool} {L L' : List Pk} (h : Col M now left L) (h0 : ∀ z, left z = false) (hp : L'.Perm L) (hs : Srt L') : DueL M now L' := by
  refine ⟨fun q => ?_, hp.nodup_iff.2 h.nd, hs⟩
  rw [hp.mem_iff, h.has q]
  constructor
  · rintro ⟨k, h1, h2, _⟩; exact ⟨k, h1, h2⟩
  · rintro ⟨k, h1, h2⟩; exact ⟨k, h1, h2, h0 _⟩
def DueV (M : Tb) (now : Int) (w : World) (e : Ending) (w' : World) : Prop := ∃ (A : Option Addr) (cap : Nat) (L : List Pk), e = .returned (.slice A L.length cap) ∧ Sl w' w.heap.size 37 34 (.slice A L.length cap) L.length (cellsP L) ∧ Below w.heap.size w w' ∧ DueL M now L
theorem info_parts37 : ∃ i : TypeInfo, Try.prog.info? 37 = some i ∧ i.zero = some (.agg zP.arr) ∧ i.size = 34 ∧ i.bytes = 320 := by
  cases hie : Try.prog.info? 37 with
  | none => have := info37; rw [hie] at this; cases this
  | some ie =>
    have h := info37
    rw [hie] at h
    simp only [Option.map_some, Option.some.injEq, Prod.mk.injEq] at h
    exact ⟨ie, rfl, h.1, h.2.1, h.2.2⟩
theorem row_pd {W : World} {S : Nat} {p : Pd} (h : W.heap[S]? = some (.cells p.arr 37)) : ∀ ad, some (⟨S, 0, none⟩ : Addr) = some ad → ∀ j u, p.cells[j]? = some u → W.cell? (ad.add j) = some u := by
  intro ad had j u hu
  cases had
  rw [addr_add, row_cell h, Nat.zero_add]
  unfold Pd.arr
  rw [List.getElem?_toArray]
  exact hu
theorem stop_here {P : Program} {ops : Array Oper} {l : List Oper} {a : Act} {w : World} {Q : Exit → Act → World → Prop} (h : Hid (wpList P ops Q l a w)) : wpList P ops Q l a w := h.out
theorem sl_one {W : World} {B : Nat} {v : Value} {L : List Pk} {p : Pd} {hok : p.ok} (h : Sl W B 37 34 v (L.length + 1) (cellsP L ++ p.cells)) : Sl W B 37 34 v (L ++ [(⟨p, hok⟩ : Pk)]).length (cellsP (L ++ [(⟨p, hok⟩ : Pk)])) := by
  have e : cellsP [(⟨p, hok⟩ : Pk)] = p.cells := by simp [cellsP, encP]
  rw [cellsP_append, List.length_append, e]
  exact h
/-- the loop's rounds -/
structure Lp (M : Tb) (D : DataW Value) (now : Int) (mb : Nat) (w wr : World) (sv : Value) (left : Lit → Bool) (cnt : Nat) (L : List Pk) : Prop where
  rg : wr.ranges Try.prog 3 heldR mb w.heap.size 4 D left cnt
  few : L.length + cnt ≤ 4
  col : Col M now left L
  sl : Sl wr (w.heap.size + 1) 37 34 sv L.length (cellsP L)
  bl : Below w.heap.size w wr
set_option maxHeartbeats 16000000 in
theorem due_any {w : World} {B g mb : Nat} {M : Tb} (h : PA w B g mb M) (now : Int) : Calls Try.prog 14 #[.pointer (some ⟨g, 0, none⟩), .int .i64 now] w (DueV M now w) := by
  obtain ⟨i0, hi, hz0, hz1, hz2⟩ := info_parts37
  have H1 := Lib.hid (made_yes h)
  have HTok := Lib.hid h.ok
  have c0 := h.cc
  have HM := Lib.hid h.map.lt
  obtain ⟨D, hown, hh, ha, hsz⟩ := h.map
  have HH := Lib.hid (And.intro hh ha)
  clear h hh ha
  go_enter Try.func14, Try.ntmps14
  go_wp2_with fail
  refine H1.out.mono ?_
  rintro e w1 ⟨rfl, rfl⟩
  go_wp2_with (first | (at_range; refine wpList_range_own _ rfl _ 58 rfl 3 37 law3 Try.underlying58 _ mb 4 D rfl hown ?_; intro w0 hrg0 hg0 hs0))
  go_frame
  have hlp : Lp M D now mb w w0 (.slice none 0 0) (has D) (size D) [] := ⟨hrg0, by rw [hsz]; simpa using cnt_le M, col_start HH.out.1, Sl.nil _ _ _ _, ⟨hg0.os, hg0.tape, hg0.output, hg0.size, fun q hq => hg0.block q hq (by simp)⟩⟩
  have HLP := Lib.hid hlp
  clear hlp hrg0 hg0 hs0 hown
  go_loopw [5] (fun sv wr => ∃ left cnt L, Lp M D now mb w wr sv left cnt L) (fun _ wr => wr.rangeLeft mb w.heap.size)
  case atStart => exact ⟨_, _, _, HLP.out⟩
  case round =>
    obtain ⟨left, cnt, L, hl⟩ := hrel
    have HL := Lib.hid hl
    have hrg := hl.rg
    clear hl
    go_wp2_with (first
      | (at_next; refine wpList_next_ranges _ rfl _ rfl 3 law3 heldR (fun x : Int => .int .i64 x) (fun v : Value => v) (fun key kl h => by obtain ⟨x, h1, _⟩ := Maps.keyOf_int_inv Try.underlying3 h; exact ⟨x, h1⟩) (fun v y _ => ⟨v, rfl⟩) mb w.heap.size 4 _ _ _ rfl hrg ?_ ?_)
      | go_in)
    · intro hc0 hl0
      have hcol := HL.out.col
      have HC := Lib.hid (And.intro hcol hl0)
      have hf := HL.out.few
      clear hcol hl0
      have hsl := HL.out.sl
      rcases hsl.2 with ⟨rfl, hn⟩ | ⟨b, off, cap, cur, rfl, _⟩
      · obtain rfl : L = [] := List.eq_nil_of_length_eq_zero hn
        have HB := Lib.hid HL.out.bl
        clear hsl hrg
        go_wp2_with fail
        refine (sort_nil _ _).mono ?_
        rintro e w2 ⟨rfl, rfl⟩
        go_wp2_with fail
        go_ret
        exact ⟨none, 0, [], rfl, Sl.nil _ _ _ _, HB.out, due_of HC.out.1 HC.out.2 (List.Perm.refl _) List.Pairwise.nil⟩
      · have HS := Lib.hid (sort_any b off cap L wr hsl (by omega))
        have HB := Lib.hid (And.intro HL.out.bl (hsl.ge b rfl))
        clear hsl hrg
        go_wp2_with fail
        refine HS.out.mono ?_
        rintro e w2 ⟨rfl, L', hperm, hsrt, hsl2, hg2⟩
        have hln : L'.length = L.length := hperm.length_eq
        have HF := Lib.hid (And.intro hperm (And.intro hsrt (And.intro hsl2 hg2)))
        have HLN := Lib.hid hln
        clear hperm hsrt hsl2 hg2 hln
        go_wp2_with fail
        go_ret
        have hsl3 := (HF.out.2.2.1).mono (B' := w.heap.size) (by omega)
        rw [← HLN.out] at hsl3
        exact ⟨some ⟨b, off, none⟩, cap, L', by rw [HLN.out]; rfl, hsl3, HB.out.1.grown HF.out.2.2.2 HB.out.1.size (fun j hj => by cases hj; have := HB.out.2; omega), due_of HC.out.1 HC.out.2 HF.out.1 HF.out.2.1⟩
    · intro x c kk d ps w1 cnt1 hkey hlk hRc hat hrg1 hlt hg1 hs1 hen
      obtain ⟨x', hx1, rfl, hwx⟩ := Maps.keyOf_int_inv Try.underlying3 hkey
      obtain rfl : x = x' := by injection hx1
      have hx := HL.out.col.in_ x hlk
      obtain ⟨p, hp⟩ := Option.isSome_iff_exists.1 hx
      have hok := HTok.out.ok x p hp
      have hc : c = .agg p.arr := by
        have h1 := HH.out.2 x p hp d
        unfold kl at h1
        rw [hat] at h1
        simp only [heldR, Option.some.injEq, Prod.mk.injEq] at hRc
        have h2 := hRc.1.trans h1
        injection h2
      subst hc
      have hb1 : Below w.heap.size w w1 := HL.out.bl.grown hg1 HL.out.bl.size (fun j hj => by cases hj; exact Nat.le_refl _)
      have hsl1 : Sl w1 (w.heap.size + 1) 37 34 _ L.length (cellsP L) := HL.out.sl.grown hg1 (.inr (fun e => by have := HL.out.sl.ge _ e; omega))
      have hfew := HL.out.few
      have a9 : p.arr[9]? = some (.int .i64 p.du) := rfl
      have HX := Lib.hid (And.intro hrg1 (And.intro hb1 hsl1))
      have HP := Lib.hid (And.intro hp (And.intro hlk hlt))
      have HOK := Lib.hid hok
      have HW1 : Hid (w.heap.size < w1.heap.size) := Lib.hid (by have := hrg1.lt; exact this)
      clear hkey hlk hRc hat hrg1 hlt hg1 hs1 hx hp hok hb1 hsl1 hx1 hwx
      by_cases hd : p.du ≤ now
      · have d1 : decide (p.du ≤ now) = true := decide_eq_true hd
        have HD := Lib.hid hd
        clear hd
        obtain ⟨As, caps, rfl, _, _⟩ := HX.out.2.2.any
        go_wp2_with (first
          | (refine pw_put _ 7 (.tmp 19) rfl rfl rfl rfl rfl rfl p HOK.out rfl rfl ?_)
          | (refine pw_load rfl (.tmp 7) rfl w1.heap.size rfl p HOK.out (heap_alloc_new _ _) ?_)
          | (refine pw_lit37 rfl (.tmp 25) rfl p HOK.out rfl ?_)
          | (at_builtin; refine stop_here ?_))
        refine Lib.hid ?_
        refine wpList_append_sl _ rfl (.tmp 24) (.tmp 26) 48 rfl 37 i0 (.agg zP.arr) 34 320 Try.underlying48 hi hz0 hz1 hz2 (Pd.size zP_ok) (by decide) rfl (HX.out.2.2.below (w' := (w1.alloc (.cells p.arr 37)).alloc (.cells p.arr 37)) (by go_grown)) (some ⟨w1.heap.size + 1, 0, none⟩) 1 1 p.cells rfl (by simp) ((Pd.len HOK.out).trans (by decide)) (row_pd (heap_new_at _ _ (alloc_size _ _))) (Pd.one HOK.out) (by unfold maxLen; omega) (by omega) (by rw [alloc_size, alloc_size]; have := HW1.out; omega) ?_
        intro v9 w9 hsl9 hg9 hown9
        have hsl9' := sl_one (hok := HOK.out) hsl9
        have hge : ∀ q, (Value.slice As L.length caps).ownBlock = some q → w.heap.size + 1 ≤ q := fun q hq => HX.out.2.2.ge q hq
        have hrg9 := ((HX.out.1.alloc (.cells p.arr 37)).alloc (.cells p.arr 37)).kept hg9 (fun e => by have := hge _ e.symm; have := HM.out; omega) (fun e => by have := hge _ e.symm; omega)
        have hb9 := (HX.out.2.1.trans ((show Below w1.heap.size w1 ((w1.alloc (.cells p.arr 37)).alloc (.cells p.arr 37)) by go_grown).mono HX.out.2.1.size)).grown hg9 (by rw [alloc_size, alloc_size]; have := HW1.out; omega) (fun j hj => by have := hge _ hj; omega)
        obtain ⟨A9, cap9, rfl, _, _⟩ := hsl9'.any
        have H9 := Lib.hid (And.intro hsl9' (And.intro hrg9 hb9))
        clear hsl9 hg9 hown9 hsl9' hrg9 hb9 hge
        go_wp2_with fail
        go_roundw
        case rel => exact ⟨_, cnt1, _, ⟨H9.out.2.1, by have := HP.out.2.2; simp; omega, col_yes HL.out.col HTok.out HP.out.1 HP.out.2.1 HD.out, (by have h := H9.out.1; simp only [List.length_append, List.length_singleton] at h ⊢; exact h), H9.out.2.2⟩⟩
        case measure => rw [H9.out.2.1.left_eq, HL.out.rg.left_eq]; exact HP.out.2.2
      · have d1 : decide (p.du ≤ now) = false := decide_eq_false hd
        have HD := Lib.hid hd
        clear hd
        go_wp2_with (first
          | (refine pw_put _ 7 (.tmp 19) rfl rfl rfl rfl rfl rfl p HOK.out rfl rfl ?_))
        go_roundw
        case rel => exact ⟨_, cnt1, L, ⟨HX.out.1.alloc _, by have := HP.out.2.2; omega, col_no HL.out.col HTok.out HP.out.1 HD.out, HX.out.2.2.below (by go_grown), HX.out.2.1.trans ((show Below w1.heap.size w1 _ by go_grown).mono HX.out.2.1.size)⟩⟩
        case measure => rw [(HX.out.1.alloc _).left_eq, HL.out.rg.left_eq]; exact HP.out.2.2
end Go.Proofs.Ytbhiddppohbjhaa
