/- posthouseref25.Net: To, send, next. -/
import Derived.Test.YtdffghaledkfeaaRefObj
namespace Go.Proofs.Ytdffghaledkfeaa
open Go Go.RowKit
set_option maxRecDepth 100000
theorem to_news {W : World} {S : Nat} {f t : Int} {d : ByteArray} {w : World} (h : W = w.alloc (.cells #[.int .i64 f, .int .i64 t, .string d] 23)) (hS : S = w.heap.size := by rfl) : ∀ ad, some (⟨S, 0, none⟩ : Addr) = some ad → ∀ j u, [Value.int .i64 f, .int .i64 t, .string d][j]? = some u → W.cell? (ad.add j) = some u := by
  subst h hS
  exact row_news3 (heap_alloc_new w _)
def toP (i : Int) (p : Pk) : Bool := decide (p.t = i)
section
variable {w : World} {B r : Nat} {wv cv : Value} {way cl : List Pk}
/-! ### To -/
set_option maxHeartbeats 4000000 in
theorem to_any (h : RefAt w B r wv cv way cl) (i : Int) : Calls Try.prog 19 #[.pointer (some ⟨r, 0, none⟩), .int .i64 i] w (CloneV (cl.filter (toP i)) w) := by
  obtain ⟨i0, hi, hz0, hz1, hz2⟩ := info_parts info23
  obtain ⟨A, cap, rfl, _, _⟩ := h.crow.sl.any
  have c1 := h.cc1
  have hcf := h.cfew
  have HAT := Lib.hid h
  have hrl := h.rlt
  clear h
  go_enter Try.func19, Try.ntmps19
  go_wp2
  go_loopw [5, 6] (fun o n wr => ∃ (k : Nat) (A' : Option Addr) (cap' : Nat), k ≤ cl.length ∧ n = .int .i64 k ∧ o = .slice A' ((cl.take k).filter (toP i)).length cap' ∧ Rw wr w.heap.size (.slice A' ((cl.take k).filter (toP i)).length cap') ((cl.take k).filter (toP i)) ∧ Below w.heap.size w wr) (fun _ n _ => cl.length - (intOf n).toNat)
  case atStart => exact ⟨0, none, 0, by omega, rfl, rfl, Sl.nil _ _ _ _, Below.refl _ _⟩
  case round =>
    obtain ⟨k, A', cap', hk, rfl, rfl, hrow, hb⟩ := hrel
    have hat := HAT.out.below hb
    have c1 := hat.cc1
    have HB := Lib.hid hb
    have HR := Lib.hid hrow
    have hfl : ((cl.take k).filter (toP i)).length ≤ 1000 := Nat.le_trans (List.length_filter_le _ _) (by rw [List.length_take]; omega)
    clear hb hrow
    by_cases hlt : k < cl.length
    · obtain ⟨b, off, cap2, he, _, _⟩ := hat.crow.sl.shape (by omega)
      cases he
      obtain ⟨d0, d1, d2⟩ := hat.crow.pk hlt
      clear hat
      have htk : cl.take (k + 1) = cl.take k ++ [cl[k]] := List.take_succ_eq_append_getElem hlt
      generalize cl[k] = p at *
      by_cases ht : p.t = i
      · have htb : (p.t == i) = true := by simp [ht]
        have hfk : (cl.take (k + 1)).filter (toP i) = (cl.take k).filter (toP i) ++ [p] := by rw [htk, List.filter_append]; simp [toP, ht]
        have HFK := Lib.hid hfk
        clear ht htk hfk
        go_wp2_with (at_builtin; refine wpList_append_sl _ rfl (.tmp 26) (.tmp 34) 30 rfl 23 i0 (.agg #[.int .i64 0, .int .i64 0, .string ⟨#[]⟩]) 3 32 Try.underlying30 hi hz0 hz1 hz2 rfl (by decide) rfl (HR.out.sl.below (by go_grown)) (some ⟨wr.heap.size, 0, none⟩) 1 1 [.int .i64 p.f, .int .i64 p.t, .string p.d] rfl (by simp) rfl (to_news rfl) (by intro u hu; simp at hu; rcases hu with rfl | rfl | rfl <;> rfl) (by unfold maxLen; omega) (by omega) (by exact Nat.le_trans HB.out.size (show Below wr.heap.size wr _ by go_grown).size) ?_)
        intro v' w1 hsl hgrow hown
        obtain ⟨b', off', cap', rfl, _, _⟩ := hsl.shape (by omega)
        have hfin : Rw w1 w.heap.size (.slice (some ⟨b', off', none⟩) (((cl.take k).filter (toP i)).length + 1) cap') ((cl.take k).filter (toP i) ++ [p]) ∧ Below w.heap.size w w1 :=
          ⟨by show Sl _ _ _ _ _ _ _; rw [List.length_append, List.length_singleton, cells3_append]; exact hsl, (HB.out.trans ((show Below wr.heap.size wr _ by go_grown).mono HB.out.size)).grown hgrow (Nat.le_trans HB.out.size (show Below wr.heap.size wr _ by go_grown).size) (fun q hq => HR.out.sl.ge q hq)⟩
        have HF := Lib.hid hfin
        clear hsl hgrow hown hfin
        go_wp2_with fail
        go_roundw
        case rel =>
          refine ⟨k + 1, some ⟨b', off', none⟩, cap', by omega, by go_num, by rw [HFK.out, List.length_append]; rfl, ?_, HF.out.2⟩
          rw [HFK.out, List.length_append]
          exact HF.out.1
        case measure => simp [intOf]; omega
      · have htb : (p.t == i) = false := by simp [ht]
        have hfk : (cl.take (k + 1)).filter (toP i) = (cl.take k).filter (toP i) := by rw [htk, List.filter_append]; simp [toP, ht]
        have HFK := Lib.hid hfk
        clear ht htk hfk
        go_wp2_with fail
        go_roundw
        case rel => exact ⟨k + 1, A', cap', by omega, by go_num, by rw [HFK.out], by rw [HFK.out]; exact HR.out, HB.out⟩
        case measure => simp [intOf]; omega
    · clear hat
      have hkk : k = cl.length := by omega
      subst hkk
      go_wp2_with fail
      go_returns
      have h1 := HR.out
      rw [List.take_length] at h1
      exact ⟨A', cap', by rw [List.take_length]; rfl, h1, HB.out⟩
end
end Go.Proofs.Ytdffghaledkfeaa
