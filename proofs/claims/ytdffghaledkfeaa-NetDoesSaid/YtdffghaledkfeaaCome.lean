/- net.Net: Deliver, Next. -/
import Derived.Test.YtdffghaledkfeaaMoves
namespace Go.Proofs.Ytdffghaledkfeaa
open Go Go.RowKit Go.Maps Go.WideShapes Go.ChangeMaps Go.WideMaps Go.MapKept
set_option maxRecDepth 100000
theorem _root_.Go.Proofs.Ytdffghaledkfeaa.Sl.cut {w : World} {B : Nat} {e : TypeId} {sz n cap : Nat} {A : Option Addr} {xs : List Value} (h : Sl w B e sz (.slice A n cap) n xs) {c' : Nat} (h1 : n ≤ c') (h2 : c' ≤ cap) : Sl w B e sz (.slice A n c') n xs := by
  refine ⟨h.1, ?_⟩
  rcases h.2 with ⟨h0, hn⟩ | ⟨b, off, cap', cur, he, hB, hg, _, hm, hf, hc⟩
  · cases h0
    have : c' = 0 := by omega
    subst this
    exact .inl ⟨rfl, rfl⟩
  · cases he
    exact .inr ⟨b, off, c', cur, rfl, hB, hg, h1, by omega, Nat.le_trans (Nat.add_le_add_left (Nat.mul_le_mul_right _ h2) _) hf, hc⟩
section
variable {w : World} {B g mb c : Nat} {v : Value} {V : Int → Value} {way : List Pk} {came : Int → List Pk}

theorem NetAt.far (h : NetAt w B g mb c v V way came) {q : Nat} (hq : ¬ Own g mb v V q) (o : Nat) (u : Value) : NetAt (w.setCell ⟨q, o, none⟩ u) B g mb c v V way came := by
  have hb : ∀ k, k ≠ q → (w.setCell ⟨q, o, none⟩ u).heap[k]? = w.heap[k]? := fun k hk => Below.heap_setCell _ _ _ _ (by simpa using hk)
  exact ⟨(hb g fun e => hq (.inl e.symm)).trans h.obj, h.row.sl.of fun k hk => hb k fun e => hq (.inr (.inr (.inl (by rw [hk, e])))), h.map.of (hb mb fun e => hq (.inr (.inl e.symm))), fun j => (h.rows j).sl.of fun k hk => hb k fun e => hq (.inr (.inr (.inr ⟨j, by rw [hk, e]⟩))), h.dv, h.dd, h.g0, h.m0, h.few, h.cfew, h.c0⟩
theorem Turn.far {w1 : World} {v' : Value} {V' : Int → Value} (h : Turn g mb w w1 v v' V V') {q : Nat} (hq : w.heap.size ≤ q) (o : Nat) (u : Value) : Turn g mb w (w1.setCell ⟨q, o, none⟩ u) v v' V V' :=
  ⟨h.os, h.tape, h.output, by simpa [World.setCell] using h.size, fun k hk hn => (Below.heap_setCell _ _ _ _ (by simp; omega)).trans (h.keep k hk hn), h.own⟩
/-- a packet's cells stored over another one's -/
theorem put3 {w1 : World} {q : Nat} {a b d : Value} (h : w1.heap[q]? = some (.cells #[a, b, d] 23)) (x y z : Value) :
    (((w1.setCell ⟨q, 0, none⟩ x).setCell ⟨q, 1, none⟩ y).setCell ⟨q, 2, none⟩ z).heap[q]? = some (.cells #[x, y, z] 23) := by
  have h1 := setCell_heap h 0 x
  have h2 := setCell_heap h1 1 y
  have h3 := setCell_heap h2 2 z
  exact h3.trans rfl
/-! ### Next -/
theorem next_nil (i : Int) (w : World) : Calls Try.prog 16 #[.pointer none, .int .i64 i] w fun e w' => e = .returned (.tuple #[.agg #[.int .i64 0, .int .i64 0, .string ⟨#[]⟩], .bool false]) ∧ Below w.heap.size w w' := by
  go_enter Try.func16, Try.ntmps16
  go_wp2
  go_returns
  exact ⟨rfl, by go_grown⟩
theorem next_none (h : NetAt w B g mb c v V way came) {k : Int} (hk : kok k) (h0 : (came k).length = 0) :
    Calls Try.prog 16 #[.pointer (some ⟨g, 0, none⟩), .int .i64 k] w fun e w' => e = .returned (.tuple #[.agg #[.int .i64 0, .int .i64 0, .string ⟨#[]⟩], .bool false]) ∧ Below w.heap.size w w' := by
  have hm : MapAt (w.alloc (.cells #[.int .i64 0, .int .i64 0, .string ⟨#[]⟩] 23)) mb c V := h.map.of (alloc_old _ _ _ h.map.lt)
  have HL := hm.look hk
  obtain ⟨A, cap, hV, _, _⟩ := (h.rows k).sl.any
  rw [hV, h0] at HL
  have c1 := h.cc1
  have hg0 := h.glt
  have hg1 : ¬ g = w.heap.size := by omega
  clear h hm
  go_enter Try.func16, Try.ntmps16
  go_wp2_with fail
  go_returns
  exact ⟨rfl, by go_grown⟩
set_option maxHeartbeats 4000000 in
theorem next_some (h : NetAt w B g mb c v V way came) {k : Int} (hk : kok k) {p : Pk} {r : List Pk} (h0 : came k = p :: r) (hc : c + 1 ≤ 1000000) :
    Calls Try.prog 16 #[.pointer (some ⟨g, 0, none⟩), .int .i64 k] w fun e w' => ∃ u, e = .returned (.tuple #[.agg #[.int .i64 p.f, .int .i64 p.t, .string p.d], .bool true]) ∧ Turn g mb w w' v v V (upd V k u) ∧ NetAt w' B g mb (c + 1) v (upd V k u) way (upd came k r) := by
  have hb : Below w.heap.size w (w.alloc (.cells #[.int .i64 0, .int .i64 0, .string ⟨#[]⟩] 23)) := by go_grown
  have hm : MapAt (w.alloc (.cells #[.int .i64 0, .int .i64 0, .string ⟨#[]⟩] 23)) mb c V := h.map.of (alloc_old _ _ _ h.map.lt)
  have HL := hm.look hk
  have hrk : Rw w B (V k) (p :: r) := by rw [← h0]; exact h.rows k
  have hfew : r.length + 1 ≤ 64 := by have := h.cfew k; rw [h0] at this; simpa using this
  obtain ⟨b, off, cap, hV, hcap, hcm⟩ := hrk.sl.shape (by simp)
  rw [hV] at HL
  have hsl : Sl w B 23 3 (.slice (some ⟨b, off, none⟩) (r.length + 1) cap) (r.length + 1) (cells3 (p :: r)) := by have := hrk.sl; rw [hV] at this; exact this
  have d0 : w.cell? ⟨b, off, none⟩ = some (.int .i64 p.f) := hsl.cell (j := 0) rfl
  have d1 : w.cell? ⟨b, off + 1, none⟩ = some (.int .i64 p.t) := hsl.cell (j := 1) rfl
  have d2 : w.cell? ⟨b, off + 2, none⟩ = some (.string p.d) := hsl.cell (j := 2) rfl
  have ht := (hsl.cut (c' := r.length + 1) (Nat.le_refl _) hcap).tail
  rw [Nat.add_sub_cancel] at ht
  obtain ⟨A', hA⟩ : ∃ A' : Option Addr, (if r = [] then some (⟨b, off, none⟩ : Addr) else some ⟨b, off + 3, none⟩) = A' := ⟨_, rfl⟩
  have hif : (if r.length + 1 = 1 then some (⟨b, off, none⟩ : Addr) else some ⟨b, off + 3, none⟩) = A' := by
    rw [← hA]
    cases r with
    | nil => rfl
    | cons x l => rw [if_neg (by simp), if_neg (by simp)]
  rw [hif] at ht
  have HA := Lib.hid hA
  have hrow : Rw w B (.slice A' r.length r.length) r := ht
  have hub : ∀ q, (Value.slice A' r.length r.length).ownBlock = some q → (V k).ownBlock = some q := by
    intro q hq
    rw [hV]
    subst hA
    by_cases h1 : r = []
    · rw [if_pos h1] at hq; exact hq
    · rw [if_neg h1] at hq; exact hq
  have hlt := hsl.lt b rfl
  have hlt' : ¬ b = w.heap.size := by omega
  have c1 := h.cc1
  have hg0 := h.glt
  have hg1 : ¬ g = w.heap.size := by omega
  have HAT := Lib.hid h
  have HR := Lib.hid (And.intro hrow hub)
  have HS := Lib.hid hsl
  have HV := Lib.hid hV
  have HX := Lib.hid hm
  have hki := hk
  clear h hm hrow hub ht hb hrk hV hk hA hsl hlt
  go_enter Try.func16, Try.ntmps16
  go_wp2_with fail
  obtain ⟨w1, hrun, hmap, hgr⟩ := (show MapAt (w.alloc (.cells #[.int .i64 0, .int .i64 0, .string ⟨#[]⟩] 23)).drew mb c V from HX.out).put hki (by have := HAT.out.c0; unfold maxLen; omega) (.slice A' r.length r.length)
  have hsz : (w.alloc (.cells #[.int .i64 0, .int .i64 0, .string ⟨#[]⟩] 23)).drew.heap.size = w.heap.size + 1 := alloc_size _ _
  have hold : ∀ q, q < w.heap.size → (w.alloc (.cells #[.int .i64 0, .int .i64 0, .string ⟨#[]⟩] 23)).drew.heap[q]? = w.heap[q]? := fun q hq => alloc_old _ _ _ hq
  have hfin := HAT.out.mapPut hmap hgr (fun q hq => .inr (hold q hq)) (by omega) rfl rfl rfl (l := r) ((HR.out.1.sl.below (w' := (w.alloc (.cells #[.int .i64 0, .int .i64 0, .string ⟨#[]⟩] 23)).drew) (by go_grown)).grown hgr (.inr fun e => HAT.out.mV k (HR.out.2 _ e))) (fun q hq => .inl (HR.out.2 q hq)) (by omega) hc
  have HF := Lib.hid hfin
  have hs1 := (HS.out.below (w' := (w.alloc (.cells #[.int .i64 0, .int .i64 0, .string ⟨#[]⟩] 23)).drew) (by go_grown)).grown hgr (.inr fun e => HAT.out.mV k (HV.out ▸ e))
  have e0 : w1.cell? ⟨b, off, none⟩ = some (.int .i64 p.f) := hs1.cell (j := 0) rfl
  have e1 : w1.cell? ⟨b, off + 1, none⟩ = some (.int .i64 p.t) := hs1.cell (j := 1) rfl
  have e2 : w1.cell? ⟨b, off + 2, none⟩ = some (.string p.d) := hs1.cell (j := 2) rfl
  have hn1 : w1.heap[w.heap.size]? = some (.cells #[.int .i64 0, .int .i64 0, .string ⟨#[]⟩] 23) := (hgr.block w.heap.size (by omega) (by have := HAT.out.map.lt; simp; omega)).trans (heap_alloc_new w _)
  have hp3 := put3 hn1 (.int .i64 p.f) (.int .i64 p.t) (.string p.d)
  have s0 : (w1.setCell ⟨w.heap.size, 0, none⟩ (.int .i64 p.f)).cell? ⟨w.heap.size, 0, none⟩ = some (.int .i64 p.f) := by rw [row_cell (setCell_heap hn1 0 _)]; rfl
  have s1 : ((w1.setCell ⟨w.heap.size, 0, none⟩ (.int .i64 p.f)).setCell ⟨w.heap.size, 1, none⟩ (.int .i64 p.t)).cell? ⟨w.heap.size, 1, none⟩ = some (.int .i64 p.t) := by rw [row_cell (setCell_heap (setCell_heap hn1 0 _) 1 _)]; rfl
  have r2 : (((w1.setCell ⟨w.heap.size, 0, none⟩ (.int .i64 p.f)).setCell ⟨w.heap.size, 1, none⟩ (.int .i64 p.t)).setCell ⟨w.heap.size, 2, none⟩ (.string p.d)).cell? ⟨w.heap.size, 2, none⟩ = some (.string p.d) := by rw [row_cell hp3]; rfl
  have f0 : w1.cell? ⟨w.heap.size, 0, none⟩ = some (.int .i64 0) := by rw [row_cell hn1]; rfl
  have f1 : w1.cell? ⟨w.heap.size, 1, none⟩ = some (.int .i64 0) := by rw [row_cell hn1]; rfl
  have f2 : w1.cell? ⟨w.heap.size, 2, none⟩ = some (.string ⟨#[]⟩) := by rw [row_cell hn1]; rfl
  have ff : ∀ o, w1.frozen? ⟨w.heap.size, o, none⟩ = false := row_froz hn1
  clear hfin hmap hgr hsz hold hs1 hn1 hp3
  have h11 : (1 : Int) ≤ (r.length : Int) + 1 := by omega
  have h12 : (0 : Int) ≤ (r.length : Int) + 1 := by omega
  have h13 : (r.length : Int) + 1 ≤ (cap : Int) := by
    have h14 : r.length + 1 ≤ cap := hcap
    omega
  have hA := HA.out
  go_region
  go_wp2_with fail
  (try simp only [Exit.inBlock, Exit.then])
  refine bodyPost_ret (by simp [results, Try.results16, go_sem, s0, s1, r2]; try rfl) rfl ?_
  have hno : ¬ Own g mb v (upd V k (.slice A' r.length r.length)) w.heap.size := by
    rintro (e | e | e | ⟨j, e⟩)
    · exact hg1 e.symm
    · have := HAT.out.map.lt; omega
    · have := HAT.out.row.sl.lt _ e; omega
    · by_cases hj : j = k
      · subst hj; rw [upd_same] at e
        have := (HAT.out.rows j).sl.lt _ (HR.out.2 _ e); omega
      · rw [upd_other _ _ hj] at e
        have := (HAT.out.rows j).sl.lt _ e; omega
  exact ⟨_, rfl, ((HF.out.2.far (Nat.le_refl _) _ _).far (Nat.le_refl _) _ _).far (Nat.le_refl _) _ _, ((HF.out.1.far hno _ _).far hno _ _).far hno _ _⟩
end
end Go.Proofs.Ytdffghaledkfeaa
