/- posthouseref26.Table: client, Of, By, Len. -/
import Derived.Test.YtbhiddppohbjhaaRTab
namespace Go.Proofs.Ytbhiddppohbjhaa
open Go Go.RowKit Go.Maps Go.WideShapes Go.ChangeMaps Go.WideMaps Go.MapKept
set_option maxRecDepth 100000
theorem client_yes (c : Int) (w : World) (h : 1 ≤ c ∧ c ≤ 4) : Calls Try.prog 32 #[.int .i64 c] w fun e w' => e = .returned (.bool true) ∧ w = w' := by
  obtain ⟨h1, h4⟩ := h
  go_enter Try.func32, Try.ntmps32
  go_wp2
  go_ret
  exact ⟨rfl, rfl⟩
theorem client_no (c : Int) (w : World) (h : ¬ (1 ≤ c ∧ c ≤ 4)) : Calls Try.prog 32 #[.int .i64 c] w fun e w' => e = .returned (.bool false) ∧ w = w' := by
  by_cases h1 : 1 ≤ c
  · have h4 : ¬ c ≤ 4 := by omega
    clear h
    go_enter Try.func32, Try.ntmps32
    go_wp2
    go_ret
    exact ⟨rfl, rfl⟩
  · clear h
    go_enter Try.func32, Try.ntmps32
    go_wp2
    go_ret
    exact ⟨rfl, rfl⟩
section
variable {M : Tb} {h : Tok M}
set_option maxHeartbeats 8000000 in
theorem rof_no (c : Int) (hc : ¬ (1 ≤ c ∧ c ≤ 4)) (w : World) : Calls Try.prog 17 #[.agg (tabA M h), .int .i64 c] w (OfV none w) := by
  have H1 := Lib.hid (fun w => client_no c w hc)
  clear hc
  go_enter Try.func17, Try.ntmps17
  go_wp2_with (first | (refine pw_alloc rfl rfl ?_))
  refine (H1.out _).mono ?_
  rintro e w1 ⟨rfl, rfl⟩
  go_wp2_with (first | (refine pw_build rfl rfl ?_) | (refine pw_store rfl (.tmp 4) (.tmp 16) rfl (w.heap.size + 1) zP zP_ok zP.arr (Pd.size zP_ok) rfl rfl (heap_new_at _ _ (alloc_size _ _)) ?_; intro w2 hb2 hg2 hs2; have hbl : Below w.heap.size w w2 := (show Below w.heap.size w ((w.alloc (.cells (tabA M h) 40)).alloc (.cells zP.arr 37)) by go_grown).grown hg2 (by rw [alloc_size, alloc_size]; omega) (fun j hj => by cases hj; omega)))
  (try simp only [Exit.inBlock, Exit.then])
  refine bodyPost_ret (res_two Try.results17 _ _ (w.heap.size + 1) zP zP_ok _ rfl rfl hb2) rfl ?_
  exact ⟨rfl, hbl⟩
set_option maxHeartbeats 8000000 in
theorem rof_in (n : Nat) (h1 : 1 ≤ n) (h4 : n ≤ 4) (w : World) : Calls Try.prog 17 #[.agg (tabA M h), .int .i64 n] w (OfV (M n) w) := by
  have H1 := Lib.hid (fun w => client_yes n w (by omega))
  have hb : (w.alloc (.cells (tabA M h) 40)).heap[w.heap.size]? = some (.cells (tabA M h) 40) := heap_alloc_new w _
  have hb2 : ((w.alloc (.cells (tabA M h) 40)).alloc (.cells zP.arr 37)).heap[w.heap.size]? = some (.cells (tabA M h) 40) := heap_old_at hb
  have his := tb_is hb2 h1 h4
  have hrg := tb_rng hb2 h1 h4
  have hok := h.vok n
  have hn5 : n < 5 := by omega
  have hbl : Below w.heap.size w ((w.alloc (.cells (tabA M h) 40)).alloc (.cells zP.arr 37)) := by go_grown
  have HX := Lib.hid (And.intro hrg (And.intro hok hbl))
  clear hb hb2 hrg hok hbl
  cases hm : M n with
  | none =>
    rw [hm] at his
    clear hm
    go_enter Try.func17, Try.ntmps17
    go_wp2_with (first | (refine pw_alloc rfl rfl ?_))
    refine (H1.out _).mono ?_
    rintro e w1 ⟨rfl, rfl⟩
    go_wp2_with (first | (refine pw_build rfl rfl ?_) | (refine pw_store rfl (.tmp 4) (.tmp 16) rfl (w.heap.size + 1) zP zP_ok zP.arr (Pd.size zP_ok) rfl rfl (heap_new_at _ _ (alloc_size _ _)) ?_; intro w2 hb2 hg2 hs2))
    (try simp only [Exit.inBlock, Exit.then])
    refine bodyPost_ret (res_two Try.results17 _ _ (w.heap.size + 1) zP zP_ok _ rfl rfl hb2) rfl ?_
    exact ⟨rfl, HX.out.2.2.grown hg2 (by rw [alloc_size, alloc_size]; omega) (fun j hj => by cases hj; omega)⟩
  | some p =>
    rw [hm] at his
    have hp : vOf (M n) = p := by rw [hm]; rfl
    rw [hp] at HX
    clear hm hp
    go_enter Try.func17, Try.ntmps17
    go_wp2_with (first | (refine pw_alloc rfl rfl ?_))
    refine (H1.out _).mono ?_
    rintro e w1 ⟨rfl, rfl⟩
    go_wp2_with (first
      | (refine pw_load_mid rfl (.tmp 19) rfl w.heap.size (5 + n * 34) rfl p HX.out.2.1 HX.out.1 ?_)
      | (refine pw_store rfl (.tmp 4) (.tmp 20) rfl (w.heap.size + 1) p HX.out.2.1 zP.arr (Pd.size zP_ok) rfl rfl (heap_new_at _ _ (alloc_size _ _)) ?_; intro w2 hb2 hg2 hs2))
    (try simp only [Exit.inBlock, Exit.then])
    refine bodyPost_ret (res_two Try.results17 _ _ (w.heap.size + 1) p HX.out.2.1 _ rfl rfl hb2) rfl ?_
    exact ⟨rfl, HX.out.2.2.grown hg2 (by rw [alloc_size, alloc_size]; omega) (fun j hj => by cases hj; omega)⟩
theorem rof_any (c : Int) (w : World) : Calls Try.prog 17 #[.agg (tabA M h), .int .i64 c] w (OfV (M c) w) := by
  by_cases hc : 1 ≤ c ∧ c ≤ 4
  · obtain ⟨n, rfl⟩ : ∃ n : Nat, c = n := ⟨c.toNat, by omega⟩
    exact rof_in n (by omega) (by omega) w
  · rw [h.none hc]
    exact rof_no c hc w
/-! ### Len -/
def cntTo (M : Tb) : Nat → Nat
  | 0 => 0
  | 1 => 0
  | 2 => one (M 1)
  | 3 => one (M 1) + one (M 2)
  | 4 => one (M 1) + one (M 2) + one (M 3)
  | _ => cnt M
theorem cntTo_next {k : Nat} (h1 : 1 ≤ k) (h4 : k ≤ 4) : cntTo M (k + 1) = cntTo M k + one (M k) := by
  rcases four h1 h4 with rfl | rfl | rfl | rfl
  · show one (M 1) = 0 + one (M 1); omega
  · rfl
  · rfl
  · rfl
theorem num_next {a b : Nat} (hle : b ≤ 4) (h : b = a + 1) : Value.int .i64 (wrap64 ((a : Int) + 1)) = .int .i64 (b : Int) := by
  subst h
  rw [IntWalk.wrap64_in _ (by omega), Int.natCast_add]
  rfl
set_option maxHeartbeats 8000000 in
theorem rlen_any (w : World) : Calls Try.prog 12 #[.agg (tabA M h)] w fun e w' => e = .returned (.int .i64 (cnt M)) ∧ Below w.heap.size w w' := by
  have hb : (w.alloc (.cells (tabA M h) 40)).heap[w.heap.size]? = some (.cells (tabA M h) 40) := heap_alloc_new w _
  have HB := Lib.hid hb
  clear hb
  go_enter Try.func12, Try.ntmps12
  go_wp2
  go_loop [3, 4] (fun n i => ∃ k : Nat, 1 ≤ k ∧ k ≤ 5 ∧ i = .int .i64 k ∧ n = .int .i64 (cntTo M k)) (fun _ i => 5 - (intOf i).toNat)
  case atStart => exact ⟨1, by omega, by omega, rfl, rfl⟩
  case round =>
    obtain ⟨k, h1, h5, rfl, rfl⟩ := hrel
    by_cases h4 : k ≤ 4
    · have his := tb_is HB.out h1 h4
      have hk5 : k < 5 := by omega
      have hn := cntTo_next (M := M) h1 h4
      have hle : cntTo M (k + 1) ≤ 4 := by
        have := one_le (M 1); have := one_le (M 2); have := one_le (M 3); have := one_le (M 4)
        rcases four h1 h4 with rfl | rfl | rfl | rfl <;> simp only [cntTo, cnt] <;> omega
      cases hm : M k with
      | none =>
        rw [hm] at his hn
        have hn' : cntTo M (k + 1) = cntTo M k := by rw [hn]; rfl
        have HN := Lib.hid hn'
        clear hm hn hn'
        go_wp2
        go_round
        case rel => exact ⟨k + 1, by omega, by omega, by go_num, by rw [HN.out]⟩
        case measure => simp [intOf]; omega
      | some p =>
        rw [hm] at his hn
        have hn' : cntTo M (k + 1) = cntTo M k + 1 := by rw [hn]; rfl
        have HN := Lib.hid hn'
        clear hm hn hn'
        go_wp2
        go_round
        case rel => exact ⟨k + 1, by omega, by omega, by go_num, num_next hle HN.out⟩
        case measure => simp [intOf]; omega
    · have hk : cntTo M k = cnt M := by
        obtain rfl : k = 5 := by omega
        rfl
      have HK := Lib.hid hk
      clear hk
      go_wp2
      go_ret
      exact ⟨by rw [← HK.out]; rfl, by go_grown⟩
end
end Go.Proofs.Ytbhiddppohbjhaa
