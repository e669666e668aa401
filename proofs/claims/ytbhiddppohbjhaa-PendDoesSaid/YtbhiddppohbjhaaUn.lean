/- PendUnlike: the walk. -/
import Derived.Test.YtbhiddppohbjhaaUnLaw
namespace Go.Proofs.Ytbhiddppohbjhaa
open Go Go.RowKit Go.Maps Go.WideShapes Go.ChangeMaps Go.WideMaps Go.MapKept
set_option maxRecDepth 100000
theorem st_cells {w : World} {b o : Nat} {s : St} (h : w.rangeAt b o s.cells) : w.cell? ⟨b, o, none⟩ = some (.int .i64 s.k) ∧ w.cell? ⟨b, o + 1, none⟩ = some (.int .i64 s.c) := ⟨h 0 _ rfl, h 1 _ rfl⟩
structure Un (W w : World) (g mb : Nat) : Prop where
  has : ∃ M, PA w W.heap.size g mb M ∧ Below W.heap.size W w
theorem bx_below {w w' : World} {q : Nat} {p : Pd} (h : w.heap[q]? = some (.cells p.arr 37)) (hb : Below w.heap.size w w') : w'.heap[q]? = some (.cells p.arr 37) := (hb.block _ (heap_lt h)).trans h
theorem bx_ag {w : World} {q : Nat} {p : Pd} (h : w.heap[q]? = some (.cells p.arr 37)) : w.cell? ⟨q, 6, none⟩ = some (.bool p.ag) := by rw [row_cell h]; rfl
theorem pd_cells {w : World} {B b off cap : Nat} {L : List Pk} (h : Sl w B 37 34 (.slice (some ⟨b, off, none⟩) L.length cap) L.length (cellsP L)) {k : Nat} (hk : k < L.length) :
    w.cell? ⟨b, off + k * 34, none⟩ = some (.int .i64 L[k].1.cl) ∧ w.cell? ⟨b, off + k * 34 + 7, none⟩ = some (.int .i64 L[k].1.up) ∧ w.cell? ⟨b, off + k * 34 + 9, none⟩ = some (.int .i64 L[k].1.du) := by
  have key : ∀ j, j < 34 → ∀ u, (encP L[k])[j]? = some u → w.cell? ⟨b, off + k * 34 + j, none⟩ = some u := fun j hj u hu => by
    rw [Nat.add_assoc]
    refine h.cell ?_
    rw [cellsP_get L _ (by have := Nat.mul_le_mul_right 34 (show k + 1 ≤ L.length from hk); rw [Nat.add_mul] at this; omega), show (k * 34 + j) / 34 = k by omega, show (k * 34 + j) % 34 = j by omega]
    have hl : j < (encP L[k]).length := by rw [encP_len]; exact hj
    have e : L.toArray[k]! = L[k] := by rw [getElem!_pos _ k (by simpa using hk)]; simp
    rw [e, getElem!_pos _ j hl, ← hu, List.getElem?_eq_getElem hl]
  exact ⟨key 0 (by omega) _ rfl, key 7 (by omega) _ rfl, key 9 (by omega) _ rfl⟩
set_option maxHeartbeats 32000000 in
theorem unlike_walk (A : Option Addr) (L : List St) (cap : Nat) (hlen : L.length ≤ maxLen) (hall : ∀ x ∈ L, x.ok) (w : World) (hs : StsAt w A L) :
    Calls Try.prog 4 #[.slice A L.length cap] w fun e w' => e = .returned (.bool true) ∧ Below w.heap.size w w' := by
  have HL := Lib.hid (large_any A L cap w hlen hs hall)
  have HK := Lib.hid known_any
  have HNew := Lib.hid new_any
  have HS := Lib.hid hs
  have HAll := Lib.hid hall
  clear hs hall
  go_enter Try.func4, Try.ntmps4
  go_wp2_with fail
  refine HL.out.mono ?_
  rintro e w1 ⟨b, rfl, hb1, hb60⟩
  have HB1 := Lib.hid hb1
  clear hb1
  cases b
  · have h60 := hb60 rfl
    clear hb60
    go_wp2_with fail
    refine (HNew.out _).mono ?_
    rintro e w2 ⟨g, mb, rfl, hb2, hp2⟩
    have HU : Hid (Un w w2 g mb) := Lib.hid ⟨_, ⟨hp2.obj, hp2.map, Nat.le_trans HB1.out.size hp2.g0, Nat.le_trans HB1.out.size hp2.m0, hp2.ok⟩, HB1.out.trans (hb2.mono HB1.out.size)⟩
    clear hb2 hp2
    go_wp2_with fail
    go_loopw [4] (fun i wr => ∃ k : Nat, k ≤ L.length ∧ i = .int .i64 k ∧ Un w wr g mb) (fun i _ => L.length - (intOf i).toNat)
    case atStart => exact ⟨0, by omega, rfl, HU.out⟩
    case round =>
      obtain ⟨k, hk, rfl, ⟨M, hp, hbw⟩⟩ := hrel
      by_cases hlt : k < L.length
      · obtain ⟨b, off, rfl, hblt, hst⟩ := HS.out.at_ hlt
        have hso := HAll.out L[k] (by simp)
        generalize L[k] = s at *
        obtain ⟨c0, c1⟩ := st_cells (range_below hst hbw hblt)
        have HOF := Lib.hid (of_any hp hso.c)
        have hvok := hp.ok.vok s.c
        have HP := Lib.hid (And.intro hp (And.intro hbw (And.intro hso (And.intro hst hblt))))
        clear hp hbw
        go_wp2_with fail
        refine HOF.out.mono ?_
        rintro e w3 ⟨rfl, hb3⟩
        have hb4 := hb3.trans ((show Below w3.heap.size w3 (w3.alloc (.cells (vOf (M s.c)).arr 37)) by go_grown).mono hb3.size)
        have hp4 := HP.out.1.below hb4
        have hw4 := HP.out.2.1.trans (hb4.mono HP.out.2.1.size)
        have hr4 := range_below HP.out.2.2.2.1 hw4 HP.out.2.2.2.2
        have HDO := Lib.hid (do_any hp4 hw4.size HP.out.2.2.1)
        have hpo := doM_ok HP.out.1.ok HP.out.2.2.1
        have hx4 : (w3.alloc (.cells (vOf (M s.c)).arr 37)).heap[w3.heap.size]? = some (.cells (vOf (M s.c)).arr 37) := heap_alloc_new _ _
        have hmb4 : w3.heap.size ≠ mb := by have := HP.out.1.map.lt; have := hb3.size; omega
        have H4 := Lib.hid (And.intro hr4 (And.intro hw4 (And.intro hx4 (And.intro hmb4 (And.intro hpo hvok)))))
        clear hb3 hb4 hp4 hw4 hr4 hx4 hmb4 hpo hvok c0 c1 hst hso
        generalize hpq : vOf (M s.c) = p at *
        generalize hth : (M s.c).isSome = th at *
        go_wp2_with (first
          | (refine pw_put _ 5 (.tmp 31) rfl rfl rfl rfl rfl rfl p H4.out.2.2.2.2.2 rfl rfl ?_)
          | (refine pw_load44_mid rfl (.tmp 36) rfl b (off + k * 38) rfl s HP.out.2.2.1 H4.out.1 ?_))
        refine HDO.out.mono ?_
        rintro e w5 ⟨rfl, hp5, hg5⟩
        have hw5 : Below w.heap.size w w5 := H4.out.2.1.grown hg5 H4.out.2.1.size (fun j hj => by cases hj; exact HP.out.1.m0)
        obtain ⟨c0, c1⟩ := st_cells (range_below HP.out.2.2.2.1 hw5 HP.out.2.2.2.2)
        have hx5 : w5.heap[w3.heap.size]? = some (.cells p.arr 37) := (hg5.block _ (heap_lt H4.out.2.2.1) (by simpa using H4.out.2.2.2.1)).trans H4.out.2.2.1
        have HOF2 := Lib.hid (of_any hp5 HP.out.2.2.1.c)
        have hvok2 := hp5.ok.vok s.c
        have H5 := Lib.hid (And.intro hp5 (And.intro hw5 (And.intro hx5 hvok2)))
        clear hp5 hg5 hw5 hx5 hvok2
        go_wp2_with fail
        refine HOF2.out.mono ?_
        rintro e w6 ⟨rfl, hb6⟩
        have hb7 := hb6.trans ((show Below w6.heap.size w6 (w6.alloc (.cells (vOf ((doM M s).1 s.c)).arr 37)) by go_grown).mono hb6.size)
        have hw7 := H5.out.2.1.trans (hb7.mono H5.out.2.1.size)
        have hp7 := H5.out.1.below hb7
        obtain ⟨d0, d1⟩ := st_cells (range_below HP.out.2.2.2.1 hw7 HP.out.2.2.2.2)
        have ag1 := bx_ag (bx_below H5.out.2.2.1 hb7)
        have ag2 : (w6.alloc (.cells (vOf ((doM M s).1 s.c)).arr 37)).cell? ⟨w6.heap.size, 6, none⟩ = some (.bool (vOf ((doM M s).1 s.c)).ag) := bx_ag (heap_alloc_new _ _)
        have H7 := Lib.hid (And.intro hp7 hw7)
        have hlaw1 : 2 ≤ s.k ∧ s.k ≤ 4 → (doM M s).2 = th := fun h => by rw [← hth]; exact un_is h
        have hlaw2 : s.k = 3 → th = true → ((doM M s).1 s.c).isSome = true ∧ (p.ag = true → (vOf ((doM M s).1 s.c)).ag = true) := fun h h2 => by
          rw [← hth] at h2
          rw [← hpq]
          exact un_came h h2
        have H5O := Lib.hid H5.out.2.2.2
        clear hb6 hb7 hw7 hp7 c0 c1 d1 hpq hth
        generalize vOf ((doM M s).1 s.c) = q at *
        generalize ((doM M s).1 s.c).isSome = st at *
        generalize (doM M s).2 = is at *
        by_cases h3 : s.k = 3
        · have his := hlaw1 (by omega)
          rw [h3] at d0
          subst his
          cases is with
          | false =>
            clear h3
            clear hlaw1 hlaw2
            go_wp2_with (first | (refine pw_put _ 8 (.tmp 47) rfl rfl rfl rfl rfl rfl q H5O.out rfl rfl ?_))
            go_roundw
            case rel => exact ⟨k + 1, by omega, by go_num, ⟨_, H7.out.1, H7.out.2⟩⟩
            case measure => simp [intOf]; omega
          | true =>
            obtain ⟨hst, hag⟩ := hlaw2 h3 rfl
            subst hst
            clear h3
            by_cases hpa : p.ag = true
            · have hqa := hag hpa
              rw [hpa] at ag1
              rw [hqa] at ag2
              clear hag hpa hqa
              clear hlaw1 hlaw2
              go_wp2_with (first | (refine pw_put _ 8 (.tmp 47) rfl rfl rfl rfl rfl rfl q H5O.out rfl rfl ?_))
              go_roundw
              case rel => exact ⟨k + 1, by omega, by go_num, ⟨_, H7.out.1, H7.out.2⟩⟩
              case measure => simp [intOf]; omega
            · have hpa : p.ag = false := by simpa using hpa
              rw [hpa] at ag1
              clear hag hpa
              clear hlaw1 hlaw2
              go_wp2_with (first | (refine pw_put _ 8 (.tmp 47) rfl rfl rfl rfl rfl rfl q H5O.out rfl rfl ?_))
              go_roundw
              case rel => exact ⟨k + 1, by omega, by go_num, ⟨_, H7.out.1, H7.out.2⟩⟩
              case measure => simp [intOf]; omega
        · have e3 : (s.k == 3) = false := by simp [h3]
          by_cases h24 : 2 ≤ s.k ∧ s.k ≤ 4
          · have his := hlaw1 h24
            have d2 : decide (2 ≤ s.k) = true := decide_eq_true h24.1
            have d4 : decide (s.k ≤ 4) = true := decide_eq_true h24.2
            subst his
            cases is with
            | false =>
              clear h3 h24
              clear hlaw1 hlaw2
              go_wp2_with (first | (refine pw_put _ 8 (.tmp 47) rfl rfl rfl rfl rfl rfl q H5O.out rfl rfl ?_))
              go_roundw
              case rel => exact ⟨k + 1, by omega, by go_num, ⟨_, H7.out.1, H7.out.2⟩⟩
              case measure => simp [intOf]; omega
            | true =>
              clear h3 h24
              clear hlaw1 hlaw2
              go_wp2_with (first | (refine pw_put _ 8 (.tmp 47) rfl rfl rfl rfl rfl rfl q H5O.out rfl rfl ?_))
              go_roundw
              case rel => exact ⟨k + 1, by omega, by go_num, ⟨_, H7.out.1, H7.out.2⟩⟩
              case measure => simp [intOf]; omega
          · by_cases h2 : 2 ≤ s.k
            · have d2 : decide (2 ≤ s.k) = true := decide_eq_true h2
              have d4 : decide (s.k ≤ 4) = false := decide_eq_false (by omega)
              cases is with
              | false =>
                clear h3 h24 h2
                clear hlaw1 hlaw2
                go_wp2_with (first | (refine pw_put _ 8 (.tmp 47) rfl rfl rfl rfl rfl rfl q H5O.out rfl rfl ?_))
                go_roundw
                case rel => exact ⟨k + 1, by omega, by go_num, ⟨_, H7.out.1, H7.out.2⟩⟩
                case measure => simp [intOf]; omega
              | true =>
                clear h3 h24 h2
                clear hlaw1 hlaw2
                go_wp2_with (first | (refine pw_put _ 8 (.tmp 47) rfl rfl rfl rfl rfl rfl q H5O.out rfl rfl ?_))
                go_roundw
                case rel => exact ⟨k + 1, by omega, by go_num, ⟨_, H7.out.1, H7.out.2⟩⟩
                case measure => simp [intOf]; omega
            · have d2 : decide (2 ≤ s.k) = false := decide_eq_false h2
              cases is with
              | false =>
                clear h3 h24 h2
                clear hlaw1 hlaw2
                go_wp2_with (first | (refine pw_put _ 8 (.tmp 47) rfl rfl rfl rfl rfl rfl q H5O.out rfl rfl ?_))
                go_roundw
                case rel => exact ⟨k + 1, by omega, by go_num, ⟨_, H7.out.1, H7.out.2⟩⟩
                case measure => simp [intOf]; omega
              | true =>
                clear h3 h24 h2
                clear hlaw1 hlaw2
                go_wp2_with (first | (refine pw_put _ 8 (.tmp 47) rfl rfl rfl rfl rfl rfl q H5O.out rfl rfl ?_))
                go_roundw
                case rel => exact ⟨k + 1, by omega, by go_num, ⟨_, H7.out.1, H7.out.2⟩⟩
                case measure => simp [intOf]; omega
      · have HDU := Lib.hid (due_any hp 9223372036854775807)
        have HP := Lib.hid (And.intro hp hbw)
        clear hp hbw
        go_wp2_with fail
        refine HDU.out.mono ?_
        rintro e w3 ⟨A2, cap2, D, rfl, hsl, hb3, hdue⟩
        have hln : D.length = cnt M := due_all HP.out.1.ok hdue
        have hlen2 := len_any (HP.out.1.below hb3)
        rw [← hln] at hlen2
        have HLEN := Lib.hid hlen2
        have HD := Lib.hid (And.intro hdue (And.intro hsl (HP.out.2.trans (hb3.mono HP.out.2.size))))
        have hfew : D.length ≤ 4 := by rw [hln]; exact cnt_le M
        clear hsl hb3 hdue hln hlen2
        go_wp2_with fail
        refine HLEN.out.mono ?_
        rintro e w4 ⟨rfl, rfl⟩
        go_wp2_with fail
        go_loopw [11] (fun i wq => ∃ k : Nat, k ≤ D.length ∧ i = .int .i64 k ∧ Below w3.heap.size w3 wq) (fun i _ => D.length - (intOf i).toNat)
        case atStart => exact ⟨0, by omega, rfl, Below.refl _ _⟩
        case round =>
          obtain ⟨i, hi, rfl, hbq⟩ := hrel
          have HBQ := Lib.hid hbq
          clear hbq
          by_cases hil : i < D.length
          · obtain ⟨b2, off2, cap3, he, _, _⟩ := HD.out.2.1.shape (by omega)
            cases he
            have hili : (i : Int) < (D.length : Int) := by omega
            go_wp2_with fail
            go_loopw [12] (fun j wq => ∃ m : Nat, m ≤ i ∧ j = .int .i64 m ∧ Below w3.heap.size w3 wq) (fun j _ => i - (intOf j).toNat)
            case atStart => exact ⟨0, by omega, rfl, HBQ.out⟩
            case round =>
              obtain ⟨m, hm, rfl, hbm⟩ := hrel
              have HBM := Lib.hid hbm
              clear hbm
              by_cases hmi : m < i
              · obtain ⟨u1, u2, u3, u4⟩ := due_two HP.out.1.ok HD.out.1 hmi hil
                obtain ⟨x0, x7, x9⟩ := pd_cells (HD.out.2.1.below HBM.out) hil
                obtain ⟨y0, y7, y9⟩ := pd_cells (HD.out.2.1.below HBM.out) (show m < D.length by omega)
                have hml : m < D.length := by omega
                generalize D[m] = y at *
                generalize D[i] = x at *
                have v1 : (y.1.up == x.1.up) = false := by simp [u1]
                have v2 : (y.1.cl == x.1.cl) = false := by simp [u2]
                have v3 : decide (x.1.du < y.1.du) = false := decide_eq_false u3
                by_cases hdu : y.1.du = x.1.du
                · have v4 : (y.1.du == x.1.du) = true := by simp [hdu]
                  have v5 : decide (x.1.cl < y.1.cl) = false := decide_eq_false (u4 hdu)
                  clear u1 u2 u3 u4 hdu
                  go_wp2_with fail
                  simp only [List.append_eq, List.cons_append, List.nil_append]
                  go_region
                  go_wp2_with fail
                  go_roundw
                  case rel => exact ⟨m + 1, by omega, by go_num, HBM.out.drew⟩
                  case measure => simp [intOf]; omega
                · have v4 : (y.1.du == x.1.du) = false := by simp [hdu]
                  clear u1 u2 u3 u4 hdu
                  go_wp2_with fail
                  simp only [List.append_eq, List.cons_append, List.nil_append]
                  go_region
                  go_wp2_with fail
                  go_roundw
                  case rel => exact ⟨m + 1, by omega, by go_num, HBM.out.drew⟩
                  case measure => simp [intOf]; omega
              · go_wp2_with fail
                go_roundw
                case rel => exact ⟨i + 1, by omega, by go_num, HBM.out⟩
                case measure => simp [intOf]; omega
          · go_wp2_with fail
            refine (HK.out _).mono ?_
            rintro e0 w9 ⟨rfl, hb9⟩
            have hbz := HD.out.2.2.trans (HBQ.out.mono HD.out.2.2.size)
            have HB9 := Lib.hid (hbz.trans (hb9.mono hbz.size))
            clear hb9
            go_wp2_with fail
            go_returns
            exact ⟨rfl, HB9.out⟩
  · go_wp2_with fail
    refine (HK.out _).mono ?_
    rintro e0 w3 ⟨rfl, hb⟩
    have HB3 := Lib.hid (HB1.out.trans (hb.mono HB1.out.size))
    clear hb
    go_wp2_with fail
    go_returns
    exact ⟨rfl, HB3.out⟩
end Go.Proofs.Ytbhiddppohbjhaa
