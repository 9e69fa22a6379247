/-
  Contracts of the heights of the sun at all minutes of a day, and of the first minute of a day, the first one behind it, the minutes that are dark. Under the conditions that each states.
-/
import Derived.Test.YtbikppndhidbpaaSun
import Derived.Laws.Rows
import Derived.Laws.CopyOwn
set_option linter.unusedVariables false
set_option linter.unnecessarySimpa false
set_option maxRecDepth 100000
set_option linter.unusedSimpArgs false
namespace Go.Proofs.Ytbikppndhidbpaa
open Go.RowKit BigFrame

def zArr : Array Value := (List.replicate 1440 (Value.int .i64 0)).toArray
def hCell (f : Nat → Int) (k m : Nat) : Value := if m < k then .int .i64 (f m) else .int .i64 0
def hTo (f : Nat → Int) (k : Nat) : Array Value := ((List.range 1440).map (hCell f k)).toArray
theorem zArr_size : zArr.size = 1440 := by simp [zArr]
theorem hTo_size (f : Nat → Int) (k : Nat) : (hTo f k).size = 1440 := by simp [hTo]
theorem hTo_get (f : Nat → Int) (k : Nat) {m : Nat} (h : m < 1440) : (hTo f k)[m]? = some (hCell f k m) := by
  simp [hTo, h]
theorem hTo_zero (f : Nat → Int) : hTo f 0 = zArr := by
  unfold hTo zArr
  congr 1
theorem hTo_set (f : Nat → Int) {k : Nat} (hk : k < 1440) : (hTo f k).setIfInBounds k (.int .i64 (f k)) = hTo f (k + 1) := by
  apply Array.ext_getElem?
  intro m
  rw [Array.getElem?_setIfInBounds, hTo_size, if_pos hk]
  by_cases h : m < 1440
  · rw [hTo_get _ _ h, hTo_get _ _ h]
    unfold hCell
    split
    · rename_i e; subst e; rw [if_pos (by omega)]
    · rename_i e
      by_cases hm : m < k
      · rw [if_pos hm, if_pos (by omega)]
      · rw [if_neg hm, if_neg (by omega)]
  · rw [if_neg (by omega)]
    simp [hTo, h]
theorem hTo_one (f : Nat → Int) (k : Nat) : (hTo f k).all (·.oneCell') = true := by
  rw [Array.all_eq_true_iff_forall_mem]
  intro x hx
  simp only [hTo, List.mem_toArray, List.mem_map] at hx
  obtain ⟨m, _, rfl⟩ := hx
  unfold hCell
  split <;> rfl
theorem zArr_one : zArr.all (·.oneCell') = true := by rw [← hTo_zero (fun _ => 0)]; exact hTo_one _ _
/-- A new variable of an array type. -/
theorem wpList_allocArr {P : Program} {ops : Array Oper} {rest : List Oper} {o : Oper} {a : Act} {w : World} {Q : Exit → Act → World → Prop} (t : TypeId) (ho : o.op = Op.alloc t) (hg : o.guard = none) (cs : Array Value)
    (hrun : (execOp a.eval o).run P w = .ok (.value (.pointer (some ⟨w.heap.size, 0, none⟩))) (w.alloc (.cells cs t))) (h : wpList P ops Q rest (a.put o.dst (.pointer (some ⟨w.heap.size, 0, none⟩))) (w.alloc (.cells cs t))) : wpList P ops Q (o :: rest) a w := by
  refine wpList_plain hg fun K hK => ?_
  unfold Oper.wp
  rw [hrun]
  exact hK _ _ h
theorem noonD_is {k : Nat} (hk : k < 1440) : max ((k : Int) - 720) (720 - (k : Int)) = ((noonD k : Nat) : Int) := by
  unfold noonD
  split <;> omega
theorem noonD_le {k : Nat} (hk : k < 1440) : noonD k ≤ 720 := by unfold noonD; split <;> omega
theorem impl_distN (a : Nat) (b : Int) (w : World) (h : a ≤ 1000000) (hb : b = 720) : Calls Try.prog 99 #[.int .i64 (a : Int), .int .i64 b] w fun e w' => e = .returned (.int .i64 (max ((a : Int) - b) (b - (a : Int)))) ∧ w = w' := by
  subst hb
  go_enter Try.func99, Try.ntmps99
  go_wp2
  all_goals (go_ret; exact ⟨ret_int (by omega), rfl⟩)
theorem st_in {t : Int} (h1 : -234 ≤ t) (h2 : t ≤ 900) : -1000000 ≤ stM t ∧ stM t ≤ 1000000 := by
  have h := st_bd (t + 234).toNat (by omega)
  rwa [show (((t + 234).toNat : Nat) : Int) - 234 = t by omega] at h
theorem arr_size : (Try.prog.info? 101).map (·.size) = some 1440 := by kernel_rfl
set_option maxHeartbeats 3200000 in
theorem impl_heights (lat day : Int) (w : World) (hl1 : -66 ≤ lat) (hl2 : lat ≤ 66) (h0 : 0 ≤ day) (h1 : day ≤ 99999) : Calls Try.prog 65 #[.int .i64 lat, .int .i64 day] w fun e w' => e = .returned (.agg (hTo (fun m => heightM lat (declM day) (noonD m)) 1440)) ∧ Below w.heap.size w w' := by
  have hT := fun w => impl_declination day w h0 h1
  have tb := declM_bd day
  generalize declM day = t at hT tb
  have hS := fun w => impl_SineTenths t w (by omega) (by omega)
  have hC := fun w => impl_SineTenths (900 - max t (-t)) w (by omega) (by omega)
  have sb := st_in (t := t) (by omega) (by omega)
  have cb := st_in (t := 900 - max t (-t)) (by omega) (by omega)
  have lb := sinM_bd lat
  have kb := cosM_bd lat
  have hLs := fun w => impl_Sine lat w
  have hLc := fun w => impl_Cosine lat w
  have hH : ∀ k, heightM lat t k = divR (sinM lat * stM t) 1000000 + divR (divR (cosM lat * stM (900 - max t (-t))) 1000000 * hourM k) 1000000 := fun k => rfl
  generalize stM t = s at hS sb hH
  generalize stM (900 - max t (-t)) = c at hC cb hH
  generalize sinM lat = ls at lb hLs hH
  generalize cosM lat = lc at kb hLc hH
  have k1 := mul_bd (x := ls) (y := s) (B := 1000000) (C := 1000000) (by omega) (by omega) (by omega) (by omega)
  have k2 := mul_bd (x := lc) (y := c) (B := 1000000) (C := 1000000) (by omega) (by omega) (by omega) (by omega)
  have d1 := divR_bd (a := ls * s) (b := 1000000) (A := 1000000000000) (by omega) (by omega) (by omega)
  have d2 := divR_in (a := lc * c) (n := 1000000) (A := 1000000) (by omega) (by omega) (by omega)
  have hD1 := fun w => impl_divRound (ls * s) 1000000 w (by omega) (by omega) (by omega) (by omega) (by omega)
  have hD2 := fun w => impl_divRound (lc * c) 1000000 w (by omega) (by omega) (by omega) (by omega) (by omega)
  generalize divR (ls * s) 1000000 = still at d1 hD1 hH
  generalize divR (lc * c) 1000000 = mov at d2 hD2 hH
  generalize hf : (fun m => heightM lat t (noonD m)) = f
  have hF : Hid (∀ m, f m = still + divR (mov * hourM (noonD m)) 1000000) := Lib.hid (fun m => by rw [← hf]; exact hH _)
  clear hH hf
  rcases (by omega : (-t ≤ t ∧ max t (-t) = t) ∨ (t < -t ∧ max t (-t) = -t)) with ⟨hm1, hm⟩ | ⟨hm1, hm⟩
  · rw [hm] at hC
    clear hm
    have harr : (Try.prog.info? 101).map (·.size) = some zArr.size := by rw [zArr_size]; exact arr_size
    have hz := Lib.hid (heap_alloc_new (w.alloc (.cells zArr 101)) (.cells zArr 101))
    have hz0 := Lib.hid (heap_alloc2_old w (.cells zArr 101) (.cells zArr 101))
    have hzb : Below w.heap.size w ((w.alloc (.cells zArr 101)).alloc (.cells zArr 101)) := by go_grown
    go_enter Try.func65, Try.ntmps65
    go_wp2_with (first | (refine wpList_allocArr 101 rfl rfl zArr (by kernel_rfl) ?_) | (go_at_call 93; refine (hT _).mono ?_; rintro e w' ⟨rfl, rfl⟩) | (go_at_call 94; with_reducible refine (hS _).mono ?_; rintro e w' ⟨rfl, rfl⟩) | (go_at_call 94; with_reducible refine (hC _).mono ?_; rintro e w' ⟨rfl, rfl⟩) | (go_at_call 96; refine (hLs _).mono ?_; rintro e w' ⟨rfl, rfl⟩) | (go_at_call 97; refine (hLc _).mono ?_; rintro e w' ⟨rfl, rfl⟩) | (go_at_call 95; with_reducible refine (hD1 _).mono ?_; rintro e w' ⟨rfl, rfl⟩) | (go_at_call 95; with_reducible refine (hD2 _).mono ?_; rintro e w' ⟨rfl, rfl⟩) | (refine wpList_lit 101 rfl rfl (.agg zArr) (by kernel_rfl) ?_) | (refine wpList_store_row rfl 101 _ _ rfl (w.alloc (.cells zArr 101)).heap.size zArr rfl rfl 101 zArr hz.out harr rfl zArr_one ?_))
    have hz1 := Lib.hid (heap_alloc2_new w (.cells zArr 101) (.cells zArr 101))
    rw [setRow_self _ _ _ _ _ hz1.out]
    go_loopw [36] (fun i wr => ∃ k : Nat, i = .int .i64 k ∧ k ≤ 1440 ∧ Below w.heap.size w wr ∧ Hid (wr.heap[w.heap.size]? = some (.cells zArr 101)) ∧ Hid (wr.heap[w.heap.size + 1]? = some (.cells (hTo f k) 101))) (fun i _ => 1440 - (intOf i).toNat)
    case atStart => exact ⟨0, rfl, Nat.zero_le _, hzb, hz0, by rw [hTo_zero]; exact hz1⟩
    case round =>
      clear hz hz0 hz1 hzb hT hS hC hLs hLc hD1 hD2 hm1
      obtain ⟨k, rfl, hk, hB, g0, g1⟩ := hrel
      by_cases hlt : k < 1440
      · have hfk := Lib.hid (hF.out k)
        have hN := noonD_is hlt
        have hNl := noonD_le hlt
        have hb := hour_bd (noonD k) (by omega)
        have hH : Hid (hourM (noonD k) = cosM (((noonD k : Nat) : Int) / 4) + divR ((cosM (((noonD k : Nat) : Int) / 4 + 1) - cosM (((noonD k : Nat) : Int) / 4)) * (((noonD k : Nat) : Int) % 4)) 4) := Lib.hid rfl
        have hG := fun w => impl_distN k 720 w (by omega) (by omega)
        rw [hN] at hG
        clear hN
        generalize hourM (noonD k) = h at hb hH hfk
        obtain ⟨n, hn⟩ : ∃ n : Int, ((noonD k : Nat) : Int) = n := ⟨_, rfl⟩
        rw [hn] at hG hH
        have hn1 : 0 ≤ n ∧ n ≤ 720 := by omega
        clear hn hNl
        have hFl := fun w => impl_floor4 n w (by omega) (by omega)
        have hr : 0 ≤ n % 4 ∧ n % 4 < 4 := by omega
        have hq : 0 ≤ n / 4 ∧ n / 4 ≤ 180 := by omega
        generalize n / 4 = q at hFl hH hq
        generalize n % 4 = r at hFl hH hr
        have hc0 := fun w => impl_Cosine q w
        have hc1 := fun w => impl_Cosine (q + 1) w
        have cb0 := cosM_bd q
        have cb1 := cosM_bd (q + 1)
        generalize cosM q = a at hc0 cb0 hH
        generalize cosM (q + 1) = b at hc1 cb1 hH
        have k3 := mul_bd (x := b - a) (y := r) (B := 2000000) (C := 4) (by omega) (by omega) (by omega) (by omega)
        have d3 := divR_bd (a := (b - a) * r) (b := 4) (A := 8000000) (by omega) (by omega) (by omega)
        have hD3 := fun w => impl_divRound ((b - a) * r) 4 w (by omega) (by omega) (by omega) (by omega) (by omega)
        generalize divR ((b - a) * r) 4 = d at d3 hD3 hH
        have hh := hH.out
        subst hh
        clear hH
        have k4 := mul_bd (x := mov) (y := a + d) (B := 1000000) (C := 1000000) (by omega) (by omega) (by omega) (by omega)
        have d4 := divR_in (a := mov * (a + d)) (n := 1000000) (A := 1000000) (by omega) (by omega) (by omega)
        have hD4 := fun w => impl_divRound (mov * (a + d)) 1000000 w (by omega) (by omega) (by omega) (by omega) (by omega)
        generalize divR (mov * (a + d)) 1000000 = e4 at d4 hD4 hfk
        have c1 : wr.cell? ⟨w.heap.size + 1, k, none⟩ = some (hCell f k k) := by rw [cell_of_row _ _ _ _ _ _ g1.out]; exact hTo_get _ _ hlt
        have z1 : wr.frozen? ⟨w.heap.size + 1, k, none⟩ = false := frozen_of_row _ _ _ _ _ g1.out
        obtain ⟨old, hold⟩ : ∃ v, hCell f k k = v := ⟨_, rfl⟩
        rw [hold] at c1
        clear hold
        go_wp2_with (first | (go_at_call 99; refine (hG _).mono ?_; rintro e w' ⟨rfl, rfl⟩) | (go_at_call 98; refine (hFl _).mono ?_; rintro e w' ⟨rfl, rfl⟩) | (go_at_call 97; with_reducible refine (hc0 _).mono ?_; rintro e w' ⟨rfl, rfl⟩) | (go_at_call 97; with_reducible refine (hc1 _).mono ?_; rintro e w' ⟨rfl, rfl⟩) | (go_at_call 95; with_reducible refine (hD3 _).mono ?_; rintro e w' ⟨rfl, rfl⟩) | (go_at_call 95; with_reducible refine (hD4 _).mono ?_; rintro e w' ⟨rfl, rfl⟩))
        go_roundw
        case rel => exact ⟨k + 1, by go_num, by omega, hB.setCell (by simp) _, Lib.hid (by rw [heap_setCell_other _ _ _ _ (by simp)]; exact g0.out), Lib.hid (by rw [heap_setCell_same _ _ _ _ _ _ g1.out, ← hfk.out, hTo_set f hlt])⟩
        case measure => simp [intOf]; omega
      · obtain rfl : k = 1440 := by omega
        have hTs : (Try.prog.info? 101).map (·.size) = some (hTo f 1440).size := by rw [hTo_size]; exact arr_size
        have hg9 := Lib.hid (setRow_heap wr w.heap.size zArr (hTo f 1440) 101 (0, 0) g0.out)
        have hzs : zArr.size = (hTo f 1440).size := by rw [zArr_size, hTo_size]
        have h1s := hTo_one f 1440
        have hB2 := below_setRow hB (Nat.le_refl w.heap.size) (hTo f 1440)
        go_wp2_with (first | (refine wpList_load_row rfl 101 _ rfl (w.heap.size + 1) rfl 101 (hTo f 1440) (0, 0) (.array 1440 2) g1.out Try.underlying101 rfl hTs ?_) | (refine wpList_store_row rfl 101 _ _ rfl w.heap.size (hTo f 1440) rfl rfl 101 zArr g0.out hTs hzs h1s ?_))
        refine bodyPost_ret (results_cell_row Try.results65 _ _ w.heap.size 101 (hTo f 1440) (0, 0) (.array 1440 2) rfl hg9.out Try.underlying101 rfl hTs) rfl ?_
        exact ⟨rfl, hB2⟩
  · rw [hm, show 900 - -t = 900 + t by omega] at hC
    clear hm
    have harr : (Try.prog.info? 101).map (·.size) = some zArr.size := by rw [zArr_size]; exact arr_size
    have hz := Lib.hid (heap_alloc_new (w.alloc (.cells zArr 101)) (.cells zArr 101))
    have hz0 := Lib.hid (heap_alloc2_old w (.cells zArr 101) (.cells zArr 101))
    have hzb : Below w.heap.size w ((w.alloc (.cells zArr 101)).alloc (.cells zArr 101)) := by go_grown
    go_enter Try.func65, Try.ntmps65
    go_wp2_with (first | (refine wpList_allocArr 101 rfl rfl zArr (by kernel_rfl) ?_) | (go_at_call 93; refine (hT _).mono ?_; rintro e w' ⟨rfl, rfl⟩) | (go_at_call 94; with_reducible refine (hS _).mono ?_; rintro e w' ⟨rfl, rfl⟩) | (go_at_call 94; with_reducible refine (hC _).mono ?_; rintro e w' ⟨rfl, rfl⟩) | (go_at_call 96; refine (hLs _).mono ?_; rintro e w' ⟨rfl, rfl⟩) | (go_at_call 97; refine (hLc _).mono ?_; rintro e w' ⟨rfl, rfl⟩) | (go_at_call 95; with_reducible refine (hD1 _).mono ?_; rintro e w' ⟨rfl, rfl⟩) | (go_at_call 95; with_reducible refine (hD2 _).mono ?_; rintro e w' ⟨rfl, rfl⟩) | (refine wpList_lit 101 rfl rfl (.agg zArr) (by kernel_rfl) ?_) | (refine wpList_store_row rfl 101 _ _ rfl (w.alloc (.cells zArr 101)).heap.size zArr rfl rfl 101 zArr hz.out harr rfl zArr_one ?_))
    have hz1 := Lib.hid (heap_alloc2_new w (.cells zArr 101) (.cells zArr 101))
    rw [setRow_self _ _ _ _ _ hz1.out]
    go_loopw [36] (fun i wr => ∃ k : Nat, i = .int .i64 k ∧ k ≤ 1440 ∧ Below w.heap.size w wr ∧ Hid (wr.heap[w.heap.size]? = some (.cells zArr 101)) ∧ Hid (wr.heap[w.heap.size + 1]? = some (.cells (hTo f k) 101))) (fun i _ => 1440 - (intOf i).toNat)
    case atStart => exact ⟨0, rfl, Nat.zero_le _, hzb, hz0, by rw [hTo_zero]; exact hz1⟩
    case round =>
      clear hz hz0 hz1 hzb hT hS hC hLs hLc hD1 hD2 hm1
      obtain ⟨k, rfl, hk, hB, g0, g1⟩ := hrel
      by_cases hlt : k < 1440
      · have hfk := Lib.hid (hF.out k)
        have hN := noonD_is hlt
        have hNl := noonD_le hlt
        have hb := hour_bd (noonD k) (by omega)
        have hH : Hid (hourM (noonD k) = cosM (((noonD k : Nat) : Int) / 4) + divR ((cosM (((noonD k : Nat) : Int) / 4 + 1) - cosM (((noonD k : Nat) : Int) / 4)) * (((noonD k : Nat) : Int) % 4)) 4) := Lib.hid rfl
        have hG := fun w => impl_distN k 720 w (by omega) (by omega)
        rw [hN] at hG
        clear hN
        generalize hourM (noonD k) = h at hb hH hfk
        obtain ⟨n, hn⟩ : ∃ n : Int, ((noonD k : Nat) : Int) = n := ⟨_, rfl⟩
        rw [hn] at hG hH
        have hn1 : 0 ≤ n ∧ n ≤ 720 := by omega
        clear hn hNl
        have hFl := fun w => impl_floor4 n w (by omega) (by omega)
        have hr : 0 ≤ n % 4 ∧ n % 4 < 4 := by omega
        have hq : 0 ≤ n / 4 ∧ n / 4 ≤ 180 := by omega
        generalize n / 4 = q at hFl hH hq
        generalize n % 4 = r at hFl hH hr
        have hc0 := fun w => impl_Cosine q w
        have hc1 := fun w => impl_Cosine (q + 1) w
        have cb0 := cosM_bd q
        have cb1 := cosM_bd (q + 1)
        generalize cosM q = a at hc0 cb0 hH
        generalize cosM (q + 1) = b at hc1 cb1 hH
        have k3 := mul_bd (x := b - a) (y := r) (B := 2000000) (C := 4) (by omega) (by omega) (by omega) (by omega)
        have d3 := divR_bd (a := (b - a) * r) (b := 4) (A := 8000000) (by omega) (by omega) (by omega)
        have hD3 := fun w => impl_divRound ((b - a) * r) 4 w (by omega) (by omega) (by omega) (by omega) (by omega)
        generalize divR ((b - a) * r) 4 = d at d3 hD3 hH
        have hh := hH.out
        subst hh
        clear hH
        have k4 := mul_bd (x := mov) (y := a + d) (B := 1000000) (C := 1000000) (by omega) (by omega) (by omega) (by omega)
        have d4 := divR_in (a := mov * (a + d)) (n := 1000000) (A := 1000000) (by omega) (by omega) (by omega)
        have hD4 := fun w => impl_divRound (mov * (a + d)) 1000000 w (by omega) (by omega) (by omega) (by omega) (by omega)
        generalize divR (mov * (a + d)) 1000000 = e4 at d4 hD4 hfk
        have c1 : wr.cell? ⟨w.heap.size + 1, k, none⟩ = some (hCell f k k) := by rw [cell_of_row _ _ _ _ _ _ g1.out]; exact hTo_get _ _ hlt
        have z1 : wr.frozen? ⟨w.heap.size + 1, k, none⟩ = false := frozen_of_row _ _ _ _ _ g1.out
        obtain ⟨old, hold⟩ : ∃ v, hCell f k k = v := ⟨_, rfl⟩
        rw [hold] at c1
        clear hold
        go_wp2_with (first | (go_at_call 99; refine (hG _).mono ?_; rintro e w' ⟨rfl, rfl⟩) | (go_at_call 98; refine (hFl _).mono ?_; rintro e w' ⟨rfl, rfl⟩) | (go_at_call 97; with_reducible refine (hc0 _).mono ?_; rintro e w' ⟨rfl, rfl⟩) | (go_at_call 97; with_reducible refine (hc1 _).mono ?_; rintro e w' ⟨rfl, rfl⟩) | (go_at_call 95; with_reducible refine (hD3 _).mono ?_; rintro e w' ⟨rfl, rfl⟩) | (go_at_call 95; with_reducible refine (hD4 _).mono ?_; rintro e w' ⟨rfl, rfl⟩))
        go_roundw
        case rel => exact ⟨k + 1, by go_num, by omega, hB.setCell (by simp) _, Lib.hid (by rw [heap_setCell_other _ _ _ _ (by simp)]; exact g0.out), Lib.hid (by rw [heap_setCell_same _ _ _ _ _ _ g1.out, ← hfk.out, hTo_set f hlt])⟩
        case measure => simp [intOf]; omega
      · obtain rfl : k = 1440 := by omega
        have hTs : (Try.prog.info? 101).map (·.size) = some (hTo f 1440).size := by rw [hTo_size]; exact arr_size
        have hg9 := Lib.hid (setRow_heap wr w.heap.size zArr (hTo f 1440) 101 (0, 0) g0.out)
        have hzs : zArr.size = (hTo f 1440).size := by rw [zArr_size, hTo_size]
        have h1s := hTo_one f 1440
        have hB2 := below_setRow hB (Nat.le_refl w.heap.size) (hTo f 1440)
        go_wp2_with (first | (refine wpList_load_row rfl 101 _ rfl (w.heap.size + 1) rfl 101 (hTo f 1440) (0, 0) (.array 1440 2) g1.out Try.underlying101 rfl hTs ?_) | (refine wpList_store_row rfl 101 _ _ rfl w.heap.size (hTo f 1440) rfl rfl 101 zArr g0.out hTs hzs h1s ?_))
        refine bodyPost_ret (results_cell_row Try.results65 _ _ w.heap.size 101 (hTo f 1440) (0, 0) (.array 1440 2) rfl hg9.out Try.underlying101 rfl hTs) rfl ?_
        exact ⟨rfl, hB2⟩
end Go.Proofs.Ytbikppndhidbpaa
