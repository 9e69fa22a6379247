/-
  FnNights: sunrise, sunset, the light of the minutes, dark minutes and their sums. Under no condition.
-/
import Derived.Test.YtbikppndhidbpaaSunB
import Derived.Test.YtbikppndhidbpaaDrawN
import Derived.Test.YtbikppndhidbpaaB10
import Derived.Test.YtbikppndhidbpaaRow8
set_option linter.unusedVariables false
set_option linter.unnecessarySimpa false
set_option maxRecDepth 100000
set_option linter.unusedSimpArgs false
namespace Go.Proofs.Ytbikppndhidbpaa
open Go.RowKit BigFrame
theorem own : ownKnob Try.prog.godebug = none := by kernel_rfl
theorem laidOut : laidOutB Try.prog = true := by kernel_rfl

theorem season_facts {lat f : Int} {n : Nat} (h : okS lat f (n : Int) = true) : (topTo (dayF lat f) n).1 < n ∧ dayF lat f (topTo (dayF lat f) n).1 = (topTo (dayF lat f) n).2 ∧ dayF lat f 0 ≤ (topTo (dayF lat f) n).2 ∧ sumTo (dayF lat f) n ≤ n * (topTo (dayF lat f) n).2 ∧ (topTo (dayF lat f) n).2 ≤ sumTo (dayF lat f) n ∧ 0 ≤ (topTo (dayF lat f) n).2 ∧ (topTo (dayF lat f) n).2 ≤ 1440 := by
  obtain ⟨_, h2, _, _⟩ := okS_yes h
  obtain ⟨t1, t2, t3⟩ := top_spec (f := dayF lat f) (fun k => (dayF_bd lat f k).1) n (by omega)
  have hb := dayF_bd lat f (topTo (dayF lat f) n).1
  rw [t2] at hb
  refine ⟨t1, t2, t3 0 (by omega), sum_le n t3, ?_, hb.1, hb.2⟩
  have := (sum_ge (f := dayF lat f) (fun k => (dayF_bd lat f k).1) n _ t1).1
  rwa [t2] at this
theorem kind_is (h : Int) : (kindM h = 1 ∧ -14000 ≤ h) ∨ (kindM h = 2 ∧ ¬ -14000 ≤ h) ∨ (kindM h = 3 ∧ ¬ -14000 ≤ h) := by
  unfold kindM
  by_cases h1 : -14000 ≤ h
  · rw [if_pos h1]; exact .inl ⟨rfl, h1⟩
  · rw [if_neg h1]
    split
    · exact .inr (.inl ⟨rfl, h1⟩)
    · exact .inr (.inr ⟨rfl, h1⟩)
namespace fnNights
open Go.ChangeShapes Go.WideShapes Go.ChangeAt Go.RowKit
set_option linter.unusedVariables false
set_option maxHeartbeats 6400000 in
theorem walk (W : World) (A0 : Option Addr) (c0 : Nat) (L0 : List Int) (s0 : Sl W W.heap.size A0 (bytesL L0)) (b0 : ∀ z ∈ L0, IntKind.u8.has z) (m0 : L0.length ≤ maxLen) (A1 : Option Addr) (c1 : Nat) (L1 : List Int) (s1 : Sl W W.heap.size A1 (bytesL L1)) (b1 : ∀ z ∈ L1, IntKind.u8.has z) (m1 : L1.length ≤ maxLen) :
    Calls Try.prog 4 #[.slice A0 L0.length c0, .slice A1 L1.length c1] W fun e w' => e = .returned (.bool true) ∧ Below W.heap.size W w' := by
  by_cases hl0 : 1048576 < L0.length
  · go_enter Try.func4, Try.ntmps4
    go_wp2_with (first | (go_at_call 11; refine (b10Long_any _ _ _ _ (by assumption)).mono ?_; rintro e w' ⟨rfl, rfl⟩))
    go_ret
    exact ⟨rfl, Below.refl _ _⟩
  by_cases hl1 : 1048576 < L1.length
  · go_enter Try.func4, Try.ntmps4
    go_wp2_with (first | (go_at_call 11; refine (b10Long_any _ _ _ _ (by assumption)).mono ?_; rintro e w' ⟨rfl, rfl⟩))
    go_ret
    exact ⟨rfl, Below.refl _ _⟩
  have S0 := Lib.hid s0
  have S1 := Lib.hid s1
  have U0 := Lib.hid b0
  have U1 := Lib.hid b1
  clear s0 s1 b0 b1
  go_enter Try.func4, Try.ntmps4
  go_wp2_with (go_at_call 11; refine (b10Long_any _ _ _ _ (by assumption)).mono ?_; rintro e w' ⟨rfl, rfl⟩)
  refine (draw_dark L0 _ _ W.heap.size _ S0.out (Nat.le_refl _) U0.out (by omega)).mono ?_
  rintro e w ⟨lat, day, hlb, hdb, rfl, hB0⟩
  cases hok : okD lat day
  · have hDk := fun w => impl_Dark_no lat day w hok
    have hRi := fun w => impl_Sunrise_no lat day w hok
    have hSe := fun w => impl_Sunset_no lat day w hok
    go_wp2_with fail
    refine (hDk _).mono ?_
    rintro e w1 ⟨rfl, hb1⟩
    have hB1 := bnext hB0 hb1
    clear hb1 hDk
    go_wp2_with fail
    refine (hRi _).mono ?_
    rintro e w2 ⟨rfl, hb2⟩
    have hB2 := bnext hB1 hb2
    clear hb2 hRi
    go_wp2_with fail
    refine (hSe _).mono ?_
    rintro e w3 ⟨rfl, hb3⟩
    go_wp2_with fail
    go_ret
    exact ⟨rfl, bnext hB2 hb3⟩
  have hDk := fun w => impl_Dark lat day w hok
  have hRi := fun w => impl_Sunrise lat day w hok
  have hSe := fun w => impl_Sunset lat day w hok
  have hday := day_all (gD_anti (lat := lat) (day := day) (okD_yes hok).1)
  have hgk : ∀ m, gD lat day (noonD m) = decide (-14000 ≤ heightM lat (declM day) (noonD m)) := fun m => rfl
  generalize riseM (gD lat day) = r at hRi hSe hday
  generalize setM (gD lat day) = s at hSe hday
  generalize darkM (gD lat day) = d at hDk hday
  rcases hday with ⟨rfl, rfl, hd⟩ | ⟨h1, h2, h3, h4, rfl, hd⟩
  · have hd' := Lib.hid hd
    have hgk' := Lib.hid hgk
    clear hd hgk
    go_wp2_with fail
    refine (hDk _).mono ?_
    rintro e w1 ⟨rfl, hb1⟩
    have hB1 := bnext hB0 hb1
    clear hb1 hDk
    go_wp2_with fail
    refine (hRi _).mono ?_
    rintro e w2 ⟨rfl, hb2⟩
    have hB2 := bnext hB1 hb2
    clear hb2 hRi
    go_wp2_with fail
    refine (hSe _).mono ?_
    rintro e w3 ⟨rfl, hb3⟩
    have hB3 := bnext hB2 hb3
    clear hb3 hSe
    go_wp2_with fail
    refine (b10Wide_any L1 _ _ W.heap.size 0 1440 _ (S1.out.below hB3) U1.out (by omega) (by omega) (by omega) (by omega)).mono ?_
    rintro e w' ⟨m0, hm0, rfl, rfl⟩
    obtain ⟨m, rfl⟩ := Int.eq_ofNat_of_zero_le hm0.1
    have hm : m < 1440 := by omega
    have hLK := fun w => impl_LightKind lat day m w hok hm
    have hdm := hd'.out m hm
    rw [hgk'.out m] at hdm
    generalize heightM lat (declM day) (noonD m) = h at hLK hdm
    rw [decide_eq_false_iff_not] at hdm
    clear hd' hgk'
    rcases kind_is h with ⟨_, hk⟩ | ⟨hk, _⟩ | ⟨hk, _⟩
    · exact absurd hk hdm
    · rw [hk] at hLK
      clear hk
      have hLN := fun w => impl_LightName 2 w
      go_wp2_with fail
      refine (hLK _).mono ?_
      rintro e w4 ⟨rfl, hb4⟩
      have hB4 := bnext hB3 hb4
      clear hb4 hLK
      go_wp2_with fail
      all_goals try (exfalso; omega)
      refine (hLN _).mono ?_
      rintro e w5 ⟨rfl, hb5⟩
      have hBt := bnext hB4 hb5
      clear hb5 hLN
      rw [show pickS 2 lightNames = (⟨#[116, 119, 105, 108, 105, 103, 104, 116]⟩ : ByteArray) from rfl]
      go_wp2_with fail
      refine (draw_season L1 _ _ W.heap.size _ (S1.out.below hBt) hBt.size U1.out (by omega)).mono ?_
      rintro e wd ⟨lat2, f, n, b1, b2, b3, rfl, hbd⟩
      have hBd := bnext hBt hbd
      clear hbd
      cases hs : okS lat2 f (n : Int)
      · have hA := fun w => impl_DarkSum_no lat2 f (n : Int) w hs
        have hL := fun w => impl_Longest_no lat2 f (n : Int) w hs
        clear hs
        go_wp2_with fail
        refine (hA _).mono ?_
        rintro e wx ⟨rfl, hbx⟩
        have hBx := bnext hBd hbx
        clear hbx hA
        go_wp2_with fail
        refine (hL _).mono ?_
        rintro e wy ⟨rfl, hby⟩
        go_wp2_with fail
        go_ret
        exact ⟨rfl, bnext hBx hby⟩
      · have hA := fun w => impl_DarkSum lat2 f n w hs
        have hL := fun w => impl_Longest lat2 f n w hs
        obtain ⟨o1, o2, o3, o4⟩ := okS_yes hs
        obtain ⟨t1, t2, t3, t4, t5, t6, t7⟩ := season_facts hs
        have hD0 : ∀ w, Calls Try.prog 13 #[.int .i64 lat2, .int .i64 f] w fun e w' => e = .returned (.tuple #[.int .i64 (dayF lat2 f 0), .int .i64 0]) ∧ Below w.heap.size w w' := fun w => by
          have h := impl_Dark lat2 (f + ((0 : Nat) : Int)) w (okS_at hs (k := 0) (by omega))
          rw [show f + ((0 : Nat) : Int) = f by omega] at h
          unfold dayF
          rw [show f + ((0 : Nat) : Int) = f by omega]
          exact h
        have hDb : ∀ w, Calls Try.prog 13 #[.int .i64 lat2, .int .i64 (f + ((topTo (dayF lat2 f) n).1 : Int))] w fun e w' => e = .returned (.tuple #[.int .i64 (topTo (dayF lat2 f) n).2, .int .i64 0]) ∧ Below w.heap.size w w' := fun w => by
          rw [← t2]
          exact impl_Dark lat2 _ w (okS_at hs (by omega))
        generalize dayF lat2 f 0 = d0 at hD0 t3
        generalize sumTo (dayF lat2 f) n = S at hA t4 t5
        clear t2
        obtain ⟨b, hb⟩ : ∃ b, (topTo (dayF lat2 f) n).1 = b := ⟨_, rfl⟩
        obtain ⟨M, hM⟩ : ∃ M, (topTo (dayF lat2 f) n).2 = M := ⟨_, rfl⟩
        rw [hb, hM] at hL
        rw [hb, hM] at hDb
        rw [hb] at t1
        rw [hM] at t3 t4 t5 t6 t7
        clear hb hM hs
        have k1 := mul_bd (x := (n : Int)) (y := M) (B := 401) (C := 1440) (by omega) (by omega) (by omega) (by omega)
        go_wp2_with fail
        refine (hA _).mono ?_
        rintro e wx ⟨rfl, hbx⟩
        have hBx := bnext hBd hbx
        clear hbx hA
        go_wp2_with fail
        refine (hL _).mono ?_
        rintro e wy ⟨rfl, hby⟩
        have hBy := bnext hBx hby
        clear hby hL
        go_wp2_with fail
        refine (hDb _).mono ?_
        rintro e wu ⟨rfl, hbu⟩
        have hBu := bnext hBy hbu
        clear hbu hDb
        go_wp2_with fail
        refine (hD0 _).mono ?_
        rintro e wv ⟨rfl, hbv⟩
        have hBv := bnext hBu hbv
        clear hbv hD0
        go_wp2_with fail
        all_goals try (exfalso; omega)
        go_ret
        exact ⟨rfl, hBv⟩
    · rw [hk] at hLK
      clear hk
      have hLN := fun w => impl_LightName 3 w
      go_wp2_with fail
      refine (hLK _).mono ?_
      rintro e w4 ⟨rfl, hb4⟩
      have hB4 := bnext hB3 hb4
      clear hb4 hLK
      go_wp2_with fail
      all_goals try (exfalso; omega)
      refine (hLN _).mono ?_
      rintro e w5 ⟨rfl, hb5⟩
      have hBt := bnext hB4 hb5
      clear hb5 hLN
      rw [show pickS 3 lightNames = (⟨#[110, 105, 103, 104, 116]⟩ : ByteArray) from rfl]
      go_wp2_with fail
      refine (draw_season L1 _ _ W.heap.size _ (S1.out.below hBt) hBt.size U1.out (by omega)).mono ?_
      rintro e wd ⟨lat2, f, n, b1, b2, b3, rfl, hbd⟩
      have hBd := bnext hBt hbd
      clear hbd
      cases hs : okS lat2 f (n : Int)
      · have hA := fun w => impl_DarkSum_no lat2 f (n : Int) w hs
        have hL := fun w => impl_Longest_no lat2 f (n : Int) w hs
        clear hs
        go_wp2_with fail
        refine (hA _).mono ?_
        rintro e wx ⟨rfl, hbx⟩
        have hBx := bnext hBd hbx
        clear hbx hA
        go_wp2_with fail
        refine (hL _).mono ?_
        rintro e wy ⟨rfl, hby⟩
        go_wp2_with fail
        go_ret
        exact ⟨rfl, bnext hBx hby⟩
      · have hA := fun w => impl_DarkSum lat2 f n w hs
        have hL := fun w => impl_Longest lat2 f n w hs
        obtain ⟨o1, o2, o3, o4⟩ := okS_yes hs
        obtain ⟨t1, t2, t3, t4, t5, t6, t7⟩ := season_facts hs
        have hD0 : ∀ w, Calls Try.prog 13 #[.int .i64 lat2, .int .i64 f] w fun e w' => e = .returned (.tuple #[.int .i64 (dayF lat2 f 0), .int .i64 0]) ∧ Below w.heap.size w w' := fun w => by
          have h := impl_Dark lat2 (f + ((0 : Nat) : Int)) w (okS_at hs (k := 0) (by omega))
          rw [show f + ((0 : Nat) : Int) = f by omega] at h
          unfold dayF
          rw [show f + ((0 : Nat) : Int) = f by omega]
          exact h
        have hDb : ∀ w, Calls Try.prog 13 #[.int .i64 lat2, .int .i64 (f + ((topTo (dayF lat2 f) n).1 : Int))] w fun e w' => e = .returned (.tuple #[.int .i64 (topTo (dayF lat2 f) n).2, .int .i64 0]) ∧ Below w.heap.size w w' := fun w => by
          rw [← t2]
          exact impl_Dark lat2 _ w (okS_at hs (by omega))
        generalize dayF lat2 f 0 = d0 at hD0 t3
        generalize sumTo (dayF lat2 f) n = S at hA t4 t5
        clear t2
        obtain ⟨b, hb⟩ : ∃ b, (topTo (dayF lat2 f) n).1 = b := ⟨_, rfl⟩
        obtain ⟨M, hM⟩ : ∃ M, (topTo (dayF lat2 f) n).2 = M := ⟨_, rfl⟩
        rw [hb, hM] at hL
        rw [hb, hM] at hDb
        rw [hb] at t1
        rw [hM] at t3 t4 t5 t6 t7
        clear hb hM hs
        have k1 := mul_bd (x := (n : Int)) (y := M) (B := 401) (C := 1440) (by omega) (by omega) (by omega) (by omega)
        go_wp2_with fail
        refine (hA _).mono ?_
        rintro e wx ⟨rfl, hbx⟩
        have hBx := bnext hBd hbx
        clear hbx hA
        go_wp2_with fail
        refine (hL _).mono ?_
        rintro e wy ⟨rfl, hby⟩
        have hBy := bnext hBx hby
        clear hby hL
        go_wp2_with fail
        refine (hDb _).mono ?_
        rintro e wu ⟨rfl, hbu⟩
        have hBu := bnext hBy hbu
        clear hbu hDb
        go_wp2_with fail
        refine (hD0 _).mono ?_
        rintro e wv ⟨rfl, hbv⟩
        have hBv := bnext hBu hbv
        clear hbv hD0
        go_wp2_with fail
        all_goals try (exfalso; omega)
        go_ret
        exact ⟨rfl, hBv⟩
  · have hd' := Lib.hid hd
    have hgk' := Lib.hid hgk
    clear hd hgk
    have hr0 : ¬ r < 0 := by omega
    rw [if_neg hr0, if_neg hr0] at hRi
    rw [if_neg hr0, if_neg hr0] at hSe
    go_wp2_with fail
    refine (hDk _).mono ?_
    rintro e w1 ⟨rfl, hb1⟩
    have hB1 := bnext hB0 hb1
    clear hb1 hDk
    go_wp2_with fail
    refine (hRi _).mono ?_
    rintro e w2 ⟨rfl, hb2⟩
    have hB2 := bnext hB1 hb2
    clear hb2 hRi
    go_wp2_with fail
    refine (hSe _).mono ?_
    rintro e w3 ⟨rfl, hb3⟩
    have hB3 := bnext hB2 hb3
    clear hb3 hSe
    go_wp2_with fail
    refine (b10Wide_any L1 _ _ W.heap.size 0 1440 _ (S1.out.below hB3) U1.out (by omega) (by omega) (by omega) (by omega)).mono ?_
    rintro e w' ⟨m0, hm0, rfl, rfl⟩
    obtain ⟨m, rfl⟩ := Int.eq_ofNat_of_zero_le hm0.1
    have hm : m < 1440 := by omega
    have hLK := fun w => impl_LightKind lat day m w hok hm
    have hdm := hd'.out m hm
    rw [hgk'.out m] at hdm
    generalize heightM lat (declM day) (noonD m) = h at hLK hdm
    rw [decide_eq_true_eq] at hdm
    clear hd' hgk'
    rcases kind_is h with ⟨hk, hh⟩ | ⟨hk, hh⟩ | ⟨hk, hh⟩
    · have hin := hdm.1 hh
      rw [hk] at hLK
      clear hk hh hdm
      have hLN := fun w => impl_LightName 1 w
      go_wp2_with fail
      refine (hLK _).mono ?_
      rintro e w4 ⟨rfl, hb4⟩
      have hB4 := bnext hB3 hb4
      clear hb4 hLK
      go_wp2_with fail
      all_goals try (exfalso; omega)
      refine (hLN _).mono ?_
      rintro e w5 ⟨rfl, hb5⟩
      have hBt := bnext hB4 hb5
      clear hb5 hLN
      rw [show pickS 1 lightNames = (⟨#[100, 97, 121]⟩ : ByteArray) from rfl]
      go_wp2_with fail
      refine (draw_season L1 _ _ W.heap.size _ (S1.out.below hBt) hBt.size U1.out (by omega)).mono ?_
      rintro e wd ⟨lat2, f, n, b1, b2, b3, rfl, hbd⟩
      have hBd := bnext hBt hbd
      clear hbd
      cases hs : okS lat2 f (n : Int)
      · have hA := fun w => impl_DarkSum_no lat2 f (n : Int) w hs
        have hL := fun w => impl_Longest_no lat2 f (n : Int) w hs
        clear hs
        go_wp2_with fail
        refine (hA _).mono ?_
        rintro e wx ⟨rfl, hbx⟩
        have hBx := bnext hBd hbx
        clear hbx hA
        go_wp2_with fail
        refine (hL _).mono ?_
        rintro e wy ⟨rfl, hby⟩
        go_wp2_with fail
        go_ret
        exact ⟨rfl, bnext hBx hby⟩
      · have hA := fun w => impl_DarkSum lat2 f n w hs
        have hL := fun w => impl_Longest lat2 f n w hs
        obtain ⟨o1, o2, o3, o4⟩ := okS_yes hs
        obtain ⟨t1, t2, t3, t4, t5, t6, t7⟩ := season_facts hs
        have hD0 : ∀ w, Calls Try.prog 13 #[.int .i64 lat2, .int .i64 f] w fun e w' => e = .returned (.tuple #[.int .i64 (dayF lat2 f 0), .int .i64 0]) ∧ Below w.heap.size w w' := fun w => by
          have h := impl_Dark lat2 (f + ((0 : Nat) : Int)) w (okS_at hs (k := 0) (by omega))
          rw [show f + ((0 : Nat) : Int) = f by omega] at h
          unfold dayF
          rw [show f + ((0 : Nat) : Int) = f by omega]
          exact h
        have hDb : ∀ w, Calls Try.prog 13 #[.int .i64 lat2, .int .i64 (f + ((topTo (dayF lat2 f) n).1 : Int))] w fun e w' => e = .returned (.tuple #[.int .i64 (topTo (dayF lat2 f) n).2, .int .i64 0]) ∧ Below w.heap.size w w' := fun w => by
          rw [← t2]
          exact impl_Dark lat2 _ w (okS_at hs (by omega))
        generalize dayF lat2 f 0 = d0 at hD0 t3
        generalize sumTo (dayF lat2 f) n = S at hA t4 t5
        clear t2
        obtain ⟨b, hb⟩ : ∃ b, (topTo (dayF lat2 f) n).1 = b := ⟨_, rfl⟩
        obtain ⟨M, hM⟩ : ∃ M, (topTo (dayF lat2 f) n).2 = M := ⟨_, rfl⟩
        rw [hb, hM] at hL
        rw [hb, hM] at hDb
        rw [hb] at t1
        rw [hM] at t3 t4 t5 t6 t7
        clear hb hM hs
        have k1 := mul_bd (x := (n : Int)) (y := M) (B := 401) (C := 1440) (by omega) (by omega) (by omega) (by omega)
        go_wp2_with fail
        refine (hA _).mono ?_
        rintro e wx ⟨rfl, hbx⟩
        have hBx := bnext hBd hbx
        clear hbx hA
        go_wp2_with fail
        refine (hL _).mono ?_
        rintro e wy ⟨rfl, hby⟩
        have hBy := bnext hBx hby
        clear hby hL
        go_wp2_with fail
        refine (hDb _).mono ?_
        rintro e wu ⟨rfl, hbu⟩
        have hBu := bnext hBy hbu
        clear hbu hDb
        go_wp2_with fail
        refine (hD0 _).mono ?_
        rintro e wv ⟨rfl, hbv⟩
        have hBv := bnext hBu hbv
        clear hbv hD0
        go_wp2_with fail
        all_goals try (exfalso; omega)
        go_ret
        exact ⟨rfl, hBv⟩
    · have hout : ¬ (r ≤ (m : Int) ∧ (m : Int) < s) := fun h => hh (hdm.2 h)
      rw [hk] at hLK
      clear hk hh hdm
      rcases (by omega : (m : Int) < r ∨ (r ≤ (m : Int) ∧ s ≤ (m : Int))) with hx | ⟨hx, hy⟩
      · have hLN := fun w => impl_LightName 2 w
        go_wp2_with fail
        refine (hLK _).mono ?_
        rintro e w4 ⟨rfl, hb4⟩
        have hB4 := bnext hB3 hb4
        clear hb4 hLK
        go_wp2_with fail
        all_goals try (exfalso; omega)
        refine (hLN _).mono ?_
        rintro e w5 ⟨rfl, hb5⟩
        have hBt := bnext hB4 hb5
        clear hb5 hLN
        rw [show pickS 2 lightNames = (⟨#[116, 119, 105, 108, 105, 103, 104, 116]⟩ : ByteArray) from rfl]
        go_wp2_with fail
        refine (draw_season L1 _ _ W.heap.size _ (S1.out.below hBt) hBt.size U1.out (by omega)).mono ?_
        rintro e wd ⟨lat2, f, n, b1, b2, b3, rfl, hbd⟩
        have hBd := bnext hBt hbd
        clear hbd
        cases hs : okS lat2 f (n : Int)
        · have hA := fun w => impl_DarkSum_no lat2 f (n : Int) w hs
          have hL := fun w => impl_Longest_no lat2 f (n : Int) w hs
          clear hs
          go_wp2_with fail
          refine (hA _).mono ?_
          rintro e wx ⟨rfl, hbx⟩
          have hBx := bnext hBd hbx
          clear hbx hA
          go_wp2_with fail
          refine (hL _).mono ?_
          rintro e wy ⟨rfl, hby⟩
          go_wp2_with fail
          go_ret
          exact ⟨rfl, bnext hBx hby⟩
        · have hA := fun w => impl_DarkSum lat2 f n w hs
          have hL := fun w => impl_Longest lat2 f n w hs
          obtain ⟨o1, o2, o3, o4⟩ := okS_yes hs
          obtain ⟨t1, t2, t3, t4, t5, t6, t7⟩ := season_facts hs
          have hD0 : ∀ w, Calls Try.prog 13 #[.int .i64 lat2, .int .i64 f] w fun e w' => e = .returned (.tuple #[.int .i64 (dayF lat2 f 0), .int .i64 0]) ∧ Below w.heap.size w w' := fun w => by
            have h := impl_Dark lat2 (f + ((0 : Nat) : Int)) w (okS_at hs (k := 0) (by omega))
            rw [show f + ((0 : Nat) : Int) = f by omega] at h
            unfold dayF
            rw [show f + ((0 : Nat) : Int) = f by omega]
            exact h
          have hDb : ∀ w, Calls Try.prog 13 #[.int .i64 lat2, .int .i64 (f + ((topTo (dayF lat2 f) n).1 : Int))] w fun e w' => e = .returned (.tuple #[.int .i64 (topTo (dayF lat2 f) n).2, .int .i64 0]) ∧ Below w.heap.size w w' := fun w => by
            rw [← t2]
            exact impl_Dark lat2 _ w (okS_at hs (by omega))
          generalize dayF lat2 f 0 = d0 at hD0 t3
          generalize sumTo (dayF lat2 f) n = S at hA t4 t5
          clear t2
          obtain ⟨b, hb⟩ : ∃ b, (topTo (dayF lat2 f) n).1 = b := ⟨_, rfl⟩
          obtain ⟨M, hM⟩ : ∃ M, (topTo (dayF lat2 f) n).2 = M := ⟨_, rfl⟩
          rw [hb, hM] at hL
          rw [hb, hM] at hDb
          rw [hb] at t1
          rw [hM] at t3 t4 t5 t6 t7
          clear hb hM hs
          have k1 := mul_bd (x := (n : Int)) (y := M) (B := 401) (C := 1440) (by omega) (by omega) (by omega) (by omega)
          go_wp2_with fail
          refine (hA _).mono ?_
          rintro e wx ⟨rfl, hbx⟩
          have hBx := bnext hBd hbx
          clear hbx hA
          go_wp2_with fail
          refine (hL _).mono ?_
          rintro e wy ⟨rfl, hby⟩
          have hBy := bnext hBx hby
          clear hby hL
          go_wp2_with fail
          refine (hDb _).mono ?_
          rintro e wu ⟨rfl, hbu⟩
          have hBu := bnext hBy hbu
          clear hbu hDb
          go_wp2_with fail
          refine (hD0 _).mono ?_
          rintro e wv ⟨rfl, hbv⟩
          have hBv := bnext hBu hbv
          clear hbv hD0
          go_wp2_with fail
          all_goals try (exfalso; omega)
          go_ret
          exact ⟨rfl, hBv⟩
      · have hLN := fun w => impl_LightName 2 w
        go_wp2_with fail
        refine (hLK _).mono ?_
        rintro e w4 ⟨rfl, hb4⟩
        have hB4 := bnext hB3 hb4
        clear hb4 hLK
        go_wp2_with fail
        all_goals try (exfalso; omega)
        refine (hLN _).mono ?_
        rintro e w5 ⟨rfl, hb5⟩
        have hBt := bnext hB4 hb5
        clear hb5 hLN
        rw [show pickS 2 lightNames = (⟨#[116, 119, 105, 108, 105, 103, 104, 116]⟩ : ByteArray) from rfl]
        go_wp2_with fail
        refine (draw_season L1 _ _ W.heap.size _ (S1.out.below hBt) hBt.size U1.out (by omega)).mono ?_
        rintro e wd ⟨lat2, f, n, b1, b2, b3, rfl, hbd⟩
        have hBd := bnext hBt hbd
        clear hbd
        cases hs : okS lat2 f (n : Int)
        · have hA := fun w => impl_DarkSum_no lat2 f (n : Int) w hs
          have hL := fun w => impl_Longest_no lat2 f (n : Int) w hs
          clear hs
          go_wp2_with fail
          refine (hA _).mono ?_
          rintro e wx ⟨rfl, hbx⟩
          have hBx := bnext hBd hbx
          clear hbx hA
          go_wp2_with fail
          refine (hL _).mono ?_
          rintro e wy ⟨rfl, hby⟩
          go_wp2_with fail
          go_ret
          exact ⟨rfl, bnext hBx hby⟩
        · have hA := fun w => impl_DarkSum lat2 f n w hs
          have hL := fun w => impl_Longest lat2 f n w hs
          obtain ⟨o1, o2, o3, o4⟩ := okS_yes hs
          obtain ⟨t1, t2, t3, t4, t5, t6, t7⟩ := season_facts hs
          have hD0 : ∀ w, Calls Try.prog 13 #[.int .i64 lat2, .int .i64 f] w fun e w' => e = .returned (.tuple #[.int .i64 (dayF lat2 f 0), .int .i64 0]) ∧ Below w.heap.size w w' := fun w => by
            have h := impl_Dark lat2 (f + ((0 : Nat) : Int)) w (okS_at hs (k := 0) (by omega))
            rw [show f + ((0 : Nat) : Int) = f by omega] at h
            unfold dayF
            rw [show f + ((0 : Nat) : Int) = f by omega]
            exact h
          have hDb : ∀ w, Calls Try.prog 13 #[.int .i64 lat2, .int .i64 (f + ((topTo (dayF lat2 f) n).1 : Int))] w fun e w' => e = .returned (.tuple #[.int .i64 (topTo (dayF lat2 f) n).2, .int .i64 0]) ∧ Below w.heap.size w w' := fun w => by
            rw [← t2]
            exact impl_Dark lat2 _ w (okS_at hs (by omega))
          generalize dayF lat2 f 0 = d0 at hD0 t3
          generalize sumTo (dayF lat2 f) n = S at hA t4 t5
          clear t2
          obtain ⟨b, hb⟩ : ∃ b, (topTo (dayF lat2 f) n).1 = b := ⟨_, rfl⟩
          obtain ⟨M, hM⟩ : ∃ M, (topTo (dayF lat2 f) n).2 = M := ⟨_, rfl⟩
          rw [hb, hM] at hL
          rw [hb, hM] at hDb
          rw [hb] at t1
          rw [hM] at t3 t4 t5 t6 t7
          clear hb hM hs
          have k1 := mul_bd (x := (n : Int)) (y := M) (B := 401) (C := 1440) (by omega) (by omega) (by omega) (by omega)
          go_wp2_with fail
          refine (hA _).mono ?_
          rintro e wx ⟨rfl, hbx⟩
          have hBx := bnext hBd hbx
          clear hbx hA
          go_wp2_with fail
          refine (hL _).mono ?_
          rintro e wy ⟨rfl, hby⟩
          have hBy := bnext hBx hby
          clear hby hL
          go_wp2_with fail
          refine (hDb _).mono ?_
          rintro e wu ⟨rfl, hbu⟩
          have hBu := bnext hBy hbu
          clear hbu hDb
          go_wp2_with fail
          refine (hD0 _).mono ?_
          rintro e wv ⟨rfl, hbv⟩
          have hBv := bnext hBu hbv
          clear hbv hD0
          go_wp2_with fail
          all_goals try (exfalso; omega)
          go_ret
          exact ⟨rfl, hBv⟩
    · have hout : ¬ (r ≤ (m : Int) ∧ (m : Int) < s) := fun h => hh (hdm.2 h)
      rw [hk] at hLK
      clear hk hh hdm
      rcases (by omega : (m : Int) < r ∨ (r ≤ (m : Int) ∧ s ≤ (m : Int))) with hx | ⟨hx, hy⟩
      · have hLN := fun w => impl_LightName 3 w
        go_wp2_with fail
        refine (hLK _).mono ?_
        rintro e w4 ⟨rfl, hb4⟩
        have hB4 := bnext hB3 hb4
        clear hb4 hLK
        go_wp2_with fail
        all_goals try (exfalso; omega)
        refine (hLN _).mono ?_
        rintro e w5 ⟨rfl, hb5⟩
        have hBt := bnext hB4 hb5
        clear hb5 hLN
        rw [show pickS 3 lightNames = (⟨#[110, 105, 103, 104, 116]⟩ : ByteArray) from rfl]
        go_wp2_with fail
        refine (draw_season L1 _ _ W.heap.size _ (S1.out.below hBt) hBt.size U1.out (by omega)).mono ?_
        rintro e wd ⟨lat2, f, n, b1, b2, b3, rfl, hbd⟩
        have hBd := bnext hBt hbd
        clear hbd
        cases hs : okS lat2 f (n : Int)
        · have hA := fun w => impl_DarkSum_no lat2 f (n : Int) w hs
          have hL := fun w => impl_Longest_no lat2 f (n : Int) w hs
          clear hs
          go_wp2_with fail
          refine (hA _).mono ?_
          rintro e wx ⟨rfl, hbx⟩
          have hBx := bnext hBd hbx
          clear hbx hA
          go_wp2_with fail
          refine (hL _).mono ?_
          rintro e wy ⟨rfl, hby⟩
          go_wp2_with fail
          go_ret
          exact ⟨rfl, bnext hBx hby⟩
        · have hA := fun w => impl_DarkSum lat2 f n w hs
          have hL := fun w => impl_Longest lat2 f n w hs
          obtain ⟨o1, o2, o3, o4⟩ := okS_yes hs
          obtain ⟨t1, t2, t3, t4, t5, t6, t7⟩ := season_facts hs
          have hD0 : ∀ w, Calls Try.prog 13 #[.int .i64 lat2, .int .i64 f] w fun e w' => e = .returned (.tuple #[.int .i64 (dayF lat2 f 0), .int .i64 0]) ∧ Below w.heap.size w w' := fun w => by
            have h := impl_Dark lat2 (f + ((0 : Nat) : Int)) w (okS_at hs (k := 0) (by omega))
            rw [show f + ((0 : Nat) : Int) = f by omega] at h
            unfold dayF
            rw [show f + ((0 : Nat) : Int) = f by omega]
            exact h
          have hDb : ∀ w, Calls Try.prog 13 #[.int .i64 lat2, .int .i64 (f + ((topTo (dayF lat2 f) n).1 : Int))] w fun e w' => e = .returned (.tuple #[.int .i64 (topTo (dayF lat2 f) n).2, .int .i64 0]) ∧ Below w.heap.size w w' := fun w => by
            rw [← t2]
            exact impl_Dark lat2 _ w (okS_at hs (by omega))
          generalize dayF lat2 f 0 = d0 at hD0 t3
          generalize sumTo (dayF lat2 f) n = S at hA t4 t5
          clear t2
          obtain ⟨b, hb⟩ : ∃ b, (topTo (dayF lat2 f) n).1 = b := ⟨_, rfl⟩
          obtain ⟨M, hM⟩ : ∃ M, (topTo (dayF lat2 f) n).2 = M := ⟨_, rfl⟩
          rw [hb, hM] at hL
          rw [hb, hM] at hDb
          rw [hb] at t1
          rw [hM] at t3 t4 t5 t6 t7
          clear hb hM hs
          have k1 := mul_bd (x := (n : Int)) (y := M) (B := 401) (C := 1440) (by omega) (by omega) (by omega) (by omega)
          go_wp2_with fail
          refine (hA _).mono ?_
          rintro e wx ⟨rfl, hbx⟩
          have hBx := bnext hBd hbx
          clear hbx hA
          go_wp2_with fail
          refine (hL _).mono ?_
          rintro e wy ⟨rfl, hby⟩
          have hBy := bnext hBx hby
          clear hby hL
          go_wp2_with fail
          refine (hDb _).mono ?_
          rintro e wu ⟨rfl, hbu⟩
          have hBu := bnext hBy hbu
          clear hbu hDb
          go_wp2_with fail
          refine (hD0 _).mono ?_
          rintro e wv ⟨rfl, hbv⟩
          have hBv := bnext hBu hbv
          clear hbv hD0
          go_wp2_with fail
          all_goals try (exfalso; omega)
          go_ret
          exact ⟨rfl, hBv⟩
      · have hLN := fun w => impl_LightName 3 w
        go_wp2_with fail
        refine (hLK _).mono ?_
        rintro e w4 ⟨rfl, hb4⟩
        have hB4 := bnext hB3 hb4
        clear hb4 hLK
        go_wp2_with fail
        all_goals try (exfalso; omega)
        refine (hLN _).mono ?_
        rintro e w5 ⟨rfl, hb5⟩
        have hBt := bnext hB4 hb5
        clear hb5 hLN
        rw [show pickS 3 lightNames = (⟨#[110, 105, 103, 104, 116]⟩ : ByteArray) from rfl]
        go_wp2_with fail
        refine (draw_season L1 _ _ W.heap.size _ (S1.out.below hBt) hBt.size U1.out (by omega)).mono ?_
        rintro e wd ⟨lat2, f, n, b1, b2, b3, rfl, hbd⟩
        have hBd := bnext hBt hbd
        clear hbd
        cases hs : okS lat2 f (n : Int)
        · have hA := fun w => impl_DarkSum_no lat2 f (n : Int) w hs
          have hL := fun w => impl_Longest_no lat2 f (n : Int) w hs
          clear hs
          go_wp2_with fail
          refine (hA _).mono ?_
          rintro e wx ⟨rfl, hbx⟩
          have hBx := bnext hBd hbx
          clear hbx hA
          go_wp2_with fail
          refine (hL _).mono ?_
          rintro e wy ⟨rfl, hby⟩
          go_wp2_with fail
          go_ret
          exact ⟨rfl, bnext hBx hby⟩
        · have hA := fun w => impl_DarkSum lat2 f n w hs
          have hL := fun w => impl_Longest lat2 f n w hs
          obtain ⟨o1, o2, o3, o4⟩ := okS_yes hs
          obtain ⟨t1, t2, t3, t4, t5, t6, t7⟩ := season_facts hs
          have hD0 : ∀ w, Calls Try.prog 13 #[.int .i64 lat2, .int .i64 f] w fun e w' => e = .returned (.tuple #[.int .i64 (dayF lat2 f 0), .int .i64 0]) ∧ Below w.heap.size w w' := fun w => by
            have h := impl_Dark lat2 (f + ((0 : Nat) : Int)) w (okS_at hs (k := 0) (by omega))
            rw [show f + ((0 : Nat) : Int) = f by omega] at h
            unfold dayF
            rw [show f + ((0 : Nat) : Int) = f by omega]
            exact h
          have hDb : ∀ w, Calls Try.prog 13 #[.int .i64 lat2, .int .i64 (f + ((topTo (dayF lat2 f) n).1 : Int))] w fun e w' => e = .returned (.tuple #[.int .i64 (topTo (dayF lat2 f) n).2, .int .i64 0]) ∧ Below w.heap.size w w' := fun w => by
            rw [← t2]
            exact impl_Dark lat2 _ w (okS_at hs (by omega))
          generalize dayF lat2 f 0 = d0 at hD0 t3
          generalize sumTo (dayF lat2 f) n = S at hA t4 t5
          clear t2
          obtain ⟨b, hb⟩ : ∃ b, (topTo (dayF lat2 f) n).1 = b := ⟨_, rfl⟩
          obtain ⟨M, hM⟩ : ∃ M, (topTo (dayF lat2 f) n).2 = M := ⟨_, rfl⟩
          rw [hb, hM] at hL
          rw [hb, hM] at hDb
          rw [hb] at t1
          rw [hM] at t3 t4 t5 t6 t7
          clear hb hM hs
          have k1 := mul_bd (x := (n : Int)) (y := M) (B := 401) (C := 1440) (by omega) (by omega) (by omega) (by omega)
          go_wp2_with fail
          refine (hA _).mono ?_
          rintro e wx ⟨rfl, hbx⟩
          have hBx := bnext hBd hbx
          clear hbx hA
          go_wp2_with fail
          refine (hL _).mono ?_
          rintro e wy ⟨rfl, hby⟩
          have hBy := bnext hBx hby
          clear hby hL
          go_wp2_with fail
          refine (hDb _).mono ?_
          rintro e wu ⟨rfl, hbu⟩
          have hBu := bnext hBy hbu
          clear hbu hDb
          go_wp2_with fail
          refine (hD0 _).mono ?_
          rintro e wv ⟨rfl, hbv⟩
          have hBv := bnext hBu hbv
          clear hbv hD0
          go_wp2_with fail
          all_goals try (exfalso; omega)
          go_ret
          exact ⟨rfl, hBv⟩

theorem lifted (os : Os) (started : os.Started) (H : Type) (enc : TypeId × Value → H) :
    ReturnsInHanded {} Try.checked os 4 .any (Rows.fnNightsSpec.pre6 enc Try.prog Try.f4 Rows.fnNightsRow.domain false) (Rows.fnNightsSpec.post enc Try.prog Try.f4 false true false false) := by
  refine returnsInHanded_of_change (C := Try.checked) own started (by kernel_rfl) Try.func4
    (ChangeSpec.witness6 (enc := enc) (C := Try.checked) false ⟨#[], #[.slice none 0 0, .slice none 0 0], []⟩ 8 (by kernel_rfl) (by kernel_rfl) (by kernel_rfl) (by kernel_rfl)) ?_
  intro W base args ds gs before hval0 hW hcnd _
  have hval : ∀ (j : Nat) t v, Try.f4.params[j]? = some t → args[j]? = some v → Value.okWide Try.prog W .any base t v := hval0
  have hW' := hW
  obtain ⟨p, q, hA0, hV, rfl, hfz, hnd⟩ := hW
  have hA : DataW.TrodAll enc Try.prog W 0 (fun _ => true) true Try.f4.params.toList args.toList ds p := hA0
  rw [Try.params4] at hA hval
  obtain ⟨v0, vs0, d0, ds0, p0, q0, hargs, rfl, rfl, h0, r0⟩ := trodAll_cons hA
  obtain ⟨v1, vs1, d1, ds1, p1, q1, rfl, rfl, rfl, h1, r1⟩ := trodAll_cons r0
  obtain ⟨rfl, rfl, rfl⟩ := trodAll_nil r1
  obtain rfl : args = #[v0, v1] := by cases args; simp_all
  have g0 := h0
  have g1 := h1
  obtain ⟨rfl, rfl⟩ := trodVars_none hV
  clear hA0 hval0
  simp only [List.append_nil] at hW'
  have hlt : ∀ x ∈ p0 ++ (p1), x.block < W.heap.size := fun x hx => by simpa using hW'.lt x (by simpa using hx)
  obtain ⟨fu0, hf0⟩ := h0
  obtain ⟨A0, c0, L0, hv0, s0, b0, m0⟩ := open_row8 Try.underlying28 Try.underlying5 (by kernel_rfl) hf0
  obtain ⟨va0, vl0, vc0, rfl⟩ := Go.WideShapes.okWide_slice Try.underlying28 (hval 0 28 _ rfl rfl)
  obtain ⟨rfl, rfl, rfl⟩ : A0 = va0 ∧ L0.length = vl0 ∧ c0 = vc0 := by have := hv0; simp [Value.cells] at this; exact ⟨this.1.symm, this.2.1.symm, this.2.2.symm⟩
  obtain ⟨fu1, hf1⟩ := h1
  obtain ⟨A1, c1, L1, hv1, s1, b1, m1⟩ := open_row8 Try.underlying28 Try.underlying5 (by kernel_rfl) hf1
  obtain ⟨va1, vl1, vc1, rfl⟩ := Go.WideShapes.okWide_slice Try.underlying28 (hval 1 28 _ rfl rfl)
  obtain ⟨rfl, rfl, rfl⟩ : A1 = va1 ∧ L1.length = vl1 ∧ c1 = vc1 := by have := hv1; simp [Value.cells] at this; exact ⟨this.1.symm, this.2.1.symm, this.2.2.symm⟩
  refine (walk W A0 c0 L0 s0 b0 m0 A1 c1 L1 s1 b1 m1).mono fun e W' ⟨he, hg⟩ => ?_
  subst he
  exact ⟨_, rfl, post_below (pa := _) hW' (trodAll_cons_mk (shut_bool Try.underlying4 _) trodAll_mk0) (trodAll_cons_mk (Below.trod laidOut (by kernel_rfl) (of_decide_eq_true (by kernel_rfl)) g0 hg (fun x hx => hlt x (by simp [hx]))) (trodAll_cons_mk (Below.trod laidOut (by kernel_rfl) (of_decide_eq_true (by kernel_rfl)) g1 hg (fun x hx => hlt x (by simp [hx]))) trodAll_mk0)) rfl (by simp) hg⟩

theorem over : Rows.fnNightsRow.holds Try.pinned (OpenSpec.ofChange Rows.fnNightsSpec) :=
  OpenClaim.holds_of_wide 4 Try.f4 rfl rfl rfl rfl rfl rfl rfl ⟨rfl, rfl, rfl, rfl, rfl⟩ rfl rfl rfl rfl rfl (by kernel_rfl) Try.func4 (by kernel_rfl)
    (of_decide_eq_true (by kernel_rfl)) (by unfold Func.isWrapper; first | (rw [if_pos (by decide +kernel)]; kernel_rfl) | (rw [if_neg (by decide +kernel)]; exact ⟨rfl, rfl⟩))
    (fun os started H enc _ => lifted os started H enc)

theorem proved : Rows.FnNightsSaid := over
#print axioms proved
end fnNights

end Go.Proofs.Ytbikppndhidbpaa
