/-
  Contract of ReadSignal: the program's, at phases that can be read. Under the conditions that it states.
-/
import Derived.Test.YtpnffdkkmibchaaDoorMoD
import Derived.Test.YtpnffdkkmibchaaDoorRowOps
set_option linter.unusedVariables false
set_option linter.unnecessarySimpa false
set_option maxRecDepth 100000
set_option linter.unusedSimpArgs false
namespace Go.Proofs.YtpnffdkkmibchaaDoor
open Go.RowKit BigFrame Go.Deep

theorem jc_cell (W : List (Nat × Nat)) : ∀ u ∈ jc W, u.oneCell' = true := fun u hu => by
  obtain ⟨p, _, hp⟩ := List.mem_flatMap.1 hu
  simp at hp
  rcases hp with rfl | rfl <;> rfl
theorem clone_Phase (J : List (Nat × Nat)) (g o c B : Nat) (w : World) (hs : Sl w B (some ⟨g, o, none⟩) (jc J)) (hB : B ≤ w.heap.size) (hl : J.length ≤ 1048576) :
    Calls Tryd.prog 23 #[.slice (some ⟨g, o, none⟩) J.length c] w fun e w' => ∃ v, e = .returned v ∧ Below w.heap.size w w' ∧ w'.ownsRow w.heap.size 33 2 v J.length (jc J) := by
  obtain ⟨i0, hi, ie0, ie1, ie2⟩ := info_parts infoPh
  have hmk : ∀ w : World, (Instr.makeSlice 29 (.int .i64 0) (.int .i64 J.length)).run Tryd.prog w = .ok (.slice (some ⟨w.heap.size, 0, none⟩) 0 J.length) (w.alloc (.cells (madeCells #[.string ⟨#[]⟩, .int .i64 0] (J.length * 2)) 33)) := fun w => by
    have := run_make w 29 33 i0 _ Tryd.underlying29 hi ie0 .i64 .i64 0 J.length (by omega) (by omega) (by rw [ie2]; omega) (by omega)
    have ec : (Value.agg #[.string ⟨#[]⟩, .int .i64 0]).cells = #[.string ⟨#[]⟩, .int .i64 0] := rfl
    rw [ie1, ec] at this
    simpa using this
  have hO : (w.alloc (.cells (madeCells #[.string ⟨#[]⟩, .int .i64 0] (J.length * 2)) 33)).ownsRow w.heap.size 33 2 (.slice (some ⟨w.heap.size, 0, none⟩) 0 J.length) 0 [] := World.ownsRow_made w _ J.length (Nat.le_refl _) (by unfold maxLen; omega) (by rw [size_madeCells])
  have hc : ∀ j u, (jc J)[j]? = some u → (w.alloc (.cells (madeCells #[.string ⟨#[]⟩, .int .i64 0] (J.length * 2)) 33)).cell? ((⟨g, o, none⟩ : Addr).add j) = some u := Sl.cells (hs.below ((Below.refl B w).alloc hB _))
  have hc' := Lib.hid hc
  have hO' := Lib.hid hO
  have hn : (jc J).length = J.length * 2 := jc_len J
  have hB0 : Below w.heap.size w (w.alloc (.cells (madeCells #[.string ⟨#[]⟩, .int .i64 0] (J.length * 2)) 33)) := by go_grown
  clear hc hO hs
  obtain ⟨X, hX⟩ : ∃ X, jc J = X := ⟨_, rfl⟩
  have h1 := Lib.hid (jc_cell J)
  rw [hX] at hc' hn h1 ⊢
  go_enter Tryd.func23, Tryd.ntmps23
  go_wp2_with (at_builtin; refine wpList_append_fits _ rfl _ _ 29 rfl w.heap.size 33 i0 2 Tryd.underlying29 hi ie1 w.heap.size 0 J.length [] rfl hO'.out ⟨g, o, none⟩ J.length c X rfl hn hc'.out h1.out (by omega) ?_)
  intro w1 hown hgr
  have hBn := hB0.grown hgr (by simp) (fun k e => by cases e; exact Nat.le_refl _)
  try rw [Nat.zero_add] at hown
  try rw [List.nil_append] at hown
  clear hgr
  go_wp2
  go_ret
  exact ⟨_, rfl, hBn, hown⟩
theorem jc_at : ∀ (J : List (Nat × Nat)) (k : Nat) (h : k < J.length), (jc J)[k * 2]? = some (.string (nm J[k].1)) ∧ (jc J)[k * 2 + 1]? = some (.int .i64 (J[k].2 : Int))
  | [], k, h => by simp at h
  | p :: J, 0, h => ⟨rfl, rfl⟩
  | p :: J, k + 1, h => by
    have ih := jc_at J k (by simpa using h)
    have e : (k + 1) * 2 = k * 2 + 1 + 1 := by omega
    have c : jc (p :: J) = .string (nm p.1) :: .int .i64 (p.2 : Int) :: jc J := rfl
    rw [c, e]
    simpa using ih
theorem jc_w {w : World} {B : Nat} {A : Option Addr} {J : List (Nat × Nat)} (hs : Sl w B A (jc J)) (hB : B ≤ w.heap.size) (hJ : 0 < J.length) : ∃ b o : Nat, A = some ⟨b, o, none⟩ ∧ b < w.heap.size ∧ ∀ wx, Below w.heap.size w wx → ∀ k (h : k < J.length), wx.cell? ⟨b, o + k * 2, none⟩ = some (.string (nm J[k].1)) ∧ wx.cell? ⟨b, o + k * 2 + 1, none⟩ = some (.int .i64 (J[k].2 : Int)) := by
  obtain ⟨b, o, rfl, hb, he⟩ := hs (by intro e; have := jc_len J; rw [e] at this; simp at this; omega)
  refine ⟨b, o, rfl, by omega, fun wx hx k hk => ?_⟩
  obtain ⟨hc, _⟩ := bcell hx
  obtain ⟨h1, h2⟩ := jc_at J k hk
  exact ⟨(hc _ _ (by omega)).trans (he _ _ h1), (hc _ _ (by omega)).trans (by have := he _ _ h2; rwa [← Nat.add_assoc] at this)⟩
theorem Rd.next {u i : Nat} {a b : List Nat × List UInt8} {X : List (Nat × Nat)} (h : i < X.length) (hr : Rd u i a (X.drop i) b) : ∃ m, Stp u i a X[i] m ∧ Rd u (i + 1) m (X.drop (i + 1)) b := by
  rw [List.drop_eq_getElem_cons h] at hr
  exact hr
def tb (T : List Nat) : ByteArray := bs (T.map Nat.toUInt8)
theorem tb_size (T : List Nat) : (tb T).size = T.length := by unfold tb; rw [bs_size]; simp
theorem tb_one (T : List Nat) (x : Nat) : tb (T ++ [65 + x]) = tb T ++ lt x := by unfold tb; rw [List.map_append, bs_app]; rfl
theorem tb_two (T : List Nat) (x : Nat) : tb (T ++ [65 + x, 32]) = tb T ++ lt x ++ ⟨#[32]⟩ := by
  have e : T ++ [65 + x, 32] = (T ++ [65 + x]) ++ [32] := by simp
  rw [e]
  unfold tb
  rw [List.map_append, bs_app]
  show tb (T ++ [65 + x]) ++ _ = _
  rw [tb_one]
  rfl
theorem tb_txt (LS : List (Nat × Bool)) : tb (txt LS) = txS LS := rfl
theorem bs_snoc (σ : List UInt8) (s : UInt8) : bs (σ ++ [s]) = bs σ ++ ⟨#[s]⟩ := by rw [bs_app]; rfl
theorem tmod_nat2 {a n : Nat} (h : a % 2 = n) : ((a : Int)).tmod 2 = (n : Int) := by rw [Int.tmod_eq_emod_of_nonneg (by omega)]; omega
def szG (i : Nat) (a : List Nat × List UInt8) : Prop := a.1.length ≤ 2 * i ∧ a.2.length ≤ i
theorem szG.next {u i : Nat} {a b : List Nat × List UInt8} {p : Nat × Nat} (h : szG i a) (hs : Stp u i a p b) : szG (i + 1) b := by
  obtain ⟨h1, h2⟩ := h
  rcases hs with ⟨_, _, rfl⟩ | ⟨_, _, rfl⟩ | ⟨_, _, rfl⟩ | ⟨_, _, x, _, _, rfl⟩ | ⟨_, _, x, _, _, rfl⟩ <;> constructor <;> (try simp) <;> omega
set_option maxHeartbeats 6400000 in
theorem impl_ReadSig (LS : List (Nat × Bool)) (J : List (Nat × Nat)) (A : Option Addr) (c B u : Nat) (hg : goodL LS) (he : endL LS) (hl : (txt LS).length ≤ 12) (hu : 1 ≤ u ∧ u ≤ 50) (hR : Rd u 0 ([], []) (J ++ [(0, 3 * u)]) (txt LS, [])) (hJ0 : 0 < J.length) (hJ : J.length ≤ 200) (w : World) (hE : Env w) (hs : Sl w B A (jc J)) (hB : B ≤ w.heap.size) :
    Calls Tryd.prog 12 #[.slice A J.length c, .int .i64 u] w fun e w' => e = .returned (.tuple #[.string (txS LS), .int .i64 0]) ∧ Below w.heap.size w w' := by
  obtain ⟨i0, hi, ie0, ie1, ie2⟩ := info_parts infoPh
  have hCan := Lib.hid (fun w hE => impl_canSend LS hg he hl w hE)
  have hCol : ∀ w, Calls Tryd.prog 18 #[.string ⟨#[82]⟩] w fun e w' => e = .returned (.bool true) ∧ w = w' := fun w => by
    have h := impl_isColor ⟨#[82]⟩ (show 1 ≤ maxLen by unfold maxLen; omega) w
    rwa [show colorM ⟨#[82]⟩ = true by unfold colorM; rw [ByteArray.toList_eq]; decide] at h
  have hU := fun w => isUnit_yes u hu w
  obtain ⟨b, o, rfl, hb, -⟩ := jc_w hs hB hJ0
  have hs' := Lib.hid hs
  have hR' := Lib.hid hR
  clear hs hR hg he
  go_enter Tryd.func12, Tryd.ntmps12
  go_wp2_with (go_at_call 19; refine (hU _).mono ?_; rintro e w' ⟨rfl, rfl⟩)
  refine (clone_Phase J b o c B _ hs'.out hB (by omega)).mono ?_
  rintro e w1 ⟨v, rfl, hb1, hown⟩
  obtain ⟨t3, h3⟩ : ∃ t3 : Int, 3 * (u : Int) = t3 := ⟨_, rfl⟩
  have hz3 : ((3 * u : Nat) : Int) = t3 := by omega
  have hS1 := hb1.size
  go_wp2_with (at_builtin; refine wpList_append_own _ rfl _ _ 29 rfl (w.heap.size) 33 i0 (.agg #[.string ⟨#[]⟩, .int .i64 0]) 2 24 Tryd.underlying29 hi ie0 ie1 ie2 rfl (by decide) _ _ _ rfl (hown.alloc _) ⟨w1.heap.size, 0, none⟩ 1 1 [.string ⟨#[]⟩, .int .i64 t3] rfl rfl ?c1 ?c2 ?c3 ?c4 ?c5 ?_)
  try (case c1 =>
      intro j u hj
      match j, hj with
      | 0, hj => obtain rfl := Option.some.inj hj; simp [Addr.add, go_sem]
      | 1, hj => obtain rfl := Option.some.inj hj; simp [Addr.add, go_sem, *])
  try (case c2 => first | exact ⟨rfl, rfl⟩ | (intro u hu; simp at hu; rcases hu with rfl | rfl <;> rfl))
  case c3 => unfold maxLen; omega
  case c4 => omega
  case c5 => first | omega | (simp; omega)
  intro v1 w2 hown1 hgrow _
  have hB2 := (show Below w.heap.size w (w1.alloc (.cells #[.string ⟨#[]⟩, .int .i64 t3] 33)) by go_grown).grown hgrow (by simp; omega) (fun q e => by have := (hown.lt q e).1; omega)
  have hXe : jc (J ++ [(0, 3 * u)]) = jc J ++ [.string ⟨#[]⟩, .int .i64 t3] := by rw [jc_snoc, hz3]; rfl
  obtain ⟨X, hX⟩ : ∃ X, J ++ [(0, 3 * u)] = X := ⟨_, rfl⟩
  have hXl : X.length = J.length + 1 := by rw [← hX]; simp
  rw [hX] at hXe hR'
  rw [← hXe, ← hXl] at hown1
  obtain ⟨A2, c2, rfl, hsl⟩ := (Rs.of_owns hown1).sl
  obtain ⟨b2, o2, rfl, hb2, he2⟩ := jc_w hsl (Nat.le_refl _) (by omega)
  have he2' := Lib.hid he2
  have hE2 := hE.on hB2
  have hX2 : X.length ≤ 201 := by omega
  obtain ⟨t7, h7⟩ : ∃ t7 : Int, 7 * (u : Int) = t7 := ⟨_, rfl⟩
  have h1u : ((1 * u : Nat) : Int) = (u : Int) := by omega
  have hz7 : ((7 * u : Nat) : Int) = t7 := by omega
  have e31 : (t3 == (u : Int)) = false := beq_eq_false_iff_ne.2 (by omega)
  have e13 : ((u : Int) == t3) = false := beq_eq_false_iff_ne.2 (by omega)
  have e71 : (t7 == (u : Int)) = false := beq_eq_false_iff_ne.2 (by omega)
  have e17 : ((u : Int) == t7) = false := beq_eq_false_iff_ne.2 (by omega)
  have e37 : (t3 == t7) = false := beq_eq_false_iff_ne.2 (by omega)
  have e73 : (t7 == t3) = false := beq_eq_false_iff_ne.2 (by omega)
  have hq1 : (⟨#[82]⟩ : ByteArray).toList.isEmpty = false := some_text (by decide)
  have b3 : 3 ≤ t3 ∧ t3 ≤ 150 := by omega
  have b7 : 7 ≤ t7 ∧ t7 ≤ 350 := by omega
  have hz1' := Lib.hid h1u
  have hz3' := Lib.hid hz3
  have hz7' := Lib.hid hz7
  clear hown hown1 hgrow hb1 hS1 hXe hX hXl hsl he2 hs' h1u hz3 hz7 hi ie0 ie1 ie2 hE hb
  have hS2 := hB2.size
  go_wp2_with fail
  go_loopw [6, 7, 23] (fun tv sv iv wr => ∃ (i : Nat) (a : List Nat × List UInt8), tv = .string (tb a.1) ∧ sv = .string (bs a.2) ∧ iv = .int .i64 i ∧ i ≤ X.length ∧ Hid (szG i a ∧ Rd u i a (X.drop i) (txt LS, [])) ∧ Below w2.heap.size w2 wr) (fun _ _ iv _ => X.length - (intOf iv).toNat)
  case atStart => exact ⟨0, ([], []), rfl, rfl, rfl, Nat.zero_le _, Lib.hid ⟨⟨Nat.zero_le _, Nat.zero_le _⟩, by rw [List.drop_zero]; exact hR'.out⟩, Below.refl _ _⟩
  case round =>
    obtain ⟨i, ⟨a1, a2⟩, rfl, rfl, rfl, hi, hr, hB3⟩ := hrel
    have hS3 := hB3.size
    by_cases hlt : i < X.length
    · obtain ⟨m, hstp, hnext⟩ := Rd.next hlt hr.out.2
      obtain ⟨d0, d1⟩ := he2'.out wr hB3 i hlt
      have hsz := hr.out.1
      have hnx := Lib.hid (show szG (i + 1) m ∧ Rd u (i + 1) m (X.drop (i + 1)) (txt LS, []) from ⟨hsz.next hstp, hnext⟩)
      obtain ⟨hsz1, hsz2⟩ := hsz
      have hT := tb_size a1
      have hS := bs_size a2
      dsimp only at hsz1 hsz2 ⊢
      have hbw : b2 < wr.heap.size := by omega
      rcases hstp with ⟨hm2, hp, rfl⟩ | ⟨hm2, hp, rfl⟩ | ⟨hm2, hp, rfl⟩ | ⟨hm2, hp, x, hx, hax, rfl⟩ | ⟨hm2, hp, x, hx, hax, rfl⟩
      · rw [hp] at d0 d1
        rw [hz1'.out] at d1
        change wr.cell? _ = some (.string ⟨#[82]⟩) at d0
        have m1 : ((i : Int)).tmod 2 = 0 := by have := tmod_nat2 hm2; simpa using this
        have m2 : (i : Int) % 2 = 0 := by omega
        clear hp hnext hr
        go_upto_region 7 with fail
        refine wp_at ?_
        intro wz hwz
        have p0 : wz.cell? ⟨wr.heap.size, 0, none⟩ = some (.string ⟨#[82]⟩) := by rw [hwz, World.cell?_alloc_new]; rfl
        have p1 : wz.cell? ⟨wr.heap.size, 1, none⟩ = some (.int .i64 (u : Int)) := by rw [hwz, World.cell?_alloc_new]; rfl
        have hBz : Below w2.heap.size w2 wz := by rw [hwz]; go_grown
        have hSz : wr.heap.size < wz.heap.size := by rw [hwz]; simp
        clear hwz d0 d1 hB3
        go_wp2_with (go_at_call 18; refine (hCol _).mono ?_; rintro e w' ⟨rfl, rfl⟩)
        go_roundw
        case rel => exact ⟨i + 1, (a1, a2 ++ [46]), rfl, by rw [bs_snoc], by go_num, by omega, hnx, hBz⟩
        case measure => simp [intOf]; omega
      · rw [hp] at d0 d1
        rw [hz3'.out] at d1
        change wr.cell? _ = some (.string ⟨#[82]⟩) at d0
        have m1 : ((i : Int)).tmod 2 = 0 := by have := tmod_nat2 hm2; simpa using this
        have m2 : (i : Int) % 2 = 0 := by omega
        clear hp hnext hr
        go_upto_region 7 with fail
        refine wp_at ?_
        intro wz hwz
        have p0 : wz.cell? ⟨wr.heap.size, 0, none⟩ = some (.string ⟨#[82]⟩) := by rw [hwz, World.cell?_alloc_new]; rfl
        have p1 : wz.cell? ⟨wr.heap.size, 1, none⟩ = some (.int .i64 t3) := by rw [hwz, World.cell?_alloc_new]; rfl
        have hBz : Below w2.heap.size w2 wz := by rw [hwz]; go_grown
        have hSz : wr.heap.size < wz.heap.size := by rw [hwz]; simp
        clear hwz d0 d1 hB3
        go_wp2_with (go_at_call 18; refine (hCol _).mono ?_; rintro e w' ⟨rfl, rfl⟩)
        go_roundw
        case rel => exact ⟨i + 1, (a1, a2 ++ [45]), rfl, by rw [bs_snoc], by go_num, by omega, hnx, hBz⟩
        case measure => simp [intOf]; omega
      · rw [hp] at d0 d1
        rw [hz1'.out] at d1
        change wr.cell? _ = some (.string ⟨#[]⟩) at d0
        have m1 : ((i : Int)).tmod 2 = 1 := by have := tmod_nat2 hm2; simpa using this
        have m2 : (i : Int) % 2 = 1 := by omega
        clear hp hnext hr
        go_upto_region 7 with fail
        refine wp_at ?_
        intro wz hwz
        have p0 : wz.cell? ⟨wr.heap.size, 0, none⟩ = some (.string ⟨#[]⟩) := by rw [hwz, World.cell?_alloc_new]; rfl
        have p1 : wz.cell? ⟨wr.heap.size, 1, none⟩ = some (.int .i64 (u : Int)) := by rw [hwz, World.cell?_alloc_new]; rfl
        have hBz : Below w2.heap.size w2 wz := by rw [hwz]; go_grown
        have hSz : wr.heap.size < wz.heap.size := by rw [hwz]; simp
        clear hwz d0 d1 hB3
        go_wp2_with fail
        go_roundw
        case rel => exact ⟨i + 1, (a1, a2), rfl, rfl, by go_num, by omega, hnx, hBz⟩
        case measure => simp [intOf]; omega
      · rw [hp] at d0 d1
        rw [hz3'.out] at d1
        change wr.cell? _ = some (.string ⟨#[]⟩) at d0
        have m1 : ((i : Int)).tmod 2 = 1 := by have := tmod_nat2 hm2; simpa using this
        have m2 : (i : Int) % 2 = 1 := by omega
        dsimp only at hax
        subst hax
        have hLt : ∀ w, Calls Tryd.prog 7 #[.string (bs (sg x))] w fun e w' => e = .returned (.tuple #[.string (lt x), .int .i64 0]) ∧ Below w.heap.size w w' := fun w => impl_LetterOf x hx w
        have ht := tb_one a1 x
        have hl1 : (lt x).size = 1 := rfl
        obtain ⟨l, hle⟩ : ∃ l, lt x = l := ⟨_, rfl⟩
        rw [hle] at hLt ht hl1
        have ht' := Lib.hid ht
        clear hp hnext hr hle ht
        go_upto_region 7 with fail
        refine wp_at ?_
        intro wz hwz
        have p0 : wz.cell? ⟨wr.heap.size, 0, none⟩ = some (.string ⟨#[]⟩) := by rw [hwz, World.cell?_alloc_new]; rfl
        have p1 : wz.cell? ⟨wr.heap.size, 1, none⟩ = some (.int .i64 t3) := by rw [hwz, World.cell?_alloc_new]; rfl
        have hBz : Below w2.heap.size w2 wz := by rw [hwz]; go_grown
        have hSz : wr.heap.size < wz.heap.size := by rw [hwz]; simp
        clear hwz d0 d1 hB3
        go_wp2_with fail
        refine (hLt _).mono ?_
        rintro e w4 ⟨rfl, hb4⟩
        have p2 := ((bcell hb4).1 _ 1 hSz).trans p1
        have hB4 := bnext hBz hb4
        have hS4 : wr.heap.size < w4.heap.size := by have := hb4.size; omega
        clear hb4 p0 p1
        go_wp2_with fail
        go_roundw
        case rel => exact ⟨i + 1, (a1 ++ [65 + x], []), by rw [ht'.out], rfl, by go_num, by omega, hnx, hB4⟩
        case measure => simp [intOf]; omega
      · rw [hp] at d0 d1
        rw [hz7'.out] at d1
        change wr.cell? _ = some (.string ⟨#[]⟩) at d0
        have m1 : ((i : Int)).tmod 2 = 1 := by have := tmod_nat2 hm2; simpa using this
        have m2 : (i : Int) % 2 = 1 := by omega
        dsimp only at hax
        subst hax
        have hLt : ∀ w, Calls Tryd.prog 7 #[.string (bs (sg x))] w fun e w' => e = .returned (.tuple #[.string (lt x), .int .i64 0]) ∧ Below w.heap.size w w' := fun w => impl_LetterOf x hx w
        have ht := tb_two a1 x
        have hl1 : (lt x).size = 1 := rfl
        obtain ⟨l, hle⟩ : ∃ l, lt x = l := ⟨_, rfl⟩
        rw [hle] at hLt ht hl1
        have ht' := Lib.hid ht
        clear hp hnext hr hle ht
        go_upto_region 7 with fail
        refine wp_at ?_
        intro wz hwz
        have p0 : wz.cell? ⟨wr.heap.size, 0, none⟩ = some (.string ⟨#[]⟩) := by rw [hwz, World.cell?_alloc_new]; rfl
        have p1 : wz.cell? ⟨wr.heap.size, 1, none⟩ = some (.int .i64 t7) := by rw [hwz, World.cell?_alloc_new]; rfl
        have hBz : Below w2.heap.size w2 wz := by rw [hwz]; go_grown
        have hSz : wr.heap.size < wz.heap.size := by rw [hwz]; simp
        clear hwz d0 d1 hB3
        go_wp2_with fail
        refine (hLt _).mono ?_
        rintro e w4 ⟨rfl, hb4⟩
        have p2 := ((bcell hb4).1 _ 1 hSz).trans p1
        have hB4 := bnext hBz hb4
        have hS4 : wr.heap.size < w4.heap.size := by have := hb4.size; omega
        clear hb4 p0 p1
        go_wp2_with fail
        go_roundw
        case rel => exact ⟨i + 1, (a1 ++ [65 + x, 32], []), by rw [ht'.out], rfl, by go_num, by omega, hnx, hB4⟩
        case measure => simp [intOf]; omega
    · obtain rfl : i = X.length := by omega
      have hfin : (a1, a2) = (txt LS, []) := by
        have := hr.out.2
        rw [List.drop_length] at this
        exact this
      obtain ⟨rfl, rfl⟩ := Prod.mk.inj hfin
      have hBf := bnext hB2 hB3
      have hE3 := hE2.on hB3
      have hC : ∀ w, Env w → Calls Tryd.prog 17 #[.string (tb (txt LS))] w fun e w' => e = .returned (.bool true) ∧ Below w.heap.size w w' := fun w h => hCan.out w h
      have htt : Hid (tb (txt LS) = txS LS) := Lib.hid rfl
      dsimp only
      obtain ⟨R, hRe⟩ : ∃ R, tb (txt LS) = R := ⟨_, rfl⟩
      rw [hRe] at hC htt ⊢
      clear hfin hr hRe
      go_wp2_with fail
      refine (hC _ hE3).mono ?_
      rintro e w5 ⟨rfl, hb5⟩
      go_wp2_with fail
      go_ret2
      exact ⟨by rw [← htt.out]; rfl, bnext hBf hb5⟩
end Go.Proofs.YtpnffdkkmibchaaDoor
