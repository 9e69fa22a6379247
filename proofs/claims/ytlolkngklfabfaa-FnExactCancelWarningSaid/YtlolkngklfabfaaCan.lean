/-
  Contracts of a warning ended in a list: the program's and the reference's. Under the conditions that each states.
-/
import Derived.Test.YtlolkngklfabfaaCanP
import Derived.Test.YtlolkngklfabfaaRowOps
import Derived.Deep.RegionLaw
import Derived.Shelf.RegionOpenPlain
set_option linter.unusedVariables false
set_option linter.unnecessarySimpa false
set_option maxRecDepth 100000
set_option linter.unusedSimpArgs false
namespace Go.Proofs.Ytlolkngklfabfaa
open Go.RowKit BigFrame Go.Deep

theorem infoWarn : (Try.prog.info? 113).map (fun i => (i.zero, i.size, i.bytes)) = some (some (.agg #[.int .i64 0, .int .i64 0, .int .i64 0, .int .i64 0, .int .i64 0, .int .i64 0, .int .i64 0, .string ⟨#[]⟩]), 8, 72) := by kernel_rfl
theorem RWarning.one (a : RWarning) : ∀ u ∈ a.cells, u.oneCell' = true := by
  intro u hu
  simp [RWarning.cells] at hu
  rcases hu with rfl | rfl | rfl | rfl | rfl | rfl | rfl | rfl <;> rfl
theorem zero_Warning : (Builtin.zeroCells #[.int .i64 0, .int .i64 0, .int .i64 0, .int .i64 0, .int .i64 0, .int .i64 0, .int .i64 0, .string ⟨#[]⟩] 1).toList = [.int .i64 0, .int .i64 0, .int .i64 0, .int .i64 0, .int .i64 0, .int .i64 0, .int .i64 0, .string ⟨#[]⟩] := by
  apply List.ext_getElem
  · simp [Builtin.zeroCells]
  · intro i h1 h2
    have : i < 8 := h2
    match i, this with
    | 0, _ => simp [Builtin.zeroCells]
    | 1, _ => simp [Builtin.zeroCells]
    | 2, _ => simp [Builtin.zeroCells]
    | 3, _ => simp [Builtin.zeroCells]
    | 4, _ => simp [Builtin.zeroCells]
    | 5, _ => simp [Builtin.zeroCells]
    | 6, _ => simp [Builtin.zeroCells]
    | 7, _ => simp [Builtin.zeroCells]
theorem own_of_owns {w : World} {B n cap sz g : Nat} {e : TypeId} {xs : List Value} (h : w.ownsRow B e sz (.slice (some ⟨g, 0, none⟩) n cap) n xs) : Own w g e (cap * sz) xs := by
  obtain ⟨hl, h | ⟨g', cap', cur, e', hb, hh, hn, hm, hs, ht⟩⟩ := h
  · cases h.1
  · cases e'
    refine ⟨cur, hh, hs, ?_, fun j u hu => ?_⟩
    · rw [hl]; exact Nat.mul_le_mul_right _ hn
    · rw [← ht, List.getElem?_take] at hu
      split at hu
      · simpa using hu
      · cases hu
theorem Sl.cells {w : World} {B : Nat} {ad : Addr} {xs : List Value} (h : Sl w B (some ad) xs) : ∀ j u, xs[j]? = some u → w.cell? (ad.add j) = some u := by
  intro j u hu
  obtain ⟨b, o, e, hb, hc⟩ := h (by intro e; rw [e] at hu; simp at hu)
  cases e
  rw [Addr.add_lit]
  exact hc j u hu
theorem new_cells (w : World) (cs : List Value) (t : TypeId) : ∀ j u, cs[j]? = some u → (w.alloc (.cells cs.toArray t)).cell? ((⟨w.heap.size, 0, none⟩ : Addr).add j) = some u :=
  Sl.cells (Sl.new w cs.toArray t)

theorem clone_Warning (L : List RWarning) (g o c B : Nat) (w : World) (hs : Sl w B (some ⟨g, o, none⟩) (flat RWarning.cells L)) (hB : B ≤ w.heap.size) (hl : L.length ≤ 1048576) :
    Calls Try.prog 78 #[.slice (some ⟨g, o, none⟩) L.length c] w fun e w' => e = .returned (.slice (some ⟨w.heap.size, 0, none⟩) L.length L.length) ∧ Below w.heap.size w w' ∧ Own w' w.heap.size 113 (L.length * 8) (flat RWarning.cells L) := by
  obtain ⟨i0, hi, ie0, ie1, ie2⟩ := info_parts infoWarn
  have hmk : ∀ w : World, (Instr.makeSlice 24 (.int .i64 0) (.int .i64 L.length)).run Try.prog w = .ok (.slice (some ⟨w.heap.size, 0, none⟩) 0 L.length) (w.alloc (.cells (madeCells #[.int .i64 0, .int .i64 0, .int .i64 0, .int .i64 0, .int .i64 0, .int .i64 0, .int .i64 0, .string ⟨#[]⟩] (L.length * 8)) 113)) := fun w => by
    have := run_make w 24 113 i0 _ Try.underlying24 hi ie0 .i64 .i64 0 L.length (by omega) (by omega) (by rw [ie2]; omega) (by omega)
    have ec : (Value.agg #[.int .i64 0, .int .i64 0, .int .i64 0, .int .i64 0, .int .i64 0, .int .i64 0, .int .i64 0, .string ⟨#[]⟩]).cells = #[.int .i64 0, .int .i64 0, .int .i64 0, .int .i64 0, .int .i64 0, .int .i64 0, .int .i64 0, .string ⟨#[]⟩] := rfl
    rw [ie1, ec] at this
    simpa using this
  have hO : (w.alloc (.cells (madeCells #[.int .i64 0, .int .i64 0, .int .i64 0, .int .i64 0, .int .i64 0, .int .i64 0, .int .i64 0, .string ⟨#[]⟩] (L.length * 8)) 113)).ownsRow w.heap.size 113 8 (.slice (some ⟨w.heap.size, 0, none⟩) 0 L.length) 0 [] := World.ownsRow_made w _ L.length (Nat.le_refl _) (by unfold maxLen; omega) (by rw [size_madeCells])
  have hc : ∀ j u, (flat RWarning.cells L)[j]? = some u → (w.alloc (.cells (madeCells #[.int .i64 0, .int .i64 0, .int .i64 0, .int .i64 0, .int .i64 0, .int .i64 0, .int .i64 0, .string ⟨#[]⟩] (L.length * 8)) 113)).cell? ((⟨g, o, none⟩ : Addr).add j) = some u := Sl.cells (hs.below ((Below.refl B w).alloc hB _))
  have hc' := Lib.hid hc
  have hO' := Lib.hid hO
  have hn : (flat RWarning.cells L).length = L.length * 8 := flat_len RWarning.len L
  have hB0 : Below w.heap.size w (w.alloc (.cells (madeCells #[.int .i64 0, .int .i64 0, .int .i64 0, .int .i64 0, .int .i64 0, .int .i64 0, .int .i64 0, .string ⟨#[]⟩] (L.length * 8)) 113)) := by go_grown
  clear hc hO hs
  obtain ⟨X, hX⟩ : ∃ X, flat RWarning.cells L = X := ⟨_, rfl⟩
  have h1 := Lib.hid (flat_one RWarning.one L)
  rw [hX] at hc' hn h1 ⊢
  go_enter Try.func78, Try.ntmps78
  go_wp2_with (at_builtin; refine wpList_append_fits _ rfl _ _ 24 rfl w.heap.size 113 i0 8 Try.underlying24 hi ie1 w.heap.size 0 L.length [] rfl hO'.out ⟨g, o, none⟩ L.length c X rfl hn hc'.out h1.out (by omega) ?_)
  intro w1 hown hgr
  have hBn := hB0.grown hgr (by simp) (fun k e => by cases e; exact Nat.le_refl _)
  try rw [Nat.zero_add] at hown
  try rw [List.nil_append] at hown
  have hOw := own_of_owns hown
  clear hown hgr
  go_wp2
  go_ret
  exact ⟨by simp, hBn, hOw⟩

set_option maxHeartbeats 1600000 in
theorem del_Warning (L : List RWarning) (g i : Nat) (w : World) (hO : Own w g 113 (L.length * 8) (flat RWarning.cells L)) (hi : i < L.length) (hl : L.length ≤ 1048576) :
    Calls Try.prog 79 #[.slice (some ⟨g, 0, none⟩) L.length L.length, .int .i64 i, .int .i64 ((i : Int) + 1)] w fun e w' => e = .returned (.slice (some ⟨g, 0, none⟩) (L.length - 1) L.length) ∧ w.grownBy w' (some g) ∧ Own w' g 113 (L.length * 8) (flat RWarning.cells (L.take i ++ L.drop (i + 1))) := by
  obtain ⟨i0, hi0, hz0, hz1, hz2⟩ := info_parts infoWarn
  have hlen0 : (flat RWarning.cells L).length = L.length * 8 := flat_len RWarning.len L
  obtain ⟨news, hnews⟩ : ∃ news, flat RWarning.cells (L.drop (i + 1)) = news := ⟨_, rfl⟩
  have hlen : news.length = (L.length - (i + 1)) * 8 := by rw [← hnews, flat_len RWarning.len, List.length_drop]
  have s1 := Lib.hid hlen
  have s2 : Hid (∀ u ∈ news, u.oneCell' = true) := Lib.hid (by rw [← hnews]; exact flat_one RWarning.one _)
  have hsrc : ∀ j u, news[j]? = some u → w.drew.cell? ⟨g, (i + 1) * 8 + j, none⟩ = some u := fun j u hu => by
    rw [← hnews] at hu
    exact hO.drew.get (flat_drop RWarning.len L (show i + 1 ≤ L.length by omega) hu)
  have s3 : Hid (∀ t, t < news.length → (w.drew.cell? ⟨g, 0 + i * 8 + t, none⟩).isSome = true ∧ w.drew.frozen? ⟨g, 0 + i * 8 + t, none⟩ = false) := Lib.hid fun t ht => ⟨hO.drew.some (by omega), hO.drew.frozen _⟩
  -- what lies there behind the append, and behind the clearing
  obtain ⟨W1, hW1⟩ : ∃ W1, W1 = w.drew.setCells g (0 + i * 8) news := ⟨_, rfl⟩
  have hO1 : Own W1 g 113 (L.length * 8) ((flat RWarning.cells L).take (i * 8) ++ news ++ (flat RWarning.cells L).drop (i * 8 + news.length)) := by
    rw [hW1, Nat.zero_add]
    exact hO.drew.upds news (i * 8) (by omega)
  have hG1 : w.grownBy W1 (some g) := by rw [hW1]; exact grown_cells news _ (grown_drew (World.grownBy.refl _ _))
  have ec : (Value.agg #[.int .i64 0, .int .i64 0, .int .i64 0, .int .i64 0, .int .i64 0, .int .i64 0, .int .i64 0, .string ⟨#[]⟩]).cells = #[.int .i64 0, .int .i64 0, .int .i64 0, .int .i64 0, .int .i64 0, .int .i64 0, .int .i64 0, .string ⟨#[]⟩] := rfl
  obtain ⟨zs, hzs⟩ : ∃ zs : List Value, [.int .i64 0, .int .i64 0, .int .i64 0, .int .i64 0, .int .i64 0, .int .i64 0, .int .i64 0, .string ⟨#[]⟩] = zs := ⟨_, rfl⟩
  have hz8 : zs.length = 8 := by rw [← hzs]; rfl
  have hcl : ∀ ty c, (Builtin.clear_ #[24] ty #[.slice (some ⟨g, (L.length - 1) * 8, none⟩) 1 c]).run Try.prog W1 = .ok (.tuple #[]) (W1.setCells g ((L.length - 1) * 8) zs) := fun ty c =>
    run_clear_rows W1 24 113 ty (.agg #[.int .i64 0, .int .i64 0, .int .i64 0, .int .i64 0, .int .i64 0, .int .i64 0, .int .i64 0, .string ⟨#[]⟩]) zs Try.underlying24 (fun w => by simp [zeroValue, typeInfo, hi0, hz0]) g _ 1 c (by omega) (by rw [← hzs, ec]; exact zero_Warning) (by rw [← hzs]; intro u hu; simp at hu; rcases hu with rfl | rfl | rfl | rfl | rfl | rfl | rfl | rfl <;> rfl) (fun j hj => hO1.some (by omega)) (fun j hj => hO1.frozen _)
  have hO2 : Own (W1.setCells g ((L.length - 1) * 8) zs) g 113 (L.length * 8) (flat RWarning.cells (L.take i ++ L.drop (i + 1))) := by
    have hxl : ((flat RWarning.cells L).take (i * 8) ++ news).length = (L.length - 1) * 8 := by rw [List.length_append, List.length_take, hlen0, hlen]; omega
    have h := hO1.upds zs ((L.length - 1) * 8) (by rw [List.length_append, hxl, List.length_drop, hlen0, hlen, hz8]; omega)
    rw [← hxl, List.take_left, List.append_assoc] at h
    have h2 := Own.cut h
    rw [flat_tk RWarning.len L (by omega), ← hnews, ← flat_append] at h2
    rw [← hxl, flat_tk RWarning.len L (by omega), ← hnews, ← flat_append]
    exact h2
  have hG2 := grown_cells zs ((L.length - 1) * 8) hG1
  have hW := Lib.hid hW1
  have hOO := Lib.hid hO2
  have hGG := Lib.hid hG2
  have hsrc' := Lib.hid hsrc
  have hle : i + 1 ≤ L.length := by omega
  clear hW1 hO1 hG1 hO hzs hz8 hlen hlen0 hnews hsrc hO2 hG2
  have mixed : Try.prog.follows .mixedOrders = true := by kernel_rfl
  have hne : ((i : Int) == (i : Int) + 1) = false := beq_eq_false_iff_ne.2 (by omega)
  have hic : i ≤ L.length := by omega
  have hiA : (i : Int) ≤ (i : Int) + 1 := by omega
  have hiB : (0 : Int) ≤ (i : Int) + 1 := by omega
  have hiI : (i : Int) + 1 ≤ (L.length : Int) := by omega
  by_cases hlast : L.length = i + 1
  · have hnil : news = [] := List.eq_nil_of_length_eq_zero (by have := s1.out; omega)
    have hq : Hid (∀ j u, news[j]? = some u → w.drew.cell? ((⟨g, 0, none⟩ : Addr).add j) = some u) := Lib.hid (fun j u hu => by rw [hnil] at hu; simp at hu)
    have hcl1 := hcl 0 1
    have e8 : (L.length - 1) * 8 = i * 8 := by omega
    rw [e8] at hcl1 hGG hOO
    clear hnil hcl e8
    go_enter Try.func79, Try.ntmps79
    go_wp2_with fail
    go_region_law_o (refine step_append_room rfl (.tmp 22) (.tmp 25) 24 rfl 113 i0 8 Try.underlying24 hi0 hz1 g 0 i L.length (by simp [Act.eval, Act.put] <;> omega) ⟨g, 0, none⟩ (L.length - (i + 1)) (L.length - (i + 1)) news (by simp [Act.eval, Act.put] <;> omega) s1.out hq.out s2.out (by omega) s3.out ?_; rw [← hW.out])
    go_wp2
    go_ret
    exact ⟨by rw [show L.length - 1 = i by omega, show L.length = i + 1 from hlast] <;> rfl, hGG.out, hOO.out⟩
  · have hq : Hid (∀ j u, news[j]? = some u → w.drew.cell? ((⟨g, (i + 1) * 8, none⟩ : Addr).add j) = some u) := Lib.hid (fun j u hu => by rw [Addr.add_lit]; exact hsrc'.out j u hu)
    have hcl1 : ∀ c, (Builtin.clear_ #[24] 0 #[.slice (some ⟨g, (i + (L.length - (i + 1))) * 8, none⟩) (L.length - (i + (L.length - (i + 1)))) c]).run Try.prog W1 = .ok (.tuple #[]) (W1.setCells g ((L.length - 1) * 8) zs) := fun c => by
      have e1 : L.length - (i + (L.length - (i + 1))) = 1 := by omega
      have e8 : (i + (L.length - (i + 1))) * 8 = (L.length - 1) * 8 := by omega
      rw [e1, e8]
      exact hcl 0 c
    clear hcl
    go_enter Try.func79, Try.ntmps79
    go_wp2_with fail
    go_region_law_o (refine step_append_room rfl (.tmp 22) (.tmp 25) 24 rfl 113 i0 8 Try.underlying24 hi0 hz1 g 0 i L.length (by simp [Act.eval, Act.put] <;> omega) ⟨g, (i + 1) * 8, none⟩ (L.length - (i + 1)) (L.length - (i + 1)) news (by simp [Act.eval, Act.put] <;> omega) s1.out hq.out s2.out (by omega) s3.out ?_; rw [← hW.out])
    go_wp2
    go_ret
    exact ⟨by rw [show L.length - 1 = i + (L.length - (i + 1)) by omega] <;> rfl, hGG.out, hOO.out⟩
set_option maxHeartbeats 1600000 in
theorem warnOf (L : List RWarning) (A : Option Addr) (c B : Nat) (n : Int) (w : World) (hs : Sl w B A (flat RWarning.cells L)) (hB : B ≤ w.heap.size) (hl : L.length ≤ 1048576) :
    Calls Try.prog 76 #[.slice A L.length c, .int .i64 n] w fun e w' => e = .returned (.tuple #[.int .i64 (canI n L), .bool (canH n L)]) ∧ Below w.heap.size w w' := by
  have hs' := Lib.hid hs
  have hle := fno_le (lessN n) L
  clear hs
  go_enter Try.func76, Try.ntmps76
  go_wp2
  go_loopw [6] (fun i wr => ∃ k : Nat, i = .int .i64 k ∧ k ≤ L.length ∧ k ≤ canI n L ∧ w = wr) (fun i _ => L.length - (intOf i).toNat)
  case atStart => exact ⟨0, rfl, Nat.zero_le _, Nat.zero_le _, rfl⟩
  case round =>
    obtain ⟨k, rfl, hk, hki, rfl⟩ := hrel
    by_cases hlt : k < L.length
    · obtain ⟨b, o, rfl, hb, he⟩ := Sl.elem RWarning.len (by decide) hs'.out hlt
      have hst := Lib.hid (fun h => fno_step (p := lessN n) hlt rfl hki h)
      have hat := Lib.hid (fun h => fno_at (p := lessN n) hlt rfl hki h)
      have hgd := Lib.hid (getD_at hlt)
      obtain ⟨a, ha⟩ : ∃ a, L[k] = a := ⟨_, rfl⟩
      rw [ha] at he hst hat hgd
      have d0 : w.cell? ⟨b, o + k * 8, none⟩ = some (.int .i64 a.f0) := by have := he 0 _ rfl; simpa [Nat.add_assoc] using this
      clear he ha
      have hlt' : (k : Int) < (L.length : Int) := by omega
      have hbw : b < w.heap.size := by omega
      cases h1 : decide (a.f0 < n)
      · have hi := Lib.hid (hat.out h1)
        have hge : ¬ a.f0 < n := of_decide_eq_false h1
        have hh : Hid (canH n L = (a.f0 == n)) := by
          apply Lib.hid
          unfold canH canI
          rw [hi.out, hgd.out, decide_eq_true hlt, Bool.true_and]
          rfl
        have hii : Hid (canI n L = k) := hi
        clear hat hst
        go_wp2_with fail
        refine wp_region_grew (by kernel_rfl) (by kernel_rfl) ?_
        repeat (first | (go_big_quiet_step (fail)) | (quiet_step (fail)))
        refine wpQuiet_nil ?_
        rintro _ ⟨⟨w9, hb9⟩, rfl⟩
        try dsimp only
        obtain ⟨hc9, hf9⟩ := bcell hb9
        go_wp2
        go_ret2
        exact ⟨by rw [hh.out, hii.out] <;> rfl, hb9⟩
      · have hi := Lib.hid (hst.out h1)
        have hl1 : a.f0 < n := of_decide_eq_true h1
        clear hat hst
        go_wp2
        go_roundw
        case rel => exact ⟨k + 1, by go_num, by omega, hi.out, by first | rfl | trivial⟩
        case measure => simp [intOf]; omega
    · obtain rfl : k = L.length := by omega
      have hii : Hid (canI n L = L.length) := Lib.hid (by have : canI n L ≤ L.length := hle; omega)
      have hh : Hid (canH n L = false) := by
        apply Lib.hid
        unfold canH
        rw [decide_eq_false (by rw [hii.out]; omega), Bool.false_and]
      have hlt' : ¬ (L.length : Int) < (L.length : Int) := by omega
      go_wp2_with fail
      refine wp_region_grew (by kernel_rfl) (by kernel_rfl) ?_
      repeat (first | (go_big_quiet_step (fail)) | (quiet_step (fail)))
      refine wpQuiet_nil ?_
      rintro _ ⟨⟨w9, hb9⟩, rfl⟩
      try dsimp only
      obtain ⟨hc9, hf9⟩ := bcell hb9
      go_wp2
      go_ret2
      exact ⟨by rw [hh.out, hii.out] <;> rfl, hb9⟩
/-- What a store of a new end leaves. -/
theorem flat_setU {L : List RWarning} {k : Nat} {a : RWarning} (hk : k < L.length) (ha : L[k] = a) (t : Int) : (flat RWarning.cells L).set (k * 8 + 3) (.int .i64 t) = flat RWarning.cells (L.take k ++ setU a t :: L.drop (k + 1)) := by
  have e : flat RWarning.cells L = flat RWarning.cells (L.take k) ++ (a.cells ++ flat RWarning.cells (L.drop (k + 1))) := by
    conv => lhs; rw [← List.take_append_drop k L, List.drop_eq_getElem_cons hk, ha]
    rw [flat_append]; rfl
  have hl : (flat RWarning.cells (L.take k)).length = k * 8 := by rw [flat_len RWarning.len, List.length_take, Nat.min_eq_left (by omega)]
  rw [e, ← hl, List.set_append, if_neg (by omega), Nat.add_sub_cancel_left, flat_append]
  rfl
set_option maxHeartbeats 1600000 in
theorem impl_Can (L : List RWarning) (A : Option Addr) (c B : Nat) (n t : Int) (w : World) (hs : Sl w B A (flat RWarning.cells L)) (hB : B ≤ w.heap.size) (hok : ∀ a ∈ L, a.ok) (hl : L.length ≤ 1048576) :
    Calls Try.prog 14 #[.slice A L.length c, .int .i64 n, .int .i64 t] w (CanPost (canC L n t) (canL L n t) w) := by
  have hs' := Lib.hid hs
  have hok' := Lib.hid hok
  clear hs hok
  cases hv : vWarnsM L
  · have H := Lib.hid (can_bad (n := n) (t := t) hv)
    go_enter Try.func14, Try.ntmps14
    go_wp2_with fail
    refine (impl_ValidWarnings L A c B _ hs'.out hB hok'.out hl).mono ?_
    rintro e w1 ⟨rfl, hb1⟩
    rw [hv]
    go_wp2
    go_ret2
    exact CanPost.nil H.out hb1
  have hv' := Lib.hid hv
  go_enter Try.func14, Try.ntmps14
  go_wp2_with fail
  refine (impl_ValidWarnings L A c B _ hs'.out hB hok'.out hl).mono ?_
  rintro e w1 ⟨rfl, hb1⟩
  rw [hv]
  have hs1 := Lib.hid (hs'.out.below (hb1.mono hB))
  have hz1 := hb1.size
  go_wp2_with fail
  refine (warnOf L A c B n _ hs1.out (by omega) hl).mono ?_
  rintro e w2 ⟨rfl, hb2⟩
  have hB2 := bnext hb1 hb2
  have hz2 := hB2.size
  have hs2 := Lib.hid (hs'.out.below (hB2.mono hB))
  clear hb1 hb2 hs1 hz1 hv
  cases hh : canH n L
  · have H := Lib.hid (can_none (t := t) hv'.out hh)
    go_wp2
    go_ret2
    exact CanPost.nil H.out hB2
  cases ht : inB t 0 143999999
  · have H := Lib.hid (can_range hv'.out hh ht)
    go_wp2_with (go_at_call 77; refine (impl_isTime _ _).mono ?_; rintro e w' ⟨rfl, rfl⟩)
    go_ret2
    exact CanPost.nil H.out hB2
  have hhh := hh
  unfold canH at hhh
  rw [Bool.and_eq_true] at hhh
  have hi := of_decide_eq_true hhh.1
  have h0 := of_decide_eq_true hhh.2
  obtain ⟨k, hk⟩ : ∃ k, canI n L = k := ⟨_, rfl⟩
  rw [hk] at hi h0 ⊢
  rw [getD_at hi] at h0
  obtain ⟨b, o, rfl, hb, he⟩ := Sl.elem RWarning.len (by decide) hs2.out hi
  obtain ⟨a, ha⟩ : ∃ a, L[k] = a := ⟨_, rfl⟩
  rw [ha] at he h0
  have d3 : w2.cell? ⟨b, o + k * 8 + 3, none⟩ = some (.int .i64 a.f3) := by have := he 3 _ rfl; simpa [Nat.add_assoc] using this
  have hbw : b < w2.heap.size := by omega
  have hki : (k : Int) < (L.length : Int) := by omega
  have hst := Lib.hid (fun h => can_state hv'.out hi ha h0 ht h)
  have hgo := Lib.hid (fun h => can_ok hv'.out hi ha h0 ht h)
  clear he hhh hk hv'
  by_cases hu : a.f3 ≤ t
  · have H := Lib.hid (hst.out hu)
    go_wp2_with (go_at_call 77; refine (impl_isTime _ _).mono ?_; rintro e w' ⟨rfl, rfl⟩)
    go_ret2
    exact CanPost.nil H.out hB2
  have H := hgo.out hu
  clear hst hgo
  go_wp2_with (go_at_call 77; refine (impl_isTime _ _).mono ?_; rintro e w' ⟨rfl, rfl⟩)
  refine (clone_Warning L b o c B _ hs2.out (by omega) hl).mono ?_
  rintro e w3 ⟨rfl, hb3, hO3⟩
  have hB3 := bnext hB2 hb3
  have hz3 := hB3.size
  have hg3 : w.heap.size ≤ w2.heap.size := hz2
  obtain ⟨g, hg⟩ : ∃ g, w2.heap.size = g := ⟨_, rfl⟩
  rw [hg] at hO3 hg3 ⊢
  have hcg : ∀ (j : Nat) (u : Value), a.cells[j]? = some u → w3.cell? ⟨g, k * 8 + j, none⟩ = some u := by
    intro j u hu
    refine hO3.get (flat_drop RWarning.len L (show k ≤ L.length by omega) ?_)
    rw [List.drop_eq_getElem_cons hi, ha, flat_cons, List.getElem?_append_left (List.getElem?_eq_some_iff.1 hu).1]
    exact hu
  have c2 : w3.cell? ⟨g, k * 8 + 2, none⟩ = some (.int .i64 a.f2) := hcg 2 _ rfl
  have c3 : w3.cell? ⟨g, k * 8 + 3, none⟩ = some (.int .i64 a.f3) := hcg 3 _ rfl
  have hgw := hO3.lt
  have f3 := hO3.frozen (k * 8 + 3)
  have hF : canF n t a = if t ≤ a.f2 then [] else [setU a t] := by unfold canF; rw [if_pos h0]
  clear hcg d3 hb3 hB2 hs2 hb hbw
  by_cases hfr : t ≤ a.f2
  · rw [hF, if_pos hfr, List.nil_append] at H
    have H' := Lib.hid H
    clear H hF
    go_wp2_with fail
    refine (del_Warning L g k _ hO3 hi hl).mono ?_
    rintro e w4 ⟨rfl, hg4, hO4⟩
    have hB4 := hB3.grown hg4 hB3.size (fun q e => by cases e; omega)
    go_wp2
    go_ret2
    refine ⟨_, by rw [H'.out.1] <;> rfl, hB4, ?_⟩
    rw [H'.out.2]
    have hln : (L.take k ++ L.drop (k + 1)).length = L.length - 1 := by rw [List.length_append, List.length_take, List.length_drop]; omega
    refine ⟨by rw [flat_len RWarning.len], .inr ⟨g, L.length, _, by rw [hln] <;> rfl, hg3, hO4⟩⟩
  · rw [hF, if_neg hfr] at H
    have H' := Lib.hid H
    have hO4 := hO3.upd (i := k * 8 + 3) (by rw [flat_len RWarning.len]; omega) (.int .i64 t)
    rw [flat_setU hi ha] at hO4
    have hB4 := hB3.setCell hg3 (p := ⟨g, k * 8 + 3, none⟩) (.int .i64 t)
    clear H hF
    go_wp2
    go_ret2
    refine ⟨_, by rw [H'.out.1] <;> rfl, hB4, ?_⟩
    rw [H'.out.2]
    have hln : (L.take k ++ ([setU a t] ++ L.drop (k + 1))).length = L.length := by rw [List.length_append, List.length_append, List.length_take, List.length_drop, List.length_singleton]; omega
    refine ⟨by rw [flat_len RWarning.len], .inr ⟨g, L.length, _, by rw [hln] <;> rfl, hg3, hO4⟩⟩
def canTo (L : List RWarning) (n t : Int) (k : Nat) : List RWarning := (L.take k).flatMap (canF n t)
theorem canTo_step {L : List RWarning} {k : Nat} {a : RWarning} (hk : k < L.length) (ha : L[k] = a) (n t : Int) : canTo L n t (k + 1) = canTo L n t k ++ canF n t a := by
  unfold canTo
  rw [List.take_succ_eq_append_getElem hk, List.flatMap_append, ha]
  simp
theorem canTo_all (L : List RWarning) (n t : Int) : canTo L n t L.length = L.flatMap (canF n t) := by unfold canTo; rw [List.take_length]
theorem canTo_le (L : List RWarning) (n t : Int) : ∀ k, k ≤ L.length → (canTo L n t k).length ≤ k
  | 0, _ => by simp [canTo]
  | k + 1, hk => by
    have ih := canTo_le L n t k (by omega)
    have := canF_le n t L[k]
    rw [canTo_step (by omega) rfl, List.length_append]
    omega
def canInv (L : List RWarning) (n t : Int) (k : Nat) (d : Bool) : Prop := (d = false → ∀ (j : Nat) (hj : j < L.length), j < k → ¬ (L[j]).f0 = n) ∧ (d = true → canC L n t = 0)
theorem canInv_hit {L : List RWarning} {n t : Int} {k : Nat} (h : canC L n t = 0) : canInv L n t k true := ⟨fun e => Bool.noConfusion e, fun _ => h⟩
set_option maxHeartbeats 3200000 in
theorem spec_Can (L : List RWarning) (A : Option Addr) (c B : Nat) (n t : Int) (w : World) (hs : Sl w B A (flat RWarning.cells L)) (hB : B ≤ w.heap.size) (hok : ∀ a ∈ L, a.ok) (hl : L.length ≤ 1048576) :
    Calls Try.prog 12 #[.slice A L.length c, .int .i64 n, .int .i64 t] w (CanPost (canC L n t) (canL L n t) w) := by
  have hs' := Lib.hid hs
  have hok' := Lib.hid hok
  clear hs hok
  cases hv : vWarnsM L
  · have H := Lib.hid (can_bad (n := n) (t := t) hv)
    go_enter Try.func12, Try.ntmps12
    go_wp2_with fail
    refine (spec_l22Ok L A c B _ hs'.out hB hok'.out hl).mono ?_
    rintro e w1 ⟨rfl, hb1⟩
    rw [hv]
    go_wp2
    go_ret2
    exact CanPost.nil H.out hb1
  have hv' := Lib.hid hv
  obtain ⟨i0, hi, ie0, ie1, ie2⟩ := info_parts infoWarn
  go_enter Try.func12, Try.ntmps12
  go_wp2_with fail
  refine (spec_l22Ok L A c B _ hs'.out hB hok'.out hl).mono ?_
  rintro e w1 ⟨rfl, hb1⟩
  rw [hv]
  have hz1 := hb1.size
  clear hv
  go_wp2_with fail
  have hO0 : (w1.alloc (.cells #[] 113)).ownsRow w.heap.size 113 8 (.slice (some ⟨w1.heap.size, 0, none⟩) 0 0) (canTo L n t 0).length (flat RWarning.cells (canTo L n t 0)) := World.ownsRow_made w1 #[] 0 hz1 (Nat.zero_le _) rfl
  have hB0 : Below w.heap.size w (w1.alloc (.cells #[] 113)) := hb1.alloc hz1 _
  go_loopw [8, 9, 10] (fun v f i wr => ∃ (k : Nat) (d : Bool), f = .bool d ∧ i = .int .i64 k ∧ k ≤ L.length ∧ Hid (canInv L n t k d) ∧ Below w.heap.size w wr ∧ wr.ownsRow w.heap.size 113 8 v (canTo L n t k).length (flat RWarning.cells (canTo L n t k))) (fun _ _ i _ => L.length - (intOf i).toNat)
  case atStart => exact ⟨0, false, rfl, rfl, Nat.zero_le _, Lib.hid ⟨fun _ j hj h => by omega, fun h => Bool.noConfusion h⟩, hB0, hO0⟩
  case round =>
    clear hB0 hO0 hb1 hz1
    obtain ⟨k, d, rfl, rfl, hk, hH, hBr, hown⟩ := hrel
    have hSr := hBr.size
    have hle := canTo_le L n t k hk
    by_cases hlt : k < L.length
    · obtain ⟨b, o, rfl, hb, he⟩ := Sl.elem RWarning.len (by decide) (hs'.out.below (hBr.mono hB)) hlt
      have hst := Lib.hid (canTo_step hlt rfl n t)
      have hnx : Hid (¬ (L[k]).f0 = n → d = false → ∀ (j : Nat) (hj : j < L.length), j < k + 1 → ¬ (L[j]).f0 = n) := Lib.hid (fun h1 hd j hj hjk => by
        rcases Nat.lt_or_ge j k with h2 | h2
        · exact hH.out.1 hd j hj h2
        · obtain rfl : j = k := by omega
          exact h1)
      have hsta := Lib.hid (fun h0 ht h => can_state (n := n) (t := t) hv'.out hlt rfl h0 ht h)
      have hrng := Lib.hid (fun h0 ht => can_range (n := n) (t := t) hv'.out (canH_at hv'.out hlt h0) ht)
      have hgo := Lib.hid (fun h0 ht h => can_ok (n := n) (t := t) hv'.out hlt rfl h0 ht h)
      obtain ⟨a, ha⟩ : ∃ a, L[k] = a := ⟨_, rfl⟩
      rw [ha] at he hst hnx hsta hrng hgo
      have d0 : wr.cell? ⟨b, o + k * 8, none⟩ = some (.int .i64 a.f0) := by have := he 0 _ rfl; simpa [Nat.add_assoc] using this
      have d1 : wr.cell? ⟨b, o + k * 8 + 1, none⟩ = some (.int .i64 a.f1) := by have := he 1 _ rfl; simpa [Nat.add_assoc] using this
      have d2 : wr.cell? ⟨b, o + k * 8 + 2, none⟩ = some (.int .i64 a.f2) := by have := he 2 _ rfl; simpa [Nat.add_assoc] using this
      have d3 : wr.cell? ⟨b, o + k * 8 + 3, none⟩ = some (.int .i64 a.f3) := by have := he 3 _ rfl; simpa [Nat.add_assoc] using this
      have d4 : wr.cell? ⟨b, o + k * 8 + 4, none⟩ = some (.int .i64 a.f4) := by have := he 4 _ rfl; simpa [Nat.add_assoc] using this
      have d5 : wr.cell? ⟨b, o + k * 8 + 5, none⟩ = some (.int .i64 a.f5) := by have := he 5 _ rfl; simpa [Nat.add_assoc] using this
      have d6 : wr.cell? ⟨b, o + k * 8 + 6, none⟩ = some (.int .i64 a.f6) := by have := he 6 _ rfl; simpa [Nat.add_assoc] using this
      have d7 : wr.cell? ⟨b, o + k * 8 + 7, none⟩ = some (.string a.f7) := by have := he 7 _ rfl; simpa [Nat.add_assoc] using this
      have hbw : b < wr.heap.size := by omega
      have hki : (k : Int) < (L.length : Int) := by omega
      obtain ⟨M, hM⟩ : ∃ M, canTo L n t k = M := ⟨_, rfl⟩
      rw [hM] at hown hst hle
      clear he ha hM
      by_cases hn : a.f0 = n
      · cases ht : inB t 0 143999999
        · have H := Lib.hid (hrng.out hn ht)
          have hn' : (a.f0 == n) = true := beq_iff_eq.2 hn
          clear hn hst
          go_wp2_with (go_at_call 73; refine (spec_Time _ _).mono ?_; rintro e w' ⟨rfl, rfl⟩)
          go_ret2
          exact CanPost.nil H.out (by go_grown)
        by_cases hu : a.f3 ≤ t
        · have H := Lib.hid (hsta.out hn ht hu)
          have hn' : (a.f0 == n) = true := beq_iff_eq.2 hn
          clear hn hst
          go_wp2_with (go_at_call 73; refine (spec_Time _ _).mono ?_; rintro e w' ⟨rfl, rfl⟩)
          go_ret2
          exact CanPost.nil H.out (by go_grown)
        have H := hgo.out hn ht hu
        have hH2 : Hid (canInv L n t (k + 1) true) := Lib.hid (canInv_hit H.1)
        have hF : canF n t a = if t ≤ a.f2 then [] else [setU a t] := by unfold canF; rw [if_pos hn]
        have hn' : (a.f0 == n) = true := beq_iff_eq.2 hn
        by_cases hfr : t ≤ a.f2
        · have hst2 : Hid (canTo L n t (k + 1) = M) := Lib.hid (by rw [hst.out, hF, if_pos hfr, List.append_nil])
          have hBn : Below w.heap.size w (wr.alloc (.cells #[.int .i64 a.f0, .int .i64 a.f1, .int .i64 a.f2, .int .i64 t, .int .i64 a.f4, .int .i64 a.f5, .int .i64 a.f6, .string a.f7] 113)) := by go_grown
          have hOn := hown.alloc (.cells #[.int .i64 a.f0, .int .i64 a.f1, .int .i64 a.f2, .int .i64 t, .int .i64 a.f4, .int .i64 a.f5, .int .i64 a.f6, .string a.f7] 113)
          clear hst H hF hn hnx hrng hsta hgo hH
          go_wp2_with (go_at_call 73; refine (spec_Time _ _).mono ?_; rintro e w' ⟨rfl, rfl⟩)
          go_roundw
          case rel => exact ⟨k + 1, true, rfl, by go_num, by omega, hH2, hBn, by rw [hst2.out]; exact hOn⟩
          case measure => simp [intOf]; omega
        · have hst2 : Hid (canTo L n t (k + 1) = M ++ [setU a t]) := Lib.hid (by rw [hst.out, hF, if_neg hfr])
          clear hst H hF hn hnx hrng hsta hgo hH
          go_wp2_with (first | (go_at_call 73; refine (spec_Time _ _).mono ?_; rintro e w' ⟨rfl, rfl⟩) | (at_builtin; refine wpList_append_own _ rfl _ _ 24 rfl w.heap.size 113 i0 (.agg #[.int .i64 0, .int .i64 0, .int .i64 0, .int .i64 0, .int .i64 0, .int .i64 0, .int .i64 0, .string ⟨#[]⟩]) 8 72 Try.underlying24 hi ie0 ie1 ie2 rfl (by decide) _ _ _ rfl ((hown.alloc _).alloc _) ⟨wr.heap.size + 1, 0, none⟩ 1 1 [.int .i64 a.f0, .int .i64 a.f1, .int .i64 a.f2, .int .i64 t, .int .i64 a.f4, .int .i64 a.f5, .int .i64 a.f6, .string a.f7] rfl rfl ?c1 ?c2 ?c3 ?c4 ?c5 ?_))
          case c1 => first | (intro j u hj; have hq := new_cells (wr.alloc (.cells #[.int .i64 a.f0, .int .i64 a.f1, .int .i64 a.f2, .int .i64 t, .int .i64 a.f4, .int .i64 a.f5, .int .i64 a.f6, .string a.f7] 113)) [.int .i64 a.f0, .int .i64 a.f1, .int .i64 a.f2, .int .i64 t, .int .i64 a.f4, .int .i64 a.f5, .int .i64 a.f6, .string a.f7] 113 j u hj; simpa using hq) | skip
          case c2 => first | (intro u hu; simp at hu; rcases hu with rfl | rfl | rfl | rfl | rfl | rfl | rfl | rfl <;> rfl) | simp | trivial
          case c3 => unfold maxLen; omega
          case c4 => omega
          case c5 => first | omega | (simp; omega)
          intro v' wn hown' hgrow _
          have hBn := (show Below w.heap.size w ((wr.alloc (.cells #[.int .i64 a.f0, .int .i64 a.f1, .int .i64 a.f2, .int .i64 t, .int .i64 a.f4, .int .i64 a.f5, .int .i64 a.f6, .string a.f7] 113)).alloc (.cells #[.int .i64 a.f0, .int .i64 a.f1, .int .i64 a.f2, .int .i64 t, .int .i64 a.f4, .int .i64 a.f5, .int .i64 a.f6, .string a.f7] 113)) by go_grown).grown hgrow (by simp; omega) (fun q e => (hown.lt q e).1)
          have hOn : wn.ownsRow w.heap.size 113 8 v' (M ++ [setU a t]).length (flat RWarning.cells (M ++ [setU a t])) := by
            rw [flat_append, List.length_append]
            exact hown'
          clear hown' hgrow hown
          go_wp2
          go_roundw
          case rel => exact ⟨k + 1, true, rfl, by go_num, by omega, hH2, hBn, by rw [hst2.out]; exact hOn⟩
          case measure => simp [intOf]; omega
      · have hst2 : Hid (canTo L n t (k + 1) = M ++ [a]) := Lib.hid (by rw [hst.out]; unfold canF; rw [if_neg hn])
        have hH2 : Hid (canInv L n t (k + 1) d) := Lib.hid ⟨hnx.out hn, hH.out.2⟩
        have hn' : (a.f0 == n) = false := beq_eq_false_iff_ne.2 hn
        clear hst hn hnx hrng hsta hgo hH
        go_wp2_with (at_builtin; refine wpList_append_own _ rfl _ _ 24 rfl w.heap.size 113 i0 (.agg #[.int .i64 0, .int .i64 0, .int .i64 0, .int .i64 0, .int .i64 0, .int .i64 0, .int .i64 0, .string ⟨#[]⟩]) 8 72 Try.underlying24 hi ie0 ie1 ie2 rfl (by decide) _ _ _ rfl ((hown.alloc _).alloc _) ⟨wr.heap.size + 1, 0, none⟩ 1 1 [.int .i64 a.f0, .int .i64 a.f1, .int .i64 a.f2, .int .i64 a.f3, .int .i64 a.f4, .int .i64 a.f5, .int .i64 a.f6, .string a.f7] rfl rfl ?c1 ?c2 ?c3 ?c4 ?c5 ?_)
        case c1 => first | (intro j u hj; have hq := new_cells (wr.alloc (.cells #[.int .i64 a.f0, .int .i64 a.f1, .int .i64 a.f2, .int .i64 a.f3, .int .i64 a.f4, .int .i64 a.f5, .int .i64 a.f6, .string a.f7] 113)) [.int .i64 a.f0, .int .i64 a.f1, .int .i64 a.f2, .int .i64 a.f3, .int .i64 a.f4, .int .i64 a.f5, .int .i64 a.f6, .string a.f7] 113 j u hj; simpa using hq) | skip
        case c2 => first | (intro u hu; simp at hu; rcases hu with rfl | rfl | rfl | rfl | rfl | rfl | rfl | rfl <;> rfl) | simp | trivial
        case c3 => unfold maxLen; omega
        case c4 => omega
        case c5 => first | omega | (simp; omega)
        intro v' wn hown' hgrow _
        have hBn := (show Below w.heap.size w ((wr.alloc (.cells #[.int .i64 a.f0, .int .i64 a.f1, .int .i64 a.f2, .int .i64 a.f3, .int .i64 a.f4, .int .i64 a.f5, .int .i64 a.f6, .string a.f7] 113)).alloc (.cells #[.int .i64 a.f0, .int .i64 a.f1, .int .i64 a.f2, .int .i64 a.f3, .int .i64 a.f4, .int .i64 a.f5, .int .i64 a.f6, .string a.f7] 113)) by go_grown).grown hgrow (by simp; omega) (fun q e => (hown.lt q e).1)
        have hOn : wn.ownsRow w.heap.size 113 8 v' (M ++ [a]).length (flat RWarning.cells (M ++ [a])) := by
          rw [flat_append, List.length_append]
          exact hown'
        clear hown' hgrow hown
        go_wp2
        go_roundw
        case rel => exact ⟨k + 1, d, rfl, by go_num, by omega, hH2, hBn, by rw [hst2.out]; exact hOn⟩
        case measure => simp [intOf]; omega
    · obtain rfl : k = L.length := by omega
      have hki : ¬ (L.length : Int) < (L.length : Int) := by omega
      cases d
      · have H := Lib.hid (can_none (t := t) hv'.out (canH_no (fun j hj => hH.out.1 rfl j hj hj)))
        go_wp2
        go_ret2
        exact CanPost.nil H.out hBr
      · have H := hH.out.2 rfl
        have hg := can_gather H
        rw [canTo_all, hg] at hown
        have H' := Lib.hid H
        clear H hg
        go_wp2
        go_ret2
        exact ⟨_, by rw [H'.out] <;> rfl, hBr, Rs.of_owns hown⟩
end Go.Proofs.Ytlolkngklfabfaa
