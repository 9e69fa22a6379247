/-
  Contracts of the text of phases and of its reading: the program's. Each under the conditions that it states.
-/
import Derived.Test.YtpnffdkkmibchaaGreatDoorPhC
set_option linter.unusedVariables false
set_option linter.unnecessarySimpa false
set_option maxRecDepth 100000
set_option linter.unusedSimpArgs false
namespace Go.Proofs.YtpnffdkkmibchaaGreatDoor
open Go.RowKit BigFrame Go.Deep

/-- The text of one phase; the text of phases. -/
def partB (a : RPhase) : ByteArray := (if a.f0.toList.isEmpty then ⟨#[45]⟩ else a.f0) ++ decT a.f1
def phS (P : List RPhase) : List (List UInt8) := (P.map partB).map (·.data.toList)
def phT (P : List RPhase) : ByteArray := ⟨(Lib.join (phS P) [44]).toArray⟩
theorem color45 {a : RPhase} (h : okPh a = true) : (1 ≤ a.f1 ∧ a.f1 ≤ 600) ∧ (a.f0 = ⟨#[]⟩ ∨ ∃ c : UInt8, (c ≠ 45 ∧ c ≠ 44) ∧ a.f0 = ⟨#[c]⟩) := by
  have h0 := ph_cases h
  refine ⟨h0.1, ?_⟩
  unfold okPh at h
  rw [Bool.and_eq_true, Bool.or_eq_true] at h
  rcases h.2 with h1 | h1
  · exact Or.inl (nil_of h1)
  · obtain ⟨c, _, hc⟩ := color_cases h1
    refine Or.inr ⟨c, ?_, hc⟩
    rw [hc] at h1
    constructor
    · rintro rfl
      unfold colorM at h1
      rw [ByteArray.toList_eq] at h1
      revert h1
      decide
    · rintro rfl
      unfold colorM at h1
      rw [ByteArray.toList_eq] at h1
      revert h1
      decide
theorem dec_no44 {n : Int} (h : 1 ≤ n) : (44 : UInt8) ∉ (decT n).data.toList := by
  have e : (decT n).data.toList = Lib.itoa n := rfl
  rw [e]
  unfold Lib.itoa
  rw [if_neg (by omega)]
  intro hm
  have := isD_yes.1 (dig_digits n.toNat 44 hm)
  have e2 : (44 : UInt8).toNat = 44 := rfl
  omega
theorem part_size {a : RPhase} (h : okPh a = true) : 1 ≤ (partB a).size ∧ (partB a).size ≤ 22 := by
  obtain ⟨h1, h2⟩ := color45 h
  have hd := decT_size (n := a.f1) (by omega) (by omega)
  unfold partB
  rcases h2 with h2 | ⟨c, _, h2⟩
  · rw [h2, if_pos (by rw [ByteArray.toList_eq]; rfl), ByteArray.size_append]
    have : (⟨#[45]⟩ : ByteArray).size = 1 := rfl
    omega
  · rw [h2, if_neg (by rw [ByteArray.toList_eq]; simp), ByteArray.size_append]
    have : (⟨#[c]⟩ : ByteArray).size = 1 := rfl
    omega
theorem part_no44 {a : RPhase} (h : okPh a = true) : (44 : UInt8) ∉ (partB a).data.toList := by
  obtain ⟨h1, h2⟩ := color45 h
  have hd := dec_no44 (n := a.f1) h1.1
  have ha : ∀ x y : ByteArray, (x ++ y).data.toList = x.data.toList ++ y.data.toList := fun x y => by simp [ByteArray.data_append]
  unfold partB
  rcases h2 with h2 | ⟨c, hc, h2⟩
  · rw [h2, if_pos (by rw [ByteArray.toList_eq]; rfl), ha]
    intro hm
    rcases List.mem_append.1 hm with hm | hm
    · simp at hm
    · exact hd hm
  · rw [h2, if_neg (by rw [ByteArray.toList_eq]; simp), ha]
    intro hm
    rcases List.mem_append.1 hm with hm | hm
    · simp at hm; exact hc.2 hm.symm
    · exact hd hm
theorem all_ok {P : List RPhase} (hv : vPhases P = true) : ∀ a ∈ P, okPh a = true := fun a ha => by
  obtain ⟨k, hk, rfl⟩ := List.getElem_of_mem ha
  exact ok_at (vPhases_yes hv).2.2.1 hk
theorem join_bd : ∀ S : List (List UInt8), (∀ p ∈ S, p.length ≤ 22) → (Lib.join S [44]).length ≤ 23 * S.length
  | [], _ => by simp [Lib.join]
  | [p], h => by rw [Lib.join_one]; have := h p (by simp); simp; omega
  | p :: q :: S, h => by
    have ih := join_bd (q :: S) (fun x hx => h x (List.mem_cons_of_mem _ hx))
    have h1 := h p (by simp)
    have e : Lib.join (p :: q :: S) [44] = p ++ 44 :: Lib.join (q :: S) [44] := by
      rw [Lib.join_cons, Lib.join_cons]
      simp [Lib.joinTail]
    rw [e, List.length_append, List.length_cons]
    simp only [List.length_cons] at ih ⊢
    omega
theorem phS_bd {P : List RPhase} (hv : vPhases P = true) : (Lib.join (phS P) [44]).length ≤ 920 := by
  have h1 := (vPhases_yes hv).2.1
  have h2 := join_bd (phS P) (fun p hp => by
    unfold phS at hp
    obtain ⟨b, hb, rfl⟩ := List.mem_map.1 hp
    obtain ⟨a, ha, rfl⟩ := List.mem_map.1 hb
    have := (part_size (all_ok hv a ha)).2
    show (partB a).data.toList.length ≤ 22
    rw [Array.length_toList]; exact this)
  have h3 : (phS P).length = P.length := by simp [phS]
  omega
theorem phT_size {P : List RPhase} (hv : vPhases P = true) : (phT P).size ≤ 920 := by
  have := phS_bd hv
  show (Lib.join (phS P) [44]).toArray.size ≤ 920
  simpa using this
theorem infoTxt : (Tryz.prog.info? 9).map (fun i => (i.zero, i.size, i.bytes)) = some (some (.string ⟨#[]⟩), 1, 16) := by kernel_rfl
set_option maxHeartbeats 3200000 in
theorem impl_PhT (P : List RPhase) (A : Option Addr) (c B : Nat) (w : World) (hs : Sl w B A (flat RPhase.cells P)) (hB : B ≤ w.heap.size) (hok : ∀ a ∈ P, a.ok) (hl : P.length ≤ 1048576) (hv : vPhases P = true) (ht : Tab w) : Calls Tryz.prog 7 #[.slice A P.length c] w fun e w' => e = .returned (.string (phT P)) ∧ Below w.heap.size w w' := by
  have hlen := vPhases_yes hv
  have hXl := Lib.hid (phS_bd hv)
  have hall := Lib.hid (all_ok hv)
  have hP40 := hlen.2.1
  have hP1 := hlen.1
  have ht' := Lib.hid ht
  obtain ⟨i0, hi, ie0, ie1, ie2⟩ := info_parts infoTxt
  have hV := Lib.hid (fun w (h1 : Sl w B A (flat RPhase.cells P)) (h2 : B ≤ w.heap.size) => show Calls Tryz.prog 22 #[.slice A P.length c] w fun e w' => e = .returned (.bool true) ∧ Below w.heap.size w w' by have h := impl_PhOk P A c B w h1 h2 hok hl; rwa [hv] at h)
  obtain ⟨hW, hN⟩ := tns_pos hv
  have hs' := Lib.hid hs
  have hv' := Lib.hid hv
  clear hs hv hok
  clear hlen ht
  go_enter Tryz.func7, Tryz.ntmps7
  go_wp2_with fail
  refine (hV.out _ hs'.out hB).mono ?_
  rintro e w1 ⟨rfl, hb1⟩
  have hO0 : (w1.alloc (.cells #[] 9)).ownsRow w.heap.size 9 1 (.slice (some ⟨w1.heap.size, 0, none⟩) 0 0) 0 (((P.take 0).map partB).map Value.string) := World.ownsRow_made w1 #[] 0 hb1.size (Nat.zero_le _) rfl
  have hz1 := hb1.size
  have hB0 : Below w.heap.size w (w1.alloc (.cells #[] 9)) := by go_grown
  clear hb1
  go_wp2_with fail
  go_loopw [3, 13] (fun v i wr => ∃ k : Nat, i = .int .i64 k ∧ k ≤ P.length ∧ Below w.heap.size w wr ∧ wr.ownsRow w.heap.size 9 1 v k (((P.take k).map partB).map Value.string)) (fun _ i _ => P.length - (intOf i).toNat)
  case atStart => exact ⟨0, rfl, Nat.zero_le _, hB0, hO0⟩
  case round =>
    clear hB0 hO0
    obtain ⟨k, rfl, hk, hB1, hown⟩ := hrel
    have hS1 := hB1.size
    by_cases hlt : k < P.length
    · obtain ⟨b, o, rfl, hb, hel⟩ := elem_w hs'.out hB hlt
      obtain ⟨d0, d1⟩ := hel wr hB1
      have hst := Lib.hid (show (P.take (k + 1)).map partB = (P.take k).map partB ++ [partB P[k]] by rw [List.take_succ_eq_append_getElem hlt, List.map_append]; rfl)
      obtain ⟨hn, hc⟩ := color45 (hall.out P[k] (List.getElem_mem hlt))
      have hpb : Hid (partB P[k] = (if (P[k]).f0.toList.isEmpty then ⟨#[45]⟩ else (P[k]).f0) ++ decT (P[k]).f1) := Lib.hid rfl
      have hbw : b < wr.heap.size := by omega
      obtain ⟨z, hz⟩ : ∃ z, P[k] = z := ⟨_, rfl⟩
      rw [hz] at d0 d1 hst hn hc hpb
      obtain ⟨col, n⟩ := z
      dsimp only at d0 d1 hn hc hpb
      have hds := decT_size (n := n) (by omega) (by omega)
      clear hel hz
      rcases hc with rfl | ⟨c, hc, rfl⟩
      · rw [if_pos (by rw [ByteArray.toList_eq]; rfl)] at hpb
        rw [hpb.out] at hst
        obtain ⟨col, hcol⟩ : ∃ col : ByteArray, col = ⟨#[]⟩ := ⟨_, rfl⟩
        rw [← hcol] at d0
        have hce : col.toList.isEmpty = true := by rw [hcol, ByteArray.toList_eq]; rfl
        have h45 : (⟨#[45]⟩ : ByteArray).size = 1 := rfl
        clear hcol hpb
        go_wp2_with fail
        refine (impl_Dec n (by omega) (by omega) _ (ht'.out.on (by go_grown))).mono ?_
        rintro e w9 ⟨rfl, hb9⟩
        have hB9 := bnext (show Below w.heap.size w (wr.alloc (.cells #[.string col, .int .i64 n] 51)) by go_grown) hb9
        have hO9 := owns_on (owns_on hown (show Below wr.heap.size wr (wr.alloc (.cells #[.string col, .int .i64 n] 51)) by go_grown)) hb9
        have hz9 := hb9.size
        have hz99 : w.heap.size ≤ w9.heap.size := hB9.size
        go_wp2_with (at_builtin; refine wpList_append_own _ rfl _ _ 44 rfl w.heap.size 9 i0 (.string ⟨#[]⟩) 1 16 Tryz.underlying44 hi ie0 ie1 ie2 rfl (by decide) _ _ _ rfl (hO9.alloc _) ⟨w9.heap.size, 0, none⟩ 1 1 [.string (⟨#[45]⟩ ++ decT n)] rfl rfl ?pc1 ?pc2 ?pc3 ?pc4 ?pc5 ?_)
        case pc1 =>
          intro j u hj
          match j, hj with
          | 0, hj => simp at hj; subst hj; simp [Addr.add]
        case pc2 => intro u hu; simp at hu; subst hu; rfl
        case pc3 => unfold maxLen; omega
        case pc4 => omega
        case pc5 => simp; omega
        intro v' wn hown' hgrow _
        have hBn := (show Below w.heap.size w (w9.alloc (.cells #[.string (⟨#[45]⟩ ++ decT n)] 9)) by go_grown).grown hgrow (by simp; omega) (fun q e => (hO9.lt q e).1)
        have hOn : wn.ownsRow w.heap.size 9 1 v' (k + 1) (((P.take (k + 1)).map partB).map Value.string) := by rw [hst.out]; simpa using hown'
        clear hown' hgrow hB9 hO9 hb9 hown
        go_wp2
        go_roundw
        case rel => exact ⟨k + 1, by go_num, by omega, hBn, hOn⟩
        case measure => simp [intOf]; omega
      · rw [if_neg (by rw [ByteArray.toList_eq]; simp)] at hpb
        rw [hpb.out] at hst
        have h45 : (⟨#[c]⟩ : ByteArray).size = 1 := rfl
        have hce : (⟨#[c]⟩ : ByteArray).toList.isEmpty = false := by rw [ByteArray.toList_eq]; rfl
        obtain ⟨col, hcol⟩ : ∃ col : ByteArray, ⟨#[c]⟩ = col := ⟨_, rfl⟩
        rw [hcol] at d0 hst h45 hce
        clear hcol hpb
        go_wp2_with fail
        refine (impl_Dec n (by omega) (by omega) _ (ht'.out.on (by go_grown))).mono ?_
        rintro e w9 ⟨rfl, hb9⟩
        have hB9 := bnext (show Below w.heap.size w (wr.alloc (.cells #[.string col, .int .i64 n] 51)) by go_grown) hb9
        have hO9 := owns_on (owns_on hown (show Below wr.heap.size wr (wr.alloc (.cells #[.string col, .int .i64 n] 51)) by go_grown)) hb9
        have hz9 := hb9.size
        have hz99 : w.heap.size ≤ w9.heap.size := hB9.size
        go_wp2_with (at_builtin; refine wpList_append_own _ rfl _ _ 44 rfl w.heap.size 9 i0 (.string ⟨#[]⟩) 1 16 Tryz.underlying44 hi ie0 ie1 ie2 rfl (by decide) _ _ _ rfl (hO9.alloc _) ⟨w9.heap.size, 0, none⟩ 1 1 [.string (col ++ decT n)] rfl rfl ?pc1 ?pc2 ?pc3 ?pc4 ?pc5 ?_)
        case pc1 =>
          intro j u hj
          match j, hj with
          | 0, hj => simp at hj; subst hj; simp [Addr.add]
        case pc2 => intro u hu; simp at hu; subst hu; rfl
        case pc3 => unfold maxLen; omega
        case pc4 => omega
        case pc5 => simp; omega
        intro v' wn hown' hgrow _
        have hBn := (show Below w.heap.size w (w9.alloc (.cells #[.string (col ++ decT n)] 9)) by go_grown).grown hgrow (by simp; omega) (fun q e => (hO9.lt q e).1)
        have hOn : wn.ownsRow w.heap.size 9 1 v' (k + 1) (((P.take (k + 1)).map partB).map Value.string) := by rw [hst.out]; simpa using hown'
        clear hown' hgrow hB9 hO9 hb9 hown
        go_wp2
        go_roundw
        case rel => exact ⟨k + 1, by go_num, by omega, hBn, hOn⟩
        case measure => simp [intOf]; omega
    · obtain rfl : k = P.length := by omega
      rw [List.take_length] at hown
      obtain ⟨g, cD, rfl, hbg, hSl⟩ := owns_sl hown hP1
      obtain ⟨bb, oo, e0, hbb, hcc⟩ := hSl (by intro e; rw [List.map_eq_nil_iff, List.map_eq_nil_iff] at e; subst e; simp at hP1)
      cases e0
      have hcap : P.length ≤ cD := by
        obtain ⟨_, h | ⟨g', cap, cur, e, _, _, hcn, _⟩⟩ := hown
        · cases h.1
        · cases e; exact hcn
      have hJ := sj_strings_Join g 0 cD (P.map partB) ⟨#[44]⟩ wr (fun j x hx => hcc j _ (by rw [List.getElem?_map, hx]; rfl)) hbb (by rw [List.length_map]; omega) (by rw [List.length_map]; omega) (Nat.le_trans hXl.out (by omega))
      rw [List.length_map] at hJ
      clear hcc
      have hJ' := Lib.hid hJ
      clear hJ
      go_wp2_with fail
      refine (hJ'.out).mono ?_
      rintro e w9 ⟨rfl, hb9⟩
      go_wp2
      go_ret
      exact ⟨by unfold phT phS; rw [List.map_map]; rfl, bnext hB1 hb9⟩
theorem impl_PhT0 (P : List RPhase) (A : Option Addr) (c B : Nat) (w : World) (hs : Sl w B A (flat RPhase.cells P)) (hB : B ≤ w.heap.size) (hok : ∀ a ∈ P, a.ok) (hl : P.length ≤ 1048576) (hv : vPhases P = false) : Calls Tryz.prog 7 #[.slice A P.length c] w fun e w' => e = .returned (.string ⟨#[]⟩) ∧ Below w.heap.size w w' := by
  have h := impl_PhOk P A c B w hs hB hok hl
  rw [hv] at h
  have h' := Lib.hid h
  clear h hs hok hv
  go_enter Tryz.func7, Tryz.ntmps7
  go_wp2_with fail
  refine (h'.out).mono ?_
  rintro e w1 ⟨rfl, hb1⟩
  go_wp2_with fail
  go_ret
  exact ⟨rfl, hb1⟩
theorem split_vals44 (s : ByteArray) : (Lib.splitB ⟨#[44]⟩ 0 (Lib.countB s ⟨#[44]⟩) s).map Value.string = partsV (splitL 44 s.data.toList) ∧ Lib.countB s ⟨#[44]⟩ + 1 = (splitL 44 s.data.toList).length := by
  have h := splitB_is 44 s.size s (Nat.le_refl _)
  have e : (Lib.splitB ⟨#[44]⟩ 0 (Lib.countB s ⟨#[44]⟩) s).map Value.string = partsV (splitL 44 s.data.toList) := by
    rw [← h]
    unfold partsV
    rw [List.map_map]
    apply List.map_congr_left
    intro a _
    rw [Function.comp, ← ba_data a]
  refine ⟨e, ?_⟩
  rw [← h, List.length_map]
  exact (Lib.splitB_all _ (by decide) _ _ _ rfl).symm
theorem phT_split {P : List RPhase} (hv : vPhases P = true) : splitL 44 (phT P).data.toList = phS P := by
  have h1 := (vPhases_yes hv).1
  have e : (phT P).data.toList = Lib.join (phS P) [44] := by show (Lib.join (phS P) [44]).toArray.toList = _; simp
  rw [e]
  refine split_parts 44 (phS P) (fun h => ?_) (fun p hp => ?_)
  · unfold phS at h; rw [List.map_eq_nil_iff, List.map_eq_nil_iff] at h; subst h; simp at h1
  · unfold phS at hp
    obtain ⟨b, hb, rfl⟩ := List.mem_map.1 hp
    obtain ⟨a, ha, rfl⟩ := List.mem_map.1 hb
    exact part_no44 (all_ok hv a ha)
theorem one_head (c : UInt8) (s : ByteArray) : ((⟨#[c]⟩ : ByteArray) ++ s).extract 0 1 = ⟨#[c]⟩ ∧ ((⟨#[c]⟩ : ByteArray) ++ s).extract 1 ((⟨#[c]⟩ : ByteArray) ++ s).size = s := by
  obtain ⟨⟨l⟩⟩ := s
  constructor
  · apply ByteArray.ext
    apply Array.ext'
    simp [ByteArray.data_append]
  · apply ByteArray.ext
    apply Array.ext'
    simp [ByteArray.data_append, ByteArray.size]
theorem owns_neP {w : World} {B sz n g : Nat} {e : TypeId} {v : Value} {xs : List Value} {o : Obj} (h : w.ownsRow B e sz v n xs) (hi : w.heap[g]? = some o) (hne : ∀ cur, o ≠ .cells cur e (0, 0)) : v.ownBlock ≠ some g := by
  obtain ⟨_, ⟨rfl, _⟩ | ⟨k, cap, cur, rfl, hb, hh, _⟩⟩ := h
  · intro e; cases e
  · intro e
    have e' : k = g := Option.some.inj e
    subst e'
    rw [hh] at hi
    exact hne cur (Option.some.inj hi).symm
theorem kept_objP {w wn : World} {v : Value} {g : Nat} {o X : Obj} (hi : w.heap[g]? = some o) (hg : (w.alloc X).grownBy wn v.ownBlock) (hne : v.ownBlock ≠ some g) : wn.heap[g]? = some o := by
  have hlt : g < w.heap.size := (Array.getElem?_eq_some_iff.1 hi).1
  rw [hg.block g (by simp; omega) (fun e => hne e.symm), Below.heap_alloc w X g hlt]
  exact hi
set_option maxHeartbeats 3200000 in
theorem impl_RPh (P : List RPhase) (w : World) (hok : ∀ a ∈ P, a.ok) (hv : vPhases P = true) (hE : Env w) : Calls Tryz.prog 11 #[.string (phT P)] w fun e w' => ∃ v, e = .returned (.tuple #[v, .bool true]) ∧ Below w.heap.size w w' ∧ w'.ownsRow w.heap.size 51 2 v P.length (flat RPhase.cells P) := by
  have hlen := vPhases_yes hv
  have hall := Lib.hid (all_ok hv)
  have hP40 := hlen.2.1
  have hP1 := hlen.1
  have hsz := phT_size hv
  obtain ⟨hv1, hv2⟩ := split_vals44 (phT P)
  rw [phT_split hv] at hv1 hv2
  have hPV : partsV (phS P) = (P.map partB).map Value.string := by unfold partsV phS; rw [List.map_map, List.map_map, List.map_map]; apply List.map_congr_left; intro a _; exact congrArg Value.string (ba_data _).symm
  have hSl : (phS P).length = P.length := by simp [phS]
  rw [hPV] at hv1
  rw [hSl] at hv2
  have hE' := Lib.hid hE
  have hv' := Lib.hid hv
  have hok' := Lib.hid hok
  have hPh := Lib.hid (fun (A : Option Addr) (c : Nat) (w : World) (h1 : Sl w w.heap.size A (flat RPhase.cells P)) (ht : Tab w) => impl_PhT P A c w.heap.size w h1 (Nat.le_refl _) hok (by omega) hv ht)
  have hVd := Lib.hid (fun (A : Option Addr) (c : Nat) (w : World) (h1 : Sl w w.heap.size A (flat RPhase.cells P)) => show Calls Tryz.prog 22 #[.slice A P.length c] w fun e w' => e = .returned (.bool true) ∧ Below w.heap.size w w' by have h := impl_PhOk P A c w.heap.size w h1 (Nat.le_refl _) hok (by omega); rwa [hv] at h)
  obtain ⟨s, hs⟩ : ∃ s, phT P = s := ⟨_, rfl⟩
  rw [hs] at hsz hv1 hv2 hPh ⊢
  have hv2' := Lib.hid hv2
  obtain ⟨i0, hi, ie0, ie1, ie2⟩ := info_parts infoPh
  clear hs hv2 hlen hPV hSl hE hv hok
  go_enter Tryz.func11, Tryz.ntmps11
  go_wp2_with fail
  have hE0 := hE'.out.on (show Below w.heap.size w (w.alloc (.cells #[] 51)) by go_grown)
  obtain ⟨m, hm⟩ := hE0.big
  refine (sr_strings_Split s ⟨#[44]⟩ m _ (by omega) hm (by decide)).mono ?_
  rintro e w1 ⟨rfl, hw1⟩
  rw [hv2'.out, hv1] at *
  have hB1 : Below w.heap.size w w1 := by rw [hw1]; go_grown
  have hz1 : w1.heap.size = w.heap.size + 2 := by rw [hw1]; simp
  have hO1 : w1.ownsRow w.heap.size 51 2 (.slice (some ⟨w.heap.size, 0, none⟩) 0 0) 0 (flat RPhase.cells (P.take 0)) := by rw [hw1]; exact (World.ownsRow_made w #[] 0 (by omega) (Nat.zero_le _) rfl : (w.alloc (.cells #[] 51)).ownsRow w.heap.size 51 2 _ 0 []).alloc _
  have hob : w1.heap[w.heap.size + 1]? = some (.cells ((P.map partB).map Value.string).toArray 9 (0, 0)) := by
    have := heap_alloc_new (w.alloc (.cells #[] 51)) (.cells ((P.map partB).map Value.string).toArray 9 (0, 0))
    rw [World.size_alloc] at this
    rw [hw1]; exact this
  have hcl : Hid (∀ wx : World, wx.heap[w.heap.size + 1]? = some (.cells ((P.map partB).map Value.string).toArray 9 (0, 0)) → ∀ k (h : k < P.length), wx.cell? ⟨w.heap.size + 1, k, none⟩ = some (.string (partB P[k]))) := Lib.hid (fun wx hx k h => by
    simp [World.cell?, hx, h])
  have hv'' := hv'
  clear hw1 hm hE0 hv1
  go_wp2_with fail
  go_loopw [4, 14] (fun v i wr => ∃ k : Nat, i = .int .i64 k ∧ k ≤ P.length ∧ wr.heap[w.heap.size + 1]? = some (.cells ((P.map partB).map Value.string).toArray 9 (0, 0)) ∧ Below w.heap.size w wr ∧ wr.ownsRow w.heap.size 51 2 v k (flat RPhase.cells (P.take k))) (fun _ i _ => P.length - (intOf i).toNat)
  case atStart => exact ⟨0, rfl, Nat.zero_le _, hob, hB1, hO1⟩
  case round =>
    clear hob hB1 hO1 hz1
    obtain ⟨k, rfl, hk, hob2, hB2, hown⟩ := hrel
    have hS2 := hB2.size
    have hlt9 : w.heap.size + 1 < wr.heap.size := (Array.getElem?_eq_some_iff.1 hob2).1
    by_cases hlt : k < P.length
    · have d0 := hcl.out wr hob2 k hlt
      obtain ⟨A4, c4, rfl, -, -⟩ := owns_slc2 hown
      have hst := Lib.hid (show flat RPhase.cells (P.take (k + 1)) = flat RPhase.cells (P.take k) ++ (P[k]).cells by rw [List.take_succ_eq_append_getElem hlt, flat_snoc])
      have hokp := hall.out P[k] (List.getElem_mem hlt)
      have hps := part_size hokp
      obtain ⟨hn, hc⟩ := color45 hokp
      have hpb : Hid (partB P[k] = (if (P[k]).f0.toList.isEmpty then ⟨#[45]⟩ else (P[k]).f0) ++ decT (P[k]).f1) := Lib.hid rfl
      obtain ⟨z, hz⟩ : ∃ z, P[k] = z := ⟨_, rfl⟩
      rw [hz] at d0 hst hn hc hpb hps
      obtain ⟨col, n⟩ := z
      dsimp only [RPhase.cells] at hst
      dsimp only at hn hc hpb
      have hds := decT_size (n := n) (by omega) (by omega)
      obtain ⟨hb1, hb2⟩ := dec_back (v := n) (by omega) (by omega)
      have hRD : ∀ w, Env w → Calls Tryz.prog 33 #[.string (decT n)] w fun e w' => e = .returned (.tuple #[.int .i64 n, .bool true]) ∧ Below w.heap.size w w' := fun w hE => by
        have h := impl_RDec (decT n) (by omega) w hE
        rwa [hb1, hb2] at h
      obtain ⟨D, hD⟩ : ∃ D, decT n = D := ⟨_, rfl⟩
      have hne0 : (partB ⟨col, n⟩).toList.isEmpty = false := some_text (by omega)
      have hkI : (k : Int) ≤ 40 := by omega
      have hdk : decide ((k : Int) ≤ 40) = true := decide_eq_true hkI
      rw [hD] at hRD hpb
      clear hz hb1 hb2 hD hokp hds
      rcases hc with rfl | ⟨c, ⟨hc1, hc2⟩, rfl⟩
      · rw [if_pos (by rw [ByteArray.toList_eq]; rfl)] at hpb
        obtain ⟨hx1, hx2⟩ := one_head 45 D
        rw [← hpb.out] at hx1 hx2
        obtain ⟨p, hp⟩ : ∃ p, partB ⟨⟨#[]⟩, n⟩ = p := ⟨_, rfl⟩
        rw [hp] at hx1 hx2 d0 hps hne0
        clear hp hpb
        go_wp2_with (first | (go_at_call 27; refine (impl_few _ _ _).mono ?_; rintro e w' ⟨rfl, rfl⟩))
        refine (hRD _ (hE'.out.on hB2)).mono ?_
        rintro e w9 ⟨rfl, hb9⟩
        have hB9 := bnext hB2 hb9
        have hO9 := owns_on hown hb9
        have hob9 : w9.heap[w.heap.size + 1]? = _ := (hb9.block _ hlt9).trans hob2
        have hz9 := hB9.size
        have hne := owns_neP hO9 hob9 (fun cur e => by injection e with e1 e2; exact absurd e2 (by decide))
        clear hown hob2 hb9 hB2
        go_wp2_with (at_builtin; refine wpList_append_own _ rfl _ _ 24 rfl (w.heap.size) 51 i0 (.agg #[.string ⟨#[]⟩, .int .i64 0]) 2 24 Tryz.underlying24 hi ie0 ie1 ie2 rfl (by decide) _ _ _ rfl (hO9.alloc _) ⟨w9.heap.size, 0, none⟩ 1 1 [.string (⟨#[]⟩), .int .i64 (n)] rfl rfl ?qc1 ?qc2 ?qc3 ?qc4 ?qc5 ?_)
        try (case qc1 =>
            intro j u hj
            match j, hj with
            | 0, hj => obtain rfl := Option.some.inj hj; simp [Addr.add, go_sem]
            | 1, hj => obtain rfl := Option.some.inj hj; simp [Addr.add, go_sem, *])
        try (case qc2 => first | exact ⟨rfl, rfl⟩ | (intro u hu; simp at hu; rcases hu with rfl | rfl <;> rfl))
        case qc3 => unfold maxLen; omega
        case qc4 => omega
        case qc5 => first | omega | (simp; omega)
        intro v' wn hown' hgrow _
        have hBn := (show Below w.heap.size w (w9.alloc (.cells #[.string ⟨#[]⟩, .int .i64 n] 51)) by go_grown).grown hgrow (by simp; omega) (fun q e => (hO9.lt q e).1)
        have hOn : wn.ownsRow w.heap.size 51 2 v' (k + 1) (flat RPhase.cells (P.take (k + 1))) := by rw [hst.out]; exact hown'
        have hobn := kept_objP hob9 hgrow hne
        clear hown' hgrow hB9 hO9 hob9
        go_wp2
        go_roundw
        case rel => exact ⟨k + 1, by go_num, by omega, hobn, hBn, hOn⟩
        case measure => simp [intOf]; omega
      · rw [if_neg (by rw [ByteArray.toList_eq]; simp)] at hpb
        obtain ⟨hx1, hx2⟩ := one_head c D
        rw [← hpb.out] at hx1 hx2
        obtain ⟨p, hp⟩ : ∃ p, partB ⟨⟨#[c]⟩, n⟩ = p := ⟨_, rfl⟩
        have h45 : ((⟨#[c]⟩ : ByteArray).toList == [45]) = false := by rw [ByteArray.toList_eq]; simpa using hc1
        rw [hp] at hx1 hx2 d0 hps hne0
        obtain ⟨cc, hcc⟩ : ∃ cc : ByteArray, ⟨#[c]⟩ = cc := ⟨_, rfl⟩
        rw [hcc] at hx1 h45 hst
        clear hp hpb hcc
        go_wp2_with (first | (go_at_call 27; refine (impl_few _ _ _).mono ?_; rintro e w' ⟨rfl, rfl⟩))
        refine (hRD _ (hE'.out.on hB2)).mono ?_
        rintro e w9 ⟨rfl, hb9⟩
        have hB9 := bnext hB2 hb9
        have hO9 := owns_on hown hb9
        have hob9 : w9.heap[w.heap.size + 1]? = _ := (hb9.block _ hlt9).trans hob2
        have hz9 := hB9.size
        have hne := owns_neP hO9 hob9 (fun cur e => by injection e with e1 e2; exact absurd e2 (by decide))
        clear hown hob2 hb9 hB2
        go_wp2_with (at_builtin; refine wpList_append_own _ rfl _ _ 24 rfl (w.heap.size) 51 i0 (.agg #[.string ⟨#[]⟩, .int .i64 0]) 2 24 Tryz.underlying24 hi ie0 ie1 ie2 rfl (by decide) _ _ _ rfl (hO9.alloc _) ⟨w9.heap.size, 0, none⟩ 1 1 [.string (cc), .int .i64 (n)] rfl rfl ?qc1 ?qc2 ?qc3 ?qc4 ?qc5 ?_)
        try (case qc1 =>
            intro j u hj
            match j, hj with
            | 0, hj => obtain rfl := Option.some.inj hj; simp [Addr.add, go_sem]
            | 1, hj => obtain rfl := Option.some.inj hj; simp [Addr.add, go_sem, *])
        try (case qc2 => first | exact ⟨rfl, rfl⟩ | (intro u hu; simp at hu; rcases hu with rfl | rfl <;> rfl))
        case qc3 => unfold maxLen; omega
        case qc4 => omega
        case qc5 => first | omega | (simp; omega)
        intro v' wn hown' hgrow _
        have hBn := (show Below w.heap.size w (w9.alloc (.cells #[.string cc, .int .i64 n] 51)) by go_grown).grown hgrow (by simp; omega) (fun q e => (hO9.lt q e).1)
        have hOn : wn.ownsRow w.heap.size 51 2 v' (k + 1) (flat RPhase.cells (P.take (k + 1))) := by rw [hst.out]; exact hown'
        have hobn := kept_objP hob9 hgrow hne
        clear hown' hgrow hB9 hO9 hob9
        go_wp2
        go_roundw
        case rel => exact ⟨k + 1, by go_num, by omega, hobn, hBn, hOn⟩
        case measure => simp [intOf]; omega
    · obtain rfl : k = P.length := by omega
      rw [List.take_length] at hown
      obtain ⟨A3, c3, rfl, -, hsl⟩ := owns_slc2 hown
      have hown' := Lib.hid hown
      have hV1 := Lib.hid (hVd.out A3 c3 wr hsl)
      have hsl' := Lib.hid hsl
      clear hown hsl hob2
      go_wp2_with fail
      refine (hV1.out).mono ?_
      rintro e w5 ⟨rfl, hb5⟩
      have hB5 := bnext hB2 hb5
      have hsl5 := Lib.hid ((hsl'.out.below hb5).more hb5.size)
      have hO5 := Lib.hid (owns_on hown'.out hb5)
      go_wp2_with fail
      refine (hPh.out A3 c3 _ hsl5.out (hE'.out.on hB5).tab).mono ?_
      rintro e w6 ⟨rfl, hb6⟩
      have hB6 := bnext hB5 hb6
      have hO6 := Lib.hid (owns_on hO5.out hb6)
      go_wp2_with fail
      go_ret2
      exact ⟨_, rfl, hB6, hO6.out⟩
end Go.Proofs.YtpnffdkkmibchaaGreatDoor
