/-
  The library's contracts that this seat leans on, laid at its own numbers (what the shelf's own two commands have written, cut to what is used). Under the conditions that each states.
-/
import Derived.Shelf.Strings.OnBuilder
import Derived.Shelf.LaysM
import Derived.Shelf.LaysC
import Derived.Test.YtlgpgohojbgkaaaDoorProg
set_option linter.unusedVariables false
namespace Go.Proofs.YtlgpgohojbgkaaaDoor
open Go.Shelf
def sj_lays156_ren : Go.Shelf.Ren := ⟨fun | 156 => 112 | 165 => 135 | 166 => 136 | 169 => 137 | 240 => 151 | 241 => 152 | 276 => 172 | 277 => 173 | n => n, fun | 31 => 128 | 9 => 9 | 3 => 3 | 4 => 4 | 0 => 0 | 20 => 20 | 72 => 153 | 76 => 155 | 70 => 151 | 37 => 52 | 75 => 143 | 127 => 172 | 164 => 188 | 5 => 5 | 80 => 157 | n => n, fun | n => n⟩

theorem sj_lays156 : Go.Proofs.Lays.n156 Tryd.prog sj_lays156_ren := {
  mixed := by kernel_rfl
  f156 := Tryd.func112.trans (congrArg some (by kernel_rfl))
  f165 := Tryd.func135.trans (congrArg some (by kernel_rfl))
  f166 := Tryd.func136.trans (congrArg some (by kernel_rfl))
  f169 := Tryd.func137.trans (congrArg some (by kernel_rfl))
  f240 := Tryd.func151.trans (congrArg some (by kernel_rfl))
  f241 := Tryd.func152.trans (congrArg some (by kernel_rfl))
  f276 := Tryd.func172.trans (congrArg some (by kernel_rfl))
  f277 := Tryd.func173.trans (congrArg some (by kernel_rfl))
  t0 := Tryd.underlying0
  a0 := Tryd.isAgg0
  z0 := Tryd.sizeOf0
  v0 := Tryd.zeroValue0
  t3 := Tryd.underlying3
  a3 := Tryd.isAgg3
  z3 := Tryd.sizeOf3
  v3 := Tryd.zeroValue3
  t4 := Tryd.underlying4
  a4 := Tryd.isAgg4
  z4 := Tryd.sizeOf4
  v4 := Tryd.zeroValue4
  t9 := Tryd.underlying9
  a9 := Tryd.isAgg9
  z9 := Tryd.sizeOf9
  v9 := Tryd.zeroValue9
  t20 := Tryd.underlying20
  a20 := Tryd.isAgg20
  z20 := Tryd.sizeOf20
  v20 := Tryd.zeroValue20
  t31 := Tryd.underlying128
  a31 := Tryd.isAgg128
  z31 := Tryd.sizeOf128
  v31 := Tryd.zeroValue128
  t37 := Tryd.underlying52
  a37 := Tryd.isAgg52
  z37 := Tryd.sizeOf52
  v37 := Tryd.zeroValue52
  t70 := Tryd.underlying151
  a70 := Tryd.isAgg151
  z70 := Tryd.sizeOf151
  v70 := Tryd.zeroValue151
  t72 := Tryd.underlying153
  a72 := Tryd.isAgg153
  z72 := Tryd.sizeOf153
  v72 := Tryd.zeroValue153
  t75 := Tryd.underlying143
  a75 := Tryd.isAgg143
  z75 := Tryd.sizeOf143
  v75 := Tryd.zeroValue143
  t76 := Tryd.underlying155
  a76 := Tryd.isAgg155
  z76 := Tryd.sizeOf155
  v76 := Tryd.zeroValue155
  t127 := Tryd.underlying172
  a127 := Tryd.isAgg172
  z127 := Tryd.sizeOf172
  v127 := Tryd.zeroValue172
  t164 := Tryd.underlying188
  a164 := Tryd.isAgg188
  z164 := Tryd.sizeOf188
  v164 := Tryd.zeroValue188 }

theorem sj_Builder_Extra_156 : Builder.Extra Tryd.prog sj_lays156_ren := {
  sizeBuilder := by kernel_rfl
  liesBuilder := by kernel_rfl
  t5 := Tryd.underlying5
  a5 := Tryd.isAgg5
  z5 := Tryd.sizeOf5
  v5 := Tryd.zeroValue5
  infoByte := by kernel_rfl
  cellsByte := by kernel_rfl
  sizeByte := by kernel_rfl
  neB5 := by decide }

open Go.RowKit in
theorem sj_strings_Join (bk o c : Nat) (xs : List ByteArray) (sep : ByteArray) (w : World) (hcells : ∀ (j : Nat) x, xs[j]? = some x → w.cell? ⟨bk, o + j, none⟩ = some (.string x)) (hbk : bk < w.heap.size) (hN : xs.length ≤ 140737488355328) (hcap : xs.length ≤ c) (hlen : (Lib.join (xs.map (·.data.toList)) sep.data.toList).length ≤ 140737488355328) :
    Calls Tryd.prog 112 #[.slice (some ⟨bk, o, none⟩) xs.length c, .string sep] w fun e w' => e = .returned (.string ⟨(Lib.join (xs.map (·.data.toList)) sep.data.toList).toArray⟩) ∧ Below w.heap.size w w' := Any.strings_Join sj_lays156 sj_Builder_Extra_156 bk o c xs sep w hcells hbk hN hcap hlen
end Go.Proofs.YtlgpgohojbgkaaaDoor
