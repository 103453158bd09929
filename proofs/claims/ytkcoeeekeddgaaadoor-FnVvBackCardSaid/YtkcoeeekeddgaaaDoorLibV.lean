
/-
  The library's variables that reading comes to, from what the row lists.
-/
import Derived.Test.YtkcoeeekeddgaaaDoorTextG
import Derived.Test.YtkcoeeekeddgaaaDoorRows
import Derived.Stop.LaidErr
import Derived.MakeChecks
namespace Go.Proofs.YtkcoeeekeddgaaaDoor
open Go.RowKit Go.PlainAid

theorem gES : Tryd.prog.globalNamed "strconv.ErrSyntax" = some 0 := by kernel_rfl
theorem gER : Tryd.prog.globalNamed "strconv.ErrRange" = some 1 := by kernel_rfl
theorem tES : (Tryd.prog.globals[0]?).map (·.type) = some 70 := by kernel_rfl
theorem tER : (Tryd.prog.globals[1]?).map (·.type) = some 70 := by kernel_rfl
theorem cellsE : Tryd.prog.cellsOf 137 = 1 := by kernel_rfl
theorem cellsS : Tryd.prog.cellsOf 9 = 1 := by kernel_rfl
theorem starE : "*" ++ "errors.errorString" = "*errors.errorString" := by decide
theorem rowE (u : TypeId) (h : Tryd.prog.typeName? 3 u = some "*errors.errorString") : u = 135 :=
  typeName_ptr_named (nm := "errors.errorString") (by rw [starE]; kernel_rfl) (by kernel_rfl) (by decide) u (by rw [starE]; exact h)

theorem lib_vars {W : World} (hL : laidMetH Tryd.prog Rows.fnVvBackRow.laid W) (hS : W.ShapedOpen Tryd.prog) : LibVars W := by
  rw [MakeChecks.laidMetH_plain _ _ _ (by kernel_rfl)] at hL
  have h4 := hL.tail.tail.tail.tail
  obtain ⟨a0, s0, hv0, -, -, -⟩ := laid_sentinel h4 gER tER Tryd.underlying70 rowE Tryd.underlying135 Tryd.underlying137 rfl rfl Tryd.underlying9 cellsE cellsS
  obtain ⟨a1, s1, hv1, -, -, -⟩ := laid_sentinel h4.tail gES tES Tryd.underlying70 rowE Tryd.underlying135 Tryd.underlying137 rfl rfl Tryd.underlying9 cellsE cellsS
  exact ⟨Tryd.maxLen_shaped W hS, ⟨_, _, by have h0 := World.var?_cell gES hv1 0; simpa using h0⟩, ⟨_, _, by have h0 := World.var?_cell gER hv0 0; simpa using h0⟩⟩

end Go.Proofs.YtkcoeeekeddgaaaDoor
