
/-
  Contracts of SibsShow in the form that the exact laws take.
-/
import Derived.Test.YtlmjgbonoihccaaDoorSibsI
namespace Go.Proofs.YtlmjgbonoihccaaDoor
open Go.RowKit Go.PlainAid

theorem iSibsShow_e {A : Option Addr} {n c : Nat} {ks : List Kv} {ts : List ByteArray} {w : World} (h : HasS w A n ks) (hn : n ≤ 1048576) (ht : showOk (sbs ks) = ts) :
    Calls Tryd.prog 32 #[.slice A n c] w fun e w' => MadeTxts w w' ts e := by
  subst ht; exact iSibsShow_any A n c ks w h hn
theorem sSibsShow_e {A : Option Addr} {n c : Nat} {ks : List Kv} {ts : List ByteArray} {w : World} (h : HasS w A n ks) (hn : n ≤ 1048576) (ht : showOk (sbs ks) = ts) :
    Calls Tryd.prog 33 #[.slice A n c] w fun e w' => MadeTxts w w' ts e := by
  subst ht; exact sSibsShow_any A n c ks w h hn
theorem len_showOk (ss : List Sb) : (showOk ss).length ≤ ss.length := by
  unfold showOk
  split
  · exact len_shown ss
  · simp

end Go.Proofs.YtlmjgbonoihccaaDoor
