/-
  strings.Trim at the digits.
-/
import Derived.Test.YtdfekphahdmffaaDoorNuText
import Derived.Shelf.Strings.SlTrimAscii
namespace Go.Proofs.YtdfekphahdmffaaDoor
open Go.RowKit Go.Sort Go.Lib

def tenB : ByteArray := ⟨#[48, 49, 50, 51, 52, 53, 54, 55, 56, 57]⟩
theorem trimDigits_any (s : ByteArray) (w : World) (hs : s.size ≤ 9223372036854775807) :
    Calls Tryd.prog 64 #[.string s, .string ⟨#[48, 49, 50, 51, 52, 53, 54, 55, 56, 57]⟩] w fun e w' => e = .returned (.string ⟨(Lib.trimS s.data.toList [48, 49, 50, 51, 52, 53, 54, 55, 56, 57]).toArray⟩) ∧ Keep (fun _ => False) w w' := by
  refine (Any.strings_Trim_laid Tryd.lays160 (by kernel_rfl) s ⟨#[48, 49, 50, 51, 52, 53, 54, 55, 56, 57]⟩ w hs (by decide) (ascii_of_all (by decide))).mono ?_
  rintro e w' ⟨rfl, hb⟩
  exact ⟨rfl, Keep.of_below hb⟩
end Go.Proofs.YtdfekphahdmffaaDoor
