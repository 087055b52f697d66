/- The library's contracts that are used, laid at this dump. -/
import Derived.Test.YtcmahpddjggcaaaGreatDoorKWalk
import Derived.Test.YtcmahpddjggcaaaGreatDoorShelf
import Derived.Shelf.Unicode.DecodeSlow
import Derived.Lib.Bytealg
import Derived.Lib.ValidU
namespace Go.Proofs.YtcmahpddjggcaaaGreatDoor
open Go Go.RowKit
/-- unicode/utf8's two tables lie as they were laid. -/
def Tabs (w : World) : Prop := Lib.Utf8Tabs 0 1 w
theorem valid_any (s : ByteArray) (w : World) (hs : s.size ≤ BIG) (hT : Tabs w) : Calls Tryz.prog 196 #[.string s] w fun e w' => e = .returned (.bool (Lib.validD s.data.toList)) ∧ Below w.heap.size w w' := Any.utf8_ValidString Tryz.lays196 s w (by rw [BIG_eq] at hs; omega) hT
theorem strcmp_any (a b : ByteArray) (w : World) : Calls Tryz.prog 248 #[.string a, .string b] w fun e w' => e = .returned (.int .i64 (Lib.compareBytes a.data.toList b.data.toList)) ∧ w' = w := Any.strings_Compare Tryz.lays106 a b w
theorem indexByte_any (s : ByteArray) (c : Int) (w : World) : Calls Tryz.prog 197 #[.string s, .int .u8 c] w fun e w' => e = .returned (.int .i64 (Lib.indexByte s.data.toList c.toNat.toUInt8)) ∧ w' = w := Any.strings_IndexByte Tryz.lays137 s c w
end Go.Proofs.YtcmahpddjggcaaaGreatDoor
