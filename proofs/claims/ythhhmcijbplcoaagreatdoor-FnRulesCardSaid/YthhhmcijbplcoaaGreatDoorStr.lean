/- Plain facts on texts as bytes that this seat's proofs share: lengths and bytes of pieces. -/
import Derived.Test.YthhhmcijbplcoaaGreatDoorWords0
import Derived.Test.YthhhmcijbplcoaaGreatDoorBase
namespace Go.Proofs.YthhhmcijbplcoaaGreatDoor
open Go.RowKit Go.Proofs.YthhhmcijbplcoaaGreatDoorW.PrintWords

theorem size_extract (s : ByteArray) (i j : Nat) (h : i ≤ j) (k : j ≤ s.size) : (s.extract i j).size = j - i := by
  rw [ByteArray.size_extract]; omega

theorem bt_extract (s : ByteArray) (i j : Nat) (a : Int) (h0 : 0 ≤ a) (h1 : i + a.toNat < j) (k : j ≤ s.size) : bt (s.extract i j) a = bt s (i + a) := by
  have hs : (s.extract i j).size = j - i := size_extract s i j (by omega) k
  have e : ((i : Int) + a).toNat = i + a.toNat := by omega
  unfold bt
  rw [dif_pos (by omega), dif_pos (by rw [e]; omega)]
  simp only [e]
  rw [ByteArray.getElem_extract]

end Go.Proofs.YthhhmcijbplcoaaGreatDoor
