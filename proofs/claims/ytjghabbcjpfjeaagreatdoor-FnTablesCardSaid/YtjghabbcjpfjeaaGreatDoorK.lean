/- Contracts of AsksOk of the program and of the reference. -/
import Derived.Test.YtjghabbcjpfjeaaGreatDoorHz
namespace Go.Proofs.YtjghabbcjpfjeaaGreatDoor
open Go.ChangeShapes Go.WideShapes Go.ChangeAt Go.RowKit

theorem askOk_parts {a : Ask} (h : askOk a = true) : inR a.Low (-1000) 1000 = true ∧ inR a.Wish a.Low 1000 = true ∧ inR a.High a.Wish 1000 = true ∧ inR a.Rank 0 100 = true := by
  simpa [askOk, and_assoc] using h



end Go.Proofs.YtjghabbcjpfjeaaGreatDoor
