/- A value as Go has it. No program. -/
import Derived.Test.YtbfccjjnnkomcaaDoorBase
namespace Go.Proofs.YtbfccjjnnkomcaaDoor
/-- a value as Go has it -/
structure GV where
  kind : Int
  num : Int
  text : ByteArray

/-- what is a number of 64 bits -/
def i64 (n : Int) : Prop := -9223372036854775808 ≤ n ∧ n ≤ 9223372036854775807
end Go.Proofs.YtbfccjjnnkomcaaDoor
