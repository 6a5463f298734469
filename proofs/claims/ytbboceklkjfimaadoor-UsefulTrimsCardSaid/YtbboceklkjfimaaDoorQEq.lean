/- Contracts: slices.Equal at ints and symbols. -/
import Derived.Test.YtbboceklkjfimaaDoorQEqInt
import Derived.Test.YtbboceklkjfimaaDoorQEqSym
