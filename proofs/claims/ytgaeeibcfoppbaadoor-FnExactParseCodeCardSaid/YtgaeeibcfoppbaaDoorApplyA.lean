/- Contracts: the index of a word, the letter that a code gives, a code on a word: the program's. -/
import Derived.Test.YtgaeeibcfoppbaaDoorCodeB
import Derived.Test.YtgaeeibcfoppbaaDoorWordA
import Derived.Test.YtgaeeibcfoppbaaDoorApplyMath
namespace Go.Proofs.YtgaeeibcfoppbaaDoor
open Go.RowKit Go.Cm

end Go.Proofs.YtgaeeibcfoppbaaDoor
