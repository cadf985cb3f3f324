/- The chapter's examples. -/
import Derived.Test.YtcklpecjcebekaaPAllx20
namespace Go.Proofs.Ytcklpecjcebekaa.PAll
open Go.RowKit Go.Lib
theorem works_ten : sutlerlaw07_works.f 10 = some true := by decide +kernel
#print axioms works_ten
end Go.Proofs.Ytcklpecjcebekaa.PAll
