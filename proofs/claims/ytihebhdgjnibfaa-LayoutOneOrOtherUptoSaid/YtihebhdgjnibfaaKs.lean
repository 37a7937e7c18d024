/- Numbers in slices; sameNumbers. -/
import Derived.Test.YtihebhdgjnibfaaKu
import Derived.Test.YtihebhdgjnibfaaAh20
set_option linter.unusedVariables false
set_option linter.unusedSimpArgs false
namespace Go.Proofs.Ytihebhdgjnibfaa.Ah
open Go

def uv (n : Nat) : Value := .int .u64 (n : Int)
def uvs (l : List Nat) : List Value := l.map uv
@[simp] theorem uvs_length (l : List Nat) : (uvs l).length = l.length := by simp [uvs]
@[simp] theorem uvs_append (l m : List Nat) : uvs (l ++ m) = uvs l ++ uvs m := by simp [uvs]
theorem uvs_get (l : List Nat) (i : Nat) : (uvs l)[i]? = (l[i]?).map uv := by simp [uvs]

end Go.Proofs.Ytihebhdgjnibfaa.Ah
