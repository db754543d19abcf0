/- A list of blows out of its numbers. -/
import Derived.Test.YtopdbacgceoddaaWindA
import Derived.Test.YtopdbacgceoddaaFrame
namespace Go.Proofs.Ytopdbacgceoddaa
def mkBlow : List Int → Blow
  | [a, b, c] => ⟨a, b, c⟩
  | _ => ⟨0, 0, 0⟩
theorem mkBlow_f (zs : List Int) (h : zs.length = encBlow.k) : encBlow.f (mkBlow zs) = zs := by
  obtain ⟨a, b, c, rfl⟩ := list3 h
  rfl
end Go.Proofs.Ytopdbacgceoddaa
