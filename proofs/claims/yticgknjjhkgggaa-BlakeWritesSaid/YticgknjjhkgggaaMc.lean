/- Two sums, computed. -/
import Derived.Test.YticgknjjhkgggaaMb
namespace Go.Proofs.Yticgknjjhkgggaa
theorem sum_abc : (keyed 32 [] [0x61#8, 0x62#8, 0x63#8]).take 8 = [0x50#8, 0x8c#8, 0x5e#8, 0x8c#8, 0x32#8, 0x7c#8, 0x14#8, 0xe2#8] := by decide +kernel
theorem sum_empty : (keyed 32 [] []).take 8 = [0x69#8, 0x21#8, 0x7a#8, 0x30#8, 0x79#8, 0x90#8, 0x80#8, 0x94#8] := by decide +kernel
end Go.Proofs.Yticgknjjhkgggaa
