/- Is an instruction right, how many bytes it has: walks. No condition. -/
import Derived.Test.YtebmgladdgmmeaaCoR1
import Derived.Test.YtebmgladdgmmeaaCoR2
import Derived.Test.YtebmgladdgmmeaaCoR3
import Derived.Test.YtebmgladdgmmeaaCoM
namespace Go.Proofs.Ytebmgladdgmmeaa
open Go.RowKit Go.WideShapes
set_option linter.unusedVariables false
set_option linter.unusedSimpArgs false
theorem rightI_any (t : In) (w : World) (h0 : 0 ≤ t.o) : Calls Try.prog 13 #[t.agg] w (Quiet (.int .i64 (codeI t)) w) := by
  obtain ⟨o, d, s, n⟩ := t
  rcases sh_cases o with ⟨_, h⟩ | ⟨_, h⟩ | ⟨_, h⟩ | ⟨_, h⟩ | ⟨_, h⟩ | ⟨_, h⟩ | ⟨_, h⟩ | ⟨_, h⟩ | ⟨_, h⟩ | ⟨_, h⟩
  · exact rightI_0 o d s n w h0 h
  · exact rightI_1 o d s n w h0 h
  · exact rightI_2 o d s n w h0 h
  · exact rightI_3 o d s n w h0 h
  · exact rightI_4 o d s n w h0 h
  · exact rightI_5 o d s n w h0 h
  · exact rightI_6 o d s n w h0 h
  · exact rightI_7 o d s n w h0 h
  · exact rightI_8 o d s n w h0 h
  · exact rightI_9 o d s n w h0 h
theorem moreI_any (t : In) (w : World) (h0 : 0 ≤ t.o) : Calls Try.prog 81 #[t.agg] w (Quiet (.int .i64 (moreI t)) w) := by
  obtain ⟨o, d, s, n⟩ := t
  rcases sh_cases o with ⟨_, h⟩ | ⟨_, h⟩ | ⟨_, h⟩ | ⟨_, h⟩ | ⟨_, h⟩ | ⟨_, h⟩ | ⟨_, h⟩ | ⟨_, h⟩ | ⟨_, h⟩ | ⟨_, h⟩
  · exact moreI_0 o d s n w h0 h
  · exact moreI_1 o d s n w h0 h
  · exact moreI_2 o d s n w h0 h
  · exact moreI_3 o d s n w h0 h
  · exact moreI_4 o d s n w h0 h
  · exact moreI_5 o d s n w h0 h
  · exact moreI_6 o d s n w h0 h
  · exact moreI_7 o d s n w h0 h
  · exact moreI_8 o d s n w h0 h
  · exact moreI_9 o d s n w h0 h
end Go.Proofs.Ytebmgladdgmmeaa
