/- Texts that belong together. -/
import Derived.Test.YtdgcpjfffpkhkaaZc
import Derived.Test.YtdgcpjfffpkhkaaZt
set_option linter.unusedSimpArgs false
set_option linter.unusedVariables false
set_option maxRecDepth 100000
namespace Go.Proofs.Ytdgcpjfffpkhkaa
open Go.Gov
-- (*loop.example/g01108/impl.Poset).isBelow
set_option maxRecDepth 100000 in
def c39 : ACode := (.seq (os [gp 6 (.mov (.c (.bool false)))]) (.seq (os [gm 10 0, gp 11 (.nck (.s 10)), gp 12 (.fld 2 (.s 11)), gp 13 (.load (.slc 1 0 []) (.s 12)), gm 14 2, gp 15 (.idx 1 (.s 13) (.s 14)), gp 16 (.load (.slc 1 0 []) (.s 15)), gm 17 1, gp 18 (.call 38 [(.s 16), (.s 17)]), gm 9 18, gp 19 (.ext (.s 9) 0), gp 20 (.ext (.s 9) 1), gm 7 19, gm 8 20]) (.seq (os [gm 21 8, gm 6 21]) .ret)))
set_option maxRecDepth 100000 in
theorem ok39 : compileFn Try.prog M 39 = some (22, c39, [(.mov (.s 6))]) := by kernel_rfl
end Go.Proofs.Ytdgcpjfffpkhkaa
set_option maxRecDepth 100000
namespace Go.Proofs.Ytdgcpjfffpkhkaa
open Go.Gov
def M2 : List Nat := [16, 30, 32, 999999]
end Go.Proofs.Ytdgcpjfffpkhkaa
