/- Texts that belong together. -/
import Derived.Test.YtcmahhfjpgoceaaGreatZc
import Derived.Test.YtcmahhfjpgoceaaGreatU7
set_option linter.unusedSimpArgs false
set_option linter.unusedVariables false
set_option maxRecDepth 100000
namespace Go.Proofs.YtcmahhfjpgoceaaGreat
open Go.Gov
set_option maxRecDepth 100000 in
def c79 : ACode := (.seq (os [⟨(some 2), none, (.mov (.c (.string ⟨#[]⟩)))⟩]) (.seq (.seq (os [gm 3 0]) (.block 0 (.seq (.seq (os [gp 5 (.bin 0 .eql (.s 3) (.c (.int .u8 100))), gm 4 5]) (.cond (.s 4) .skip (.seq (os [gp 6 (.bin 0 .eql (.s 3) (.c (.int .u8 97))), gm 4 6]) (.cond (.s 4) .skip (.seq (os [gp 7 (.bin 0 .eql (.s 3) (.c (.int .u8 116))), gm 4 7]) (.cond (.s 4) .skip (os [gp 8 (.bin 0 .eql (.s 3) (.c (.int .u8 99))), gm 4 8]))))))) (.cond (.s 4) (.seq (os [gm 9 0, ⟨(some 10), none, (.bsl 1 [⟨0, (.s 9)⟩])⟩, gp 11 (.str (.s 10)), gm 2 11]) .ret) (.seq (os [gp 13 (.bin 0 .eql (.s 3) (.c (.int .u8 98))), gm 12 13]) (.cond (.s 12) (.seq (os [⟨(some 2), none, (.mov (.c (.string ⟨#[97, 116]⟩)))⟩]) .ret) (.seq (os [gp 15 (.bin 0 .eql (.s 3) (.c (.int .u8 101))), gm 14 15]) (.cond (.s 14) (.seq (os [⟨(some 2), none, (.mov (.c (.string ⟨#[97, 97]⟩)))⟩]) .ret) (.seq (os [gp 17 (.bin 0 .eql (.s 3) (.c (.int .u8 106))), gm 16 17]) (.cond (.s 16) (.seq (os [⟨(some 2), none, (.mov (.c (.string ⟨#[97, 100]⟩)))⟩]) .ret) (.seq (os [gp 19 (.bin 0 .eql (.s 3) (.c (.int .u8 107))), gm 18 19]) (.cond (.s 18) (.seq (os [⟨(some 2), none, (.mov (.c (.string ⟨#[100, 116, 100]⟩)))⟩]) .ret) (.seq (os [gp 21 (.bin 0 .eql (.s 3) (.c (.int .u8 109))), gm 20 21]) (.cond (.s 20) (.seq (os [⟨(some 2), none, (.mov (.c (.string ⟨#[97, 116, 100]⟩)))⟩]) .ret) (.seq (os [gp 23 (.bin 0 .eql (.s 3) (.c (.int .u8 110))), gm 22 23]) (.cond (.s 22) (.seq (os [⟨(some 2), none, (.mov (.c (.string ⟨#[116, 100]⟩)))⟩]) .ret) (.seq (os [gp 25 (.bin 0 .eql (.s 3) (.c (.int .u8 111))), gm 24 25]) (.cond (.s 24) (.seq (os [⟨(some 2), none, (.mov (.c (.string ⟨#[97, 97, 100]⟩)))⟩]) .ret) (.seq (os [gp 27 (.bin 0 .eql (.s 3) (.c (.int .u8 122))), gm 26 27]) (.cond (.s 26) (.seq (os [⟨(some 2), none, (.mov (.c (.string ⟨#[100, 116]⟩)))⟩]) .ret) .skip)))))))))))))))))))) (.seq (os [⟨(some 2), none, (.mov (.c (.string ⟨#[]⟩)))⟩]) .ret)))
set_option maxRecDepth 100000 in
theorem ok79 : compileFn Tryz.prog M2 79 = some (28, c79, [(.mov (.s 2))]) := by kernel_rfl
end Go.Proofs.YtcmahhfjpgoceaaGreat
