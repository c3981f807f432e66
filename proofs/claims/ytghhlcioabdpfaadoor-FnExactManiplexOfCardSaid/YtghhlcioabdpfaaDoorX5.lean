/- Texts that belong together. -/
import Derived.Test.YtghhlcioabdpfaaDoorZc
import Derived.Test.YtghhlcioabdpfaaDoorX1
set_option linter.unusedSimpArgs false
set_option linter.unusedVariables false
set_option maxRecDepth 100000
namespace Go.Proofs.YtghhlcioabdpfaaDoor
open Go.Gov
set_option maxRecDepth 100000 in
def c127 : ACode := (.seq (os [gn 6]) (.seq (os [gm 7 0, gm 8 1, gm 9 2, gp 10 (.call 151 [(.s 7), (.s 8), (.s 9)]), gm 6 10]) .ret))
set_option maxRecDepth 100000 in
theorem ok127 : compileFn Tryd.prog M2 127 = some (11, c127, [(.mov (.s 6))]) := by kernel_rfl
set_option maxRecDepth 100000 in
def c151 : ACode := (.seq (os [gn 6]) (.seq (os [gm 8 1, gp 9 (.conv .u64 (.s 8)), gm 7 9]) (.seq (.seq (os [gm 10 1, gp 11 (.bin 0 .lss (.s 10) (kk 0))]) (.cond (.s 11) (.seq (os [gm 12 0, ⟨(some 13), none, (.bsl 1 [⟨0, (.c (.int .u8 45))⟩])⟩, gp 14 (.app 1 1 (.s 12) (.s 13)), gm 0 14]) (os [gm 15 7, gp 16 (.neg (.s 15)), gm 7 16])) .skip)) (.seq (os [gm 17 0, gm 18 7, gm 19 2, gp 20 (.call 170 [(.s 17), (.s 18), (.s 19)]), gm 6 20]) .ret))))
set_option maxRecDepth 100000 in
theorem ok151 : compileFn Tryd.prog M2 151 = some (21, c151, [(.mov (.s 6))]) := by kernel_rfl
set_option maxRecDepth 100000 in
def c170 : ACode := (.seq (os [gn 6]) (.seq (.seq (os [gm 9 2, gp 10 (.bin 0 .eql (.s 9) (kk 10))]) (.cond (.s 10) (.seq (.seq (os [gm 11 1, gp 12 (.bin 0 .lss (.s 11) (.c (.int .u64 100)))]) (.cond (.s 12) (.seq (os [gm 13 0, gm 14 1, gp 15 (.conv .i64 (.s 14)), gp 16 (.call 180 [(.s 15)]), gp 17 (.app 1 1 (.s 13) (.s 16)), gm 6 17]) .ret) .skip)) (.seq (os [gp 7 (.alloc [(.int .u8 0), (.int .u8 0), (.int .u8 0), (.int .u8 0), (.int .u8 0), (.int .u8 0), (.int .u8 0), (.int .u8 0), (.int .u8 0), (.int .u8 0), (.int .u8 0), (.int .u8 0), (.int .u8 0), (.int .u8 0), (.int .u8 0), (.int .u8 0), (.int .u8 0), (.int .u8 0), (.int .u8 0), (.int .u8 0), (.int .u8 0), (.int .u8 0), (.int .u8 0), (.int .u8 0)])]) (.seq (os [gm 18 1, gp 19 (.call 181 [(.s 18)]), gm 8 19]) (.seq (os [gm 20 8, gp 21 (.sla 24 1 (.s 7) (.s 20)), gm 22 1, gp 23 (.call 182 [(.s 21), (.s 22)])]) (.seq (os [gm 24 0, gm 25 8, gp 26 (.sla 24 1 (.s 7) (.s 25)), gp 27 (.app 1 1 (.s 24) (.s 26)), gm 6 27]) .ret))))) .skip)) (.seq (os [gm 29 0, gm 30 1, gm 31 2, gp 32 (.call 183 [(.s 29), (.s 30), (.s 31), (.c (.bool false)), (.c (.bool true))]), gm 28 32, gp 33 (.ext (.s 28) 0), gp 34 (.ext (.s 28) 1), gm 0 33]) (.seq (os [gm 35 0, gm 6 35]) .ret))))
set_option maxRecDepth 100000 in
theorem ok170 : compileFn Tryd.prog M2 170 = some (36, c170, [(.mov (.s 6))]) := by kernel_rfl
set_option maxRecDepth 100000 in
def c180 : ACode := (.seq (os [⟨(some 2), none, (.mov (.c (.string ⟨#[]⟩)))⟩]) (.seq (.seq (os [gm 3 0, gp 4 (.bin 0 .lss (.s 3) (kk 10))]) (.cond (.s 4) (.seq (os [gm 5 0, gm 6 0, gp 7 (.bin 0 .add (.s 6) (kk 1)), ⟨(some 8), none, (.sslice (.c (.string ⟨#[48, 49, 50, 51, 52, 53, 54, 55, 56, 57, 97, 98, 99, 100, 101, 102, 103, 104, 105, 106, 107, 108, 109, 110, 111, 112, 113, 114, 115, 116, 117, 118, 119, 120, 121, 122]⟩)) (some (.s 5)) (some (.s 7)))⟩, gm 2 8]) .ret) .skip)) (.seq (os [gm 9 0, gp 10 (.bin 0 .mul (.s 9) (kk 2)), gm 11 0, gp 12 (.bin 0 .mul (.s 11) (kk 2)), gp 13 (.bin 0 .add (.s 12) (kk 2)), ⟨(some 14), none, (.sslice (.c (.string ⟨#[48, 48, 48, 49, 48, 50, 48, 51, 48, 52, 48, 53, 48, 54, 48, 55, 48, 56, 48, 57, 49, 48, 49, 49, 49, 50, 49, 51, 49, 52, 49, 53, 49, 54, 49, 55, 49, 56, 49, 57, 50, 48, 50, 49, 50, 50, 50, 51, 50, 52, 50, 53, 50, 54, 50, 55, 50, 56, 50, 57, 51, 48, 51, 49, 51, 50, 51, 51, 51, 52, 51, 53, 51, 54, 51, 55, 51, 56, 51, 57, 52, 48, 52, 49, 52, 50, 52, 51, 52, 52, 52, 53, 52, 54, 52, 55, 52, 56, 52, 57, 53, 48, 53, 49, 53, 50, 53, 51, 53, 52, 53, 53, 53, 54, 53, 55, 53, 56, 53, 57, 54, 48, 54, 49, 54, 50, 54, 51, 54, 52, 54, 53, 54, 54, 54, 55, 54, 56, 54, 57, 55, 48, 55, 49, 55, 50, 55, 51, 55, 52, 55, 53, 55, 54, 55, 55, 55, 56, 55, 57, 56, 48, 56, 49, 56, 50, 56, 51, 56, 52, 56, 53, 56, 54, 56, 55, 56, 56, 56, 57, 57, 48, 57, 49, 57, 50, 57, 51, 57, 52, 57, 53, 57, 54, 57, 55, 57, 56, 57, 57]⟩)) (some (.s 10)) (some (.s 13)))⟩, gm 2 14]) .ret)))
set_option maxRecDepth 100000 in
theorem ok180 : compileFn Tryd.prog M2 180 = some (15, c180, [(.mov (.s 2))]) := by kernel_rfl
set_option maxRecDepth 100000 in
def c89 : ACode := (.seq (os [⟨(some 2), none, (.mov (.c (.string ⟨#[]⟩)))⟩]) (.seq (os [gn 3]) (.seq (.seq (os [gm 6 0, gp 7 (.len (.s 6)), gz 8 0]) (.block 0 (.loop (.seq (os [gp 9 (.bin 0 .lss (.s 8) (.s 7))]) (.seq (.cond (.s 9) .skip (.exit 0)) (.seq (.block 1 (.seq (os [gp 10 (.idx 1 (.s 6) (.s 8)), gp 11 (ldi 10), gm 5 11]) (.seq (os [gm 12 3, gm 13 5, gp 14 (.call 127 [(.s 12), (.s 13), (kk 10)]), gm 3 14]) (os [gm 15 3, ⟨(some 16), none, (.bsl 1 [⟨0, (.c (.int .u8 32))⟩])⟩, gp 17 (.app 1 1 (.s 15) (.s 16)), gm 3 17])))) (os [gp 18 (.bin 0 .add (.s 8) (kk 1)), gm 8 18]))))))) (.seq (os [gm 19 3, gp 20 (.str (.s 19)), gm 2 20]) .ret))))
set_option maxRecDepth 100000 in
theorem ok89 : compileFn Tryd.prog M2 89 = some (21, c89, [(.mov (.s 2))]) := by kernel_rfl
end Go.Proofs.YtghhlcioabdpfaaDoor
set_option maxRecDepth 100000
namespace Go.Proofs.YtghhlcioabdpfaaDoor
open Go.Gov
end Go.Proofs.YtghhlcioabdpfaaDoor
