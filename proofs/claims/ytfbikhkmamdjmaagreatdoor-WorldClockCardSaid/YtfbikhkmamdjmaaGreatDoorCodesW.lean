/- The functions' codes for the abstract machine. Printed by a program of this claim's author. -/
import Derived.Test.YtfbikhkmamdjmaaGreatDoorCodesWA
import Derived.Test.YtfbikhkmamdjmaaGreatDoorChecked
import Derived.KernelRfl
namespace Go.Proofs.YtfbikhkmamdjmaaGreatDoor.CodesW
open Go Go.Ab
/-- strings.TrimLeft -/
def c168 : OFunc := { np := 2, dep := 1, results := [(.t 2)], body := (.seq (.region [⟨(some 2), .mov (.v (.str [])), none, []⟩]) (.seq (.seq (.region [⟨(some 5), .bin .eql (.t 0) (.v (.str [])), none, []⟩, ⟨(some 6), .bin .eql (.t 1) (.v (.str [])), (some (5, false)), []⟩, ⟨(some 7), .pick (.t 5) (.v (.bool true)) (.t 6), none, []⟩]) (.cond (.t 7) (.seq (.region [⟨(some 2), .mov (.t 0), none, []⟩]) .ret) .skip)) (.seq (.seq (.region [⟨(some 8), .len 0 (.t 1), none, []⟩, ⟨(some 9), .bin .eql (.t 8) (.v (.int .i64 1)), none, []⟩, ⟨(some 10), .index (.t 1) (.v (.int .i64 0)), (some (9, true)), []⟩, ⟨(some 11), .bin .lss (.t 10) (.v (.int .u8 128)), (some (9, true)), []⟩, ⟨(some 12), .pick (.t 9) (.t 11) (.v (.bool false)), none, []⟩]) (.cond (.t 12) (.seq (.region [⟨(some 13), .index (.t 1) (.v (.int .i64 0)), none, []⟩, ⟨(some 2), .call 231 [(.t 0), (.t 13)], none, []⟩]) .ret) .skip)) (.seq (.seq (.region [⟨(some 14), .call 232 [(.t 1)], none, []⟩, ⟨(some 15), .extract (.t 14) 0, none, []⟩, ⟨(some 16), .extract (.t 14) 1, none, []⟩, ⟨(some 3), .alloc [(.bool false), (.bool false), (.bool false), (.bool false), (.bool false), (.bool false), (.bool false), (.bool false), (.bool false), (.bool false), (.bool false), (.bool false), (.bool false), (.bool false), (.bool false), (.bool false), (.bool false), (.bool false), (.bool false), (.bool false), (.bool false), (.bool false), (.bool false), (.bool false), (.bool false), (.bool false), (.bool false), (.bool false), (.bool false), (.bool false), (.bool false), (.bool false), (.bool false), (.bool false), (.bool false), (.bool false), (.bool false), (.bool false), (.bool false), (.bool false), (.bool false), (.bool false), (.bool false), (.bool false), (.bool false), (.bool false), (.bool false), (.bool false), (.bool false), (.bool false), (.bool false), (.bool false), (.bool false), (.bool false), (.bool false), (.bool false), (.bool false), (.bool false), (.bool false), (.bool false), (.bool false), (.bool false), (.bool false), (.bool false), (.bool false), (.bool false), (.bool false), (.bool false), (.bool false), (.bool false), (.bool false), (.bool false), (.bool false), (.bool false), (.bool false), (.bool false), (.bool false), (.bool false), (.bool false), (.bool false), (.bool false), (.bool false), (.bool false), (.bool false), (.bool false), (.bool false), (.bool false), (.bool false), (.bool false), (.bool false), (.bool false), (.bool false), (.bool false), (.bool false), (.bool false), (.bool false), (.bool false), (.bool false), (.bool false), (.bool false), (.bool false), (.bool false), (.bool false), (.bool false), (.bool false), (.bool false), (.bool false), (.bool false), (.bool false), (.bool false), (.bool false), (.bool false), (.bool false), (.bool false), (.bool false), (.bool false), (.bool false), (.bool false), (.bool false), (.bool false), (.bool false), (.bool false), (.bool false), (.bool false), (.bool false), (.bool false), (.bool false), (.bool false), (.bool false), (.bool false), (.bool false), (.bool false), (.bool false), (.bool false), (.bool false), (.bool false), (.bool false), (.bool false), (.bool false), (.bool false), (.bool false), (.bool false), (.bool false), (.bool false), (.bool false), (.bool false), (.bool false), (.bool false), (.bool false), (.bool false), (.bool false), (.bool false), (.bool false), (.bool false), (.bool false), (.bool false), (.bool false), (.bool false), (.bool false), (.bool false), (.bool false), (.bool false), (.bool false), (.bool false), (.bool false), (.bool false), (.bool false), (.bool false), (.bool false), (.bool false), (.bool false), (.bool false), (.bool false), (.bool false), (.bool false), (.bool false), (.bool false), (.bool false), (.bool false), (.bool false), (.bool false), (.bool false), (.bool false), (.bool false), (.bool false), (.bool false), (.bool false), (.bool false), (.bool false), (.bool false), (.bool false), (.bool false), (.bool false), (.bool false), (.bool false), (.bool false), (.bool false), (.bool false), (.bool false), (.bool false), (.bool false), (.bool false), (.bool false), (.bool false), (.bool false), (.bool false), (.bool false), (.bool false), (.bool false), (.bool false), (.bool false), (.bool false), (.bool false), (.bool false), (.bool false), (.bool false), (.bool false), (.bool false), (.bool false), (.bool false), (.bool false), (.bool false), (.bool false), (.bool false), (.bool false), (.bool false), (.bool false), (.bool false), (.bool false), (.bool false), (.bool false), (.bool false), (.bool false), (.bool false), (.bool false), (.bool false), (.bool false), (.bool false), (.bool false), (.bool false), (.bool false), (.bool false), (.bool false), (.bool false), (.bool false), (.bool false), (.bool false), (.bool false), (.bool false), (.bool false), (.bool false), (.bool false), (.bool false), (.bool false), (.bool false), (.bool false)], none, []⟩, ⟨none, .store 256 (.t 3) (.t 15), none, []⟩, ⟨(some 4), .mov (.t 16), none, []⟩]) (.seq (.region [⟨(some 17), .mov (.t 4), none, []⟩]) (.cond (.t 17) (.seq (.region [⟨(some 2), .call 233 [(.t 0), (.t 3)], none, []⟩]) .ret) .skip))) (.seq (.region [⟨(some 2), .call 234 [(.t 0), (.t 1)], none, []⟩]) .ret))))) }
/-- strings.HasPrefix -/
def c169 : OFunc := { np := 2, dep := 0, results := [(.t 2)], body := (.seq (.region [⟨(some 2), .mov (.v (.bool false)), none, []⟩]) (.seq (.region [⟨(some 2), .call 235 [(.t 0), (.t 1)], none, []⟩]) .ret)) }
/-- puppeteer/lex.run -/
def c171 : OFunc := { np := 1, dep := 0, results := [(.t 1)], body := (.seq (.region [⟨(some 1), .mov (.v (.int .i64 0)), none, []⟩]) (.seq (.region [⟨(some 2), .mov (.v (.int .i64 0)), none, []⟩]) (.seq (.block 0 (.loop (.seq (.seq (.region [⟨(some 3), .len 0 (.t 0), none, []⟩, ⟨(some 4), .bin .lss (.t 2) (.t 3), none, []⟩, ⟨(some 5), .index (.t 0) (.t 2), (some (4, true)), []⟩, ⟨(some 6), .call 237 [(.t 5)], (some (4, true)), []⟩, ⟨(some 7), .pick (.t 4) (.t 6) (.v (.bool false)), none, []⟩]) (.cond (.t 7) .skip (.exit 0))) (.block 1 (.region [⟨(some 2), .bin .add (.t 2) (.v (.int .i64 1)), none, []⟩]))))) (.seq (.region [⟨(some 1), .mov (.t 2), none, []⟩]) .ret)))) }
/-- puppeteer/lex.letter -/
def c172 : OFunc := { np := 1, dep := 0, results := [(.t 1)], body := (.seq (.region [⟨(some 1), .mov (.v (.bool false)), none, []⟩]) (.seq (.region [⟨(some 2), .bin .geq (.t 0) (.v (.int .u8 97)), none, []⟩, ⟨(some 3), .bin .leq (.t 0) (.v (.int .u8 122)), (some (2, true)), []⟩, ⟨(some 4), .pick (.t 2) (.t 3) (.v (.bool false)), none, []⟩, ⟨(some 5), .bin .geq (.t 0) (.v (.int .u8 65)), (some (4, false)), []⟩, ⟨(some 6), .bin .leq (.t 0) (.v (.int .u8 90)), (some (5, true)), []⟩, ⟨(some 7), .pick (.t 5) (.t 6) (.v (.bool false)), (some (4, false)), []⟩, ⟨(some 1), .pick (.t 4) (.v (.bool true)) (.t 7), none, []⟩]) .ret)) }
/-- puppeteer/lex.word -/
def c173 : OFunc := { np := 1, dep := 0, results := [(.t 1)], body := (.seq (.region [⟨(some 1), .mov (.v (.bool false)), none, []⟩]) (.seq (.region [⟨(some 2), .call 238 [(.v (.str [107, 101, 121, 32, 116, 114, 101, 101, 32, 100, 111, 109, 97, 105, 110, 32, 111, 119, 110, 32, 115, 104, 97, 114, 101, 100, 32, 105, 110, 116, 32, 98, 111, 111, 108, 32, 114, 101, 102, 32, 115, 121, 109, 32, 112, 111, 105, 110, 116, 32, 115, 101, 113, 32, 115, 101, 108, 32, 109, 115, 101, 113, 32, 109, 115, 101, 108, 32, 112, 97, 114, 32, 110, 111, 116, 32, 114, 101, 112, 101, 97, 116, 32, 105, 102, 32, 115, 101, 116, 32, 100, 111, 32, 117, 115, 101, 32, 112, 105, 99, 107, 32, 112, 108, 97, 110, 32, 111, 107, 32, 102, 97, 105, 108, 32, 119, 97, 105, 116, 32, 118, 97, 114, 32, 97, 99, 116, 32, 99, 111, 115, 116, 32, 110, 101, 101, 100, 32, 109, 97, 107, 101, 32, 103, 111, 97, 108, 32, 116, 114, 117, 101, 32, 102, 97, 108, 115, 101, 32, 115, 101, 108, 102, 32, 116, 105, 109, 101, 32, 97, 110, 100, 32, 111, 114, 32, 114, 101, 32, 105, 109, 32, 116, 117, 114, 110, 32, 102, 97, 114]))], none, []⟩, ⟨(some 1), .call 196 [(.t 2), (.t 0)], none, []⟩]) .ret)) }
/-- puppeteer/lex.digit -/
def c174 : OFunc := { np := 1, dep := 0, results := [(.t 1)], body := (.seq (.region [⟨(some 1), .mov (.v (.bool false)), none, []⟩]) (.seq (.region [⟨(some 2), .bin .geq (.t 0) (.v (.int .u8 48)), none, []⟩, ⟨(some 3), .bin .leq (.t 0) (.v (.int .u8 57)), (some (2, true)), []⟩, ⟨(some 1), .pick (.t 2) (.t 3) (.v (.bool false)), none, []⟩]) .ret)) }
/-- puppeteer/lex.sign -/
def c176 : OFunc := { np := 1, dep := 1, results := [(.t 1)], body := (.seq (.region [⟨(some 1), .mov (.v (.str [])), none, []⟩]) (.seq (.seq (.region [⟨(some 3), .call 238 [(.v (.str [58, 61, 32, 60, 61, 32, 62, 61, 32, 61, 61, 32, 123, 32, 125, 32, 40, 32, 41, 32, 59, 32, 58, 32, 61, 32, 60, 32, 43, 32, 45, 32, 42, 32, 47, 32, 44, 32, 39]))], none, []⟩, ⟨(some 4), .len 1 (.t 3), none, []⟩, ⟨(some 5), .mov (.v (.int .i64 0)), none, []⟩]) (.block 0 (.loop (.seq (.region [⟨(some 6), .bin .lss (.t 5) (.t 4), none, []⟩]) (.seq (.cond (.t 6) .skip (.exit 0)) (.seq (.block 1 (.seq (.region [⟨(some 7), .iaddr 1 (.t 3) (.t 5), none, []⟩, ⟨(some 2), .load 1 false (.t 7), none, []⟩]) (.seq (.region [⟨(some 8), .call 169 [(.t 0), (.t 2)], none, []⟩]) (.cond (.t 8) (.seq (.region [⟨(some 1), .mov (.t 2), none, []⟩]) .ret) .skip)))) (.region [⟨(some 5), .bin .add (.t 5) (.v (.int .i64 1)), none, []⟩]))))))) (.seq (.region [⟨(some 1), .mov (.v (.str [])), none, []⟩]) .ret))) }
/-- (*puppeteer/expr.Reader).now -/
def c177 : OFunc := { np := 1, dep := 1, results := [(.cell 1 4 true)], body := (.seq (.region [⟨(some 1), .alloc [(.int .i64 0), (.int .i64 0), (.int .i64 0), (.str [])], none, []⟩]) (.seq (.seq (.region [⟨(some 2), .nilchk (.t 0), none, []⟩, ⟨(some 3), .faddr 1 (.t 2), none, []⟩, ⟨(some 4), .load 1 false (.t 3), none, []⟩, ⟨(some 5), .nilchk (.t 0), none, []⟩, ⟨(some 6), .faddr 0 (.t 5), none, []⟩, ⟨(some 7), .load 1 false (.t 6), none, []⟩, ⟨(some 8), .len 1 (.t 7), none, []⟩, ⟨(some 9), .bin .geq (.t 4) (.t 8), none, []⟩]) (.cond (.t 9) (.seq (.region [⟨(some 10), .build [(.int .i64 0), (.int .i64 0), (.int .i64 0), (.str [])] [], none, []⟩, ⟨none, .store 4 (.t 1) (.t 10), none, []⟩]) .ret) .skip)) (.seq (.region [⟨(some 11), .nilchk (.t 0), none, []⟩, ⟨(some 12), .faddr 0 (.t 11), none, []⟩, ⟨(some 13), .load 1 false (.t 12), none, []⟩, ⟨(some 14), .nilchk (.t 0), none, []⟩, ⟨(some 15), .faddr 1 (.t 14), none, []⟩, ⟨(some 16), .load 1 false (.t 15), none, []⟩, ⟨(some 17), .iaddr 4 (.t 13) (.t 16), none, []⟩, ⟨(some 18), .load 4 true (.t 17), none, []⟩, ⟨none, .store 4 (.t 1) (.t 18), none, []⟩]) .ret))) }
/-- (*puppeteer/expr.Reader).Took -/
def c178 : OFunc := { np := 2, dep := 1, results := [(.t 2)], body := (.seq (.region [⟨(some 2), .mov (.v (.bool false)), none, []⟩]) (.seq (.region [⟨(some 3), .call 108 [(.t 0), (.t 1)], none, []⟩]) (.seq (.seq (.region [⟨(some 4), .mov (.t 3), none, []⟩]) (.cond (.t 4) (.region [⟨(some 5), .nilchk (.t 0), none, []⟩, ⟨(some 6), .faddr 1 (.t 5), none, []⟩, ⟨(some 7), .load 1 false (.t 6), none, []⟩, ⟨(some 8), .bin .add (.t 7) (.v (.int .i64 1)), none, []⟩, ⟨(some 9), .nilchk (.t 0), none, []⟩, ⟨(some 10), .faddr 1 (.t 9), none, []⟩, ⟨none, .store 1 (.t 10) (.t 8), none, []⟩]) .skip)) (.seq (.region [⟨(some 2), .mov (.t 3), none, []⟩]) .ret)))) }
/-- (*puppeteer/tree.reader).word -/
def c179 : OFunc := { np := 2, dep := 0, results := [(.t 2)], body := (.seq (.region [⟨(some 2), .mov (.v (.int .i64 0)), none, []⟩]) (.seq (.region [⟨(some 3), .nilchk (.t 0), none, []⟩, ⟨(some 4), .faddr 0 (.t 3), none, []⟩, ⟨(some 5), .mkfn 178 [(.t 4)] [], none, []⟩, ⟨(some 2), .call 239 [(.t 1), (.t 5)], none, []⟩]) .ret)) }
/-- (*puppeteer/expr.Reader).of -/
def c180 : OFunc := { np := 2, dep := 1, results := [(.cell 2 4 true)], body := (.seq (.region [⟨(some 2), .alloc [(.int .i64 0), (.int .i64 0), (.int .i64 0), (.str [])], none, []⟩]) (.seq (.region [⟨(some 4), .call 177 [(.t 0)], none, []⟩, ⟨(some 3), .alloc [(.int .i64 0), (.int .i64 0), (.int .i64 0), (.str [])], none, []⟩, ⟨none, .store 4 (.t 3) (.t 4), none, []⟩]) (.seq (.seq (.region [⟨(some 5), .faddr 0 (.t 3), none, []⟩, ⟨(some 6), .load 1 false (.t 5), none, []⟩, ⟨(some 7), .bin .neq (.t 6) (.t 1), none, []⟩]) (.cond (.t 7) (.region [⟨(some 8), .call 115 [(.t 0), (.v (.int .i64 2))], none, []⟩]) .skip)) (.seq (.region [⟨(some 9), .nilchk (.t 0), none, []⟩, ⟨(some 10), .faddr 1 (.t 9), none, []⟩, ⟨(some 11), .load 1 false (.t 10), none, []⟩, ⟨(some 12), .bin .add (.t 11) (.v (.int .i64 1)), none, []⟩, ⟨(some 13), .nilchk (.t 0), none, []⟩, ⟨(some 14), .faddr 1 (.t 13), none, []⟩, ⟨none, .store 1 (.t 14) (.t 12), none, []⟩]) (.seq (.region [⟨(some 15), .load 4 true (.t 3), none, []⟩, ⟨none, .store 4 (.t 2) (.t 15), none, []⟩]) .ret))))) }
/-- puppeteer/tree.lists -/
def c181 : OFunc := { np := 0, dep := 0, results := [(.t 0)], body := (.seq (.region [⟨(some 0), .mov (.v .nilsl), none, []⟩]) (.seq (.region [⟨(some 0), .lit 1 [(.str [115, 101, 113]), (.str [115, 101, 108]), (.str [109, 115, 101, 113]), (.str [109, 115, 101, 108]), (.str [112, 97, 114])] 5 [], none, []⟩]) .ret)) }
/-- (*puppeteer/tree.reader).inner -/
def c183 : OFunc := { np := 2, dep := 1, results := [(.t 4)], body := (.seq (.region [⟨(some 2), .box (.t 0), none, []⟩, ⟨(some 3), .box (.t 1), none, []⟩, ⟨(some 4), .mov (.v .nilsl), none, []⟩]) (.seq (.region [⟨(some 5), .alloc [.nilsl], none, []⟩]) (.seq (.region [⟨(some 6), .load 1 false (.t 2), none, []⟩, ⟨(some 7), .mkfn 240 [] [(.t 5), (.t 2), (.t 3)], none, []⟩, ⟨(some 8), .call 184 [(.t 6), (.t 7)], none, []⟩]) (.seq (.region [⟨(some 4), .load 1 false (.t 5), none, []⟩]) .ret)))) }
/-- (*puppeteer/tree.reader).braces -/
def c184 : OFunc := { np := 2, dep := 1, results := [], body := (.seq (.region [⟨(some 3), .nilchk (.t 0), none, []⟩, ⟨(some 4), .faddr 0 (.t 3), none, []⟩, ⟨(some 5), .call 110 [(.t 4), (.v (.str [123]))], none, []⟩]) (.seq (.seq (.region [⟨(some 2), .mov (.v (.int .i64 0)), none, []⟩]) (.block 0 (.loop (.seq (.seq (.region [⟨(some 6), .bin .eql (.t 2) (.v (.int .i64 0)), none, []⟩, ⟨(some 7), .nilchk (.t 0), (some (6, false)), []⟩, ⟨(some 8), .faddr 0 (.t 7), (some (6, false)), []⟩, ⟨(some 9), .call 108 [(.t 8), (.v (.str [125]))], (some (6, false)), []⟩, ⟨(some 10), .un .not (.t 9), (some (6, false)), []⟩, ⟨(some 11), .pick (.t 6) (.v (.bool true)) (.t 10), none, []⟩]) (.cond (.t 11) .skip (.exit 0))) (.seq (.block 1 (.seq (.region [⟨(some 12), .call 109 [(.t 0), (.t 2), (.v (.int .i64 16))], none, []⟩]) (.region [⟨(some 13), .callv (.t 1) [], none, []⟩]))) (.region [⟨(some 2), .bin .add (.t 2) (.v (.int .i64 1)), none, []⟩])))))) (.region [⟨(some 14), .nilchk (.t 0), none, []⟩, ⟨(some 15), .faddr 0 (.t 14), none, []⟩, ⟨(some 16), .call 110 [(.t 15), (.v (.str [125]))], none, []⟩]))) }
/-- (*puppeteer/tree.reader).node$1 -/
def c185 : OFunc := { np := 3, dep := 1, results := [], body := (.seq (.region [⟨(some 3), .faddr 9 (.t 0), none, []⟩, ⟨(some 4), .load 1 false (.t 3), none, []⟩, ⟨(some 5), .load 1 false (.t 1), none, []⟩, ⟨(some 6), .nilchk (.t 5), none, []⟩, ⟨(some 7), .faddr 0 (.t 6), none, []⟩, ⟨(some 9), .len 1 (.t 4), none, []⟩, ⟨(some 10), .lit 4 [(.int .i64 0), (.int .i64 0), (.str []), .nilsl] 1 [], none, []⟩, ⟨(some 8), .call 186 [(.t 7)], none, [(9, none, .len 1 (.t 4)), (4, none, .load 1 false (.t 3))]⟩, ⟨(some 11), .app 4 56 (.t 4) (.t 10), none, []⟩, ⟨(some 12), .iaddr 4 (.t 11) (.t 9), none, []⟩, ⟨(some 13), .faddr 9 (.t 0), none, []⟩, ⟨none, .apart (.t 12) (.t 13), none, []⟩, ⟨none, .store 4 (.t 12) (.t 8), none, []⟩, ⟨none, .store 1 (.t 13) (.t 11), none, []⟩]) (.seq (.region [⟨(some 14), .load 1 false (.t 1), none, []⟩, ⟨(some 15), .nilchk (.t 14), none, []⟩, ⟨(some 16), .faddr 0 (.t 15), none, []⟩, ⟨(some 17), .call 110 [(.t 16), (.v (.str [58]))], none, []⟩]) (.region [⟨(some 18), .faddr 8 (.t 0), none, []⟩, ⟨(some 19), .load 1 false (.t 18), none, []⟩, ⟨(some 20), .load 1 false (.t 1), none, []⟩, ⟨(some 21), .load 1 false (.t 2), none, []⟩, ⟨(some 22), .bin .add (.t 21) (.v (.int .i64 1)), none, []⟩, ⟨(some 24), .len 1 (.t 19), none, []⟩, ⟨(some 25), .lit 10 [(.int .i64 0), (.int .i64 0), (.int .i64 0), (.str []), (.int .i64 0), (.int .i64 0), (.str []), .nilsl, .nilsl, .nilsl] 1 [], none, []⟩, ⟨(some 23), .call 113 [(.t 20), (.t 22)], none, [(24, none, .len 1 (.t 19)), (19, none, .load 1 false (.t 18))]⟩, ⟨(some 26), .app 10 144 (.t 19) (.t 25), none, []⟩, ⟨(some 27), .iaddr 10 (.t 26) (.t 24), none, []⟩, ⟨(some 28), .faddr 8 (.t 0), none, []⟩, ⟨none, .apart (.t 27) (.t 28), none, []⟩, ⟨none, .store 10 (.t 27) (.t 23), none, []⟩, ⟨none, .store 1 (.t 28) (.t 26), none, []⟩]))) }
/-- (*puppeteer/expr.Reader).Expr -/
def c186 : OFunc := { np := 1, dep := 0, results := [(.cell 1 4 true)], body := (.seq (.region [⟨(some 1), .alloc [(.int .i64 0), (.int .i64 0), (.str []), .nilsl], none, []⟩]) (.seq (.region [⟨(some 2), .call 241 [(.t 0), (.v (.int .i64 0)), (.v (.int .i64 0))], none, []⟩, ⟨(some 3), .field 0 4 true (.t 2), none, []⟩, ⟨none, .store 4 (.t 1) (.t 3), none, []⟩]) .ret)) }
/-- (*puppeteer/tree.reader).leaf -/
def c187 : OFunc := { np := 1, dep := 1, results := [(.cell 1 10 true)], body := (.seq (.region [⟨(some 1), .alloc [(.int .i64 0), (.int .i64 0), (.int .i64 0), (.str []), (.int .i64 0), (.int .i64 0), (.str []), .nilsl, .nilsl, .nilsl], none, []⟩]) (.seq (.block 0 (.seq (.region [⟨(some 6), .nilchk (.t 0), none, []⟩, ⟨(some 7), .faddr 0 (.t 6), none, []⟩, ⟨(some 5), .call 178 [(.t 7), (.v (.str [105, 102]))], none, []⟩]) (.cond (.t 5) (.seq (.region [⟨(some 8), .nilchk (.t 0), none, []⟩, ⟨(some 9), .faddr 0 (.t 8), none, []⟩, ⟨(some 10), .call 186 [(.t 9)], none, []⟩, ⟨(some 11), .build [(.int .i64 0), (.int .i64 0), (.int .i64 0), (.str []), (.int .i64 0), (.int .i64 0), (.str []), .nilsl, .nilsl, .nilsl] [(0, 1, (.v (.int .i64 7))), (4, 4, (.t 10))], none, []⟩, ⟨none, .store 10 (.t 1) (.t 11), none, []⟩]) .ret) (.seq (.region [⟨(some 13), .nilchk (.t 0), none, []⟩, ⟨(some 14), .faddr 0 (.t 13), none, []⟩, ⟨(some 12), .call 178 [(.t 14), (.v (.str [115, 101, 116]))], none, []⟩]) (.cond (.t 12) (.seq (.region [⟨(some 15), .nilchk (.t 0), none, []⟩, ⟨(some 16), .faddr 0 (.t 15), none, []⟩, ⟨(some 2), .call 112 [(.t 16)], none, []⟩]) (.seq (.region [⟨(some 17), .nilchk (.t 0), none, []⟩, ⟨(some 18), .faddr 0 (.t 17), none, []⟩, ⟨(some 19), .call 110 [(.t 18), (.v (.str [58, 61]))], none, []⟩]) (.seq (.region [⟨(some 20), .nilchk (.t 0), none, []⟩, ⟨(some 21), .faddr 0 (.t 20), none, []⟩, ⟨(some 22), .call 186 [(.t 21)], none, []⟩, ⟨(some 23), .build [(.int .i64 0), (.int .i64 0), (.int .i64 0), (.str []), (.int .i64 0), (.int .i64 0), (.str []), .nilsl, .nilsl, .nilsl] [(0, 1, (.v (.int .i64 8))), (3, 1, (.t 2)), (4, 4, (.t 22))], none, []⟩, ⟨none, .store 10 (.t 1) (.t 23), none, []⟩]) .ret))) .skip))))) (.seq (.seq (.region [⟨(some 24), .lit 1 [(.str [100, 111]), (.str [117, 115, 101]), (.str [112, 108, 97, 110])] 3 [], none, []⟩, ⟨(some 3), .call 179 [(.t 0), (.t 24)], none, []⟩]) (.seq (.region [⟨(some 25), .bin .geq (.t 3) (.v (.int .i64 0)), none, []⟩]) (.cond (.t 25) (.seq (.region [⟨(some 26), .lit 1 [(.int .i64 9), (.int .i64 10), (.int .i64 12)] 3 [], none, []⟩, ⟨(some 27), .iaddr 1 (.t 26) (.t 3), none, []⟩, ⟨(some 28), .load 1 false (.t 27), none, []⟩, ⟨(some 29), .nilchk (.t 0), none, []⟩, ⟨(some 30), .faddr 0 (.t 29), none, []⟩, ⟨(some 31), .call 112 [(.t 30)], none, [(28, none, .load 1 false (.t 27))]⟩, ⟨(some 32), .build [(.int .i64 0), (.int .i64 0), (.int .i64 0), (.str []), (.int .i64 0), (.int .i64 0), (.str []), .nilsl, .nilsl, .nilsl] [(0, 1, (.t 28)), (3, 1, (.t 31))], none, []⟩, ⟨none, .store 10 (.t 1) (.t 32), none, []⟩]) .ret) .skip))) (.seq (.region [⟨(some 33), .lit 1 [(.str [111, 107]), (.str [102, 97, 105, 108]), (.str [119, 97, 105, 116])] 3 [], none, []⟩, ⟨(some 4), .call 179 [(.t 0), (.t 33)], none, []⟩]) (.seq (.seq (.region [⟨(some 34), .bin .lss (.t 4) (.v (.int .i64 0)), none, []⟩]) (.cond (.t 34) (.region [⟨(some 35), .nilchk (.t 0), none, []⟩, ⟨(some 36), .faddr 0 (.t 35), none, []⟩, ⟨(some 37), .call 115 [(.t 36), (.v (.int .i64 2))], none, []⟩]) .skip)) (.seq (.region [⟨(some 38), .bin .add (.v (.int .i64 13)) (.t 4), none, []⟩, ⟨(some 39), .build [(.int .i64 0), (.int .i64 0), (.int .i64 0), (.str []), (.int .i64 0), (.int .i64 0), (.str []), .nilsl, .nilsl, .nilsl] [(0, 1, (.t 38))], none, []⟩, ⟨none, .store 10 (.t 1) (.t 39), none, []⟩]) .ret)))))) }
/-- puppeteer/check.is -/
def c191 : OFunc := { np := 3, dep := 1, results := [(.t 4)], body := (.seq (.region [⟨(some 3), .box (.t 0), none, []⟩, ⟨(some 4), .mov (.v (.int .i64 0)), none, []⟩]) (.seq (.region [⟨(some 7), .load 4 true (.t 3), none, []⟩, ⟨(some 8), .call 243 [(.t 7), (.t 1)], none, []⟩, ⟨(some 9), .extract (.t 8) 0, none, []⟩, ⟨(some 10), .extract (.t 8) 1, none, []⟩, ⟨(some 5), .mov (.t 9), none, []⟩, ⟨(some 6), .mov (.t 10), none, []⟩]) (.seq (.seq (.region [⟨(some 11), .bin .neq (.t 6) (.v (.int .i64 0)), none, []⟩]) (.cond (.t 11) (.seq (.region [⟨(some 4), .mov (.t 6), none, []⟩]) .ret) .skip)) (.seq (.region [⟨(some 12), .bin .neq (.t 5) (.t 2), none, []⟩, ⟨(some 4), .call 58 [(.t 12), (.v (.int .i64 7))], none, []⟩]) .ret)))) }
/-- puppeteer/check.key -/
def c192 : OFunc := { np := 2, dep := 0, results := [(.t 3)], body := (.seq (.region [⟨(some 2), .box (.t 1), none, []⟩, ⟨(some 3), .mov (.v (.int .i64 0)), none, []⟩]) (.seq (.region [⟨(some 4), .mkfn 245 [] [(.t 2)], none, []⟩, ⟨(some 3), .call 244 [(.t 0), (.t 4)], none, []⟩]) .ret)) }
/-- puppeteer/check.itself$1 -/
def c193 : OFunc := { np := 2, dep := 0, results := [(.t 3)], body := (.seq (.region [⟨(some 2), .box (.t 0), none, []⟩, ⟨(some 3), .mov (.v (.bool false)), none, []⟩]) (.seq (.region [⟨(some 4), .faddr 0 (.t 2), none, []⟩, ⟨(some 5), .load 1 false (.t 4), none, []⟩, ⟨(some 6), .faddr 3 (.t 1), none, []⟩, ⟨(some 7), .load 1 false (.t 6), none, []⟩, ⟨(some 3), .bin .eql (.t 5) (.t 7), none, []⟩]) .ret)) }
/-- slices.IndexFunc[[]puppeteer/api.Node,puppeteer/api.Node] -/
def c195 : OFunc := { np := 2, dep := 1, results := [(.t 2)], body := (.seq (.region [⟨(some 2), .mov (.v (.int .i64 0)), none, []⟩]) (.seq (.seq (.region [⟨(some 4), .len 1 (.t 0), none, []⟩, ⟨(some 5), .mov (.v (.int .i64 0)), none, []⟩]) (.block 0 (.loop (.seq (.region [⟨(some 6), .bin .lss (.t 5) (.t 4), none, []⟩]) (.seq (.cond (.t 6) .skip (.exit 0)) (.seq (.block 1 (.seq (.region [⟨(some 3), .mov (.t 5), none, []⟩]) (.seq (.region [⟨(some 7), .iaddr 10 (.t 0) (.t 3), none, []⟩, ⟨(some 8), .load 10 true (.t 7), none, []⟩, ⟨(some 9), .callv (.t 1) [(.t 8)], none, []⟩]) (.cond (.t 9) (.seq (.region [⟨(some 2), .mov (.t 3), none, []⟩]) .ret) .skip)))) (.region [⟨(some 5), .bin .add (.t 5) (.v (.int .i64 1)), none, []⟩]))))))) (.seq (.region [⟨(some 2), .mov (.v (.int .i64 (-1))), none, []⟩]) .ret))) }
/-- slices.Contains[[]string,string] -/
def c196 : OFunc := { np := 2, dep := 0, results := [(.t 2)], body := (.seq (.region [⟨(some 2), .mov (.v (.bool false)), none, []⟩]) (.seq (.region [⟨(some 3), .call 246 [(.t 0), (.t 1)], none, []⟩, ⟨(some 2), .bin .geq (.t 3) (.v (.int .i64 0)), none, []⟩]) .ret)) }
/-- (*puppeteer/inline.placer).node -/
def c197 : OFunc := { np := 3, dep := 1, results := [(.cell 4 10 true), (.t 5)], body := (.seq (.region [⟨(some 3), .box (.t 1), none, []⟩, ⟨(some 4), .alloc [(.int .i64 0), (.int .i64 0), (.int .i64 0), (.str []), (.int .i64 0), (.int .i64 0), (.str []), .nilsl, .nilsl, .nilsl], none, []⟩, ⟨(some 5), .mov (.v (.int .i64 0)), none, []⟩]) (.seq (.seq (.region [⟨(some 10), .faddr 0 (.t 3), none, []⟩, ⟨(some 11), .load 1 false (.t 10), none, []⟩, ⟨(some 12), .bin .eql (.t 11) (.v (.int .i64 10)), none, []⟩]) (.cond (.t 12) (.seq (.region [⟨(some 13), .faddr 3 (.t 3), none, []⟩, ⟨(some 14), .load 1 false (.t 13), none, []⟩, ⟨(some 15), .call 119 [(.t 0), (.t 14), (.t 2)], none, []⟩, ⟨(some 16), .extract (.t 15) 0, none, []⟩, ⟨(some 17), .extract (.t 15) 1, none, []⟩, ⟨none, .store 10 (.t 4) (.t 16), none, []⟩, ⟨(some 5), .mov (.t 17), none, []⟩]) .ret) .skip)) (.seq (.region [⟨(some 18), .nilchk (.t 0), none, []⟩, ⟨(some 19), .faddr 2 (.t 18), none, []⟩, ⟨(some 20), .load 1 false (.t 19), none, []⟩, ⟨(some 21), .bin .add (.t 20) (.v (.int .i64 1)), none, []⟩, ⟨(some 22), .nilchk (.t 0), none, []⟩, ⟨(some 23), .faddr 2 (.t 22), none, []⟩, ⟨none, .store 1 (.t 23) (.t 21), none, []⟩]) (.seq (.block 0 (.seq (.region [⟨(some 24), .bin .gtr (.t 2) (.v (.int .i64 40)), none, []⟩]) (.cond (.t 24) (.seq (.region [⟨(some 25), .build [(.int .i64 0), (.int .i64 0), (.int .i64 0), (.str []), (.int .i64 0), (.int .i64 0), (.str []), .nilsl, .nilsl, .nilsl] [], none, []⟩, ⟨none, .store 10 (.t 4) (.t 25), none, []⟩, ⟨(some 5), .mov (.v (.int .i64 4)), none, []⟩]) .ret) (.seq (.region [⟨(some 27), .nilchk (.t 0), none, []⟩, ⟨(some 28), .faddr 2 (.t 27), none, []⟩, ⟨(some 29), .load 1 false (.t 28), none, []⟩, ⟨(some 26), .bin .gtr (.t 29) (.v (.int .i64 4000)), none, []⟩]) (.cond (.t 26) (.seq (.region [⟨(some 30), .build [(.int .i64 0), (.int .i64 0), (.int .i64 0), (.str []), (.int .i64 0), (.int .i64 0), (.str []), .nilsl, .nilsl, .nilsl] [], none, []⟩, ⟨none, .store 10 (.t 4) (.t 30), none, []⟩, ⟨(some 5), .mov (.v (.int .i64 9)), none, []⟩]) .ret) .skip))))) (.seq (.region [⟨(some 31), .load 10 true (.t 3), none, []⟩, ⟨(some 6), .alloc [(.int .i64 0), (.int .i64 0), (.int .i64 0), (.str []), (.int .i64 0), (.int .i64 0), (.str []), .nilsl, .nilsl, .nilsl], none, []⟩, ⟨none, .store 10 (.t 6) (.t 31), none, []⟩]) (.seq (.region [⟨(some 32), .faddr 4 (.t 3), none, []⟩, ⟨(some 33), .load 4 true (.t 32), none, []⟩, ⟨(some 35), .faddr 9 (.t 3), none, []⟩, ⟨(some 36), .load 1 false (.t 35), none, []⟩, ⟨(some 34), .call 82 [(.t 33)], none, [(36, none, .load 1 false (.t 35))]⟩, ⟨(some 38), .faddr 4 (.t 6), none, []⟩, ⟨(some 37), .call 83 [(.t 36)], none, []⟩, ⟨none, .store 4 (.t 38) (.t 34), none, []⟩, ⟨(some 39), .faddr 9 (.t 6), none, []⟩, ⟨none, .store 1 (.t 39) (.t 37), none, []⟩, ⟨(some 40), .faddr 8 (.t 6), none, []⟩, ⟨none, .store 1 (.t 40) (.v .nilsl), none, []⟩]) (.seq (.seq (.region [⟨(some 41), .faddr 8 (.t 3), none, []⟩, ⟨(some 42), .load 1 false (.t 41), none, []⟩, ⟨(some 43), .len 1 (.t 42), none, []⟩, ⟨(some 44), .mov (.v (.int .i64 0)), none, []⟩]) (.block 1 (.loop (.seq (.region [⟨(some 45), .bin .lss (.t 44) (.t 43), none, []⟩]) (.seq (.cond (.t 45) .skip (.exit 1)) (.seq (.block 2 (.seq (.region [⟨(some 46), .iaddr 10 (.t 42) (.t 44), none, []⟩, ⟨(some 47), .load 10 true (.t 46), none, []⟩, ⟨(some 7), .alloc [(.int .i64 0), (.int .i64 0), (.int .i64 0), (.str []), (.int .i64 0), (.int .i64 0), (.str []), .nilsl, .nilsl, .nilsl], none, []⟩, ⟨none, .store 10 (.t 7) (.t 47), none, []⟩]) (.seq (.region [⟨(some 48), .load 10 true (.t 7), none, []⟩, ⟨(some 49), .bin .add (.t 2) (.v (.int .i64 1)), none, []⟩, ⟨(some 50), .call 197 [(.t 0), (.t 48), (.t 49)], none, []⟩, ⟨(some 51), .extract (.t 50) 0, none, []⟩, ⟨(some 52), .extract (.t 50) 1, none, []⟩, ⟨(some 8), .alloc [(.int .i64 0), (.int .i64 0), (.int .i64 0), (.str []), (.int .i64 0), (.int .i64 0), (.str []), .nilsl, .nilsl, .nilsl], none, []⟩, ⟨none, .store 10 (.t 8) (.t 51), none, []⟩, ⟨(some 9), .mov (.t 52), none, []⟩]) (.seq (.seq (.region [⟨(some 53), .bin .neq (.t 9) (.v (.int .i64 0)), none, []⟩]) (.cond (.t 53) (.seq (.region [⟨(some 54), .build [(.int .i64 0), (.int .i64 0), (.int .i64 0), (.str []), (.int .i64 0), (.int .i64 0), (.str []), .nilsl, .nilsl, .nilsl] [], none, []⟩, ⟨none, .store 10 (.t 4) (.t 54), none, []⟩, ⟨(some 5), .mov (.t 9), none, []⟩]) .ret) .skip)) (.region [⟨(some 55), .faddr 8 (.t 6), none, []⟩, ⟨(some 56), .load 1 false (.t 55), none, []⟩, ⟨(some 57), .load 10 true (.t 8), none, []⟩, ⟨(some 58), .lit 10 [(.int .i64 0), (.int .i64 0), (.int .i64 0), (.str []), (.int .i64 0), (.int .i64 0), (.str []), .nilsl, .nilsl, .nilsl] 1 [(0, 10, (.t 57))], none, []⟩, ⟨(some 59), .app 10 144 (.t 56) (.t 58), none, []⟩, ⟨(some 60), .faddr 8 (.t 6), none, []⟩, ⟨none, .store 1 (.t 60) (.t 59), none, []⟩]))))) (.region [⟨(some 44), .bin .add (.t 44) (.v (.int .i64 1)), none, []⟩]))))))) (.seq (.region [⟨(some 61), .load 10 true (.t 6), none, []⟩, ⟨none, .store 10 (.t 4) (.t 61), none, []⟩, ⟨(some 5), .mov (.v (.int .i64 0)), none, []⟩]) .ret)))))))) }
/-- slices.Index[[]puppeteer/api.Id,puppeteer/api.Id] -/
def c202 : OFunc := { np := 2, dep := 1, results := [(.t 3)], body := (.seq (.region [⟨(some 2), .box (.t 1), none, []⟩, ⟨(some 3), .mov (.v (.int .i64 0)), none, []⟩]) (.seq (.seq (.region [⟨(some 5), .len 1 (.t 0), none, []⟩, ⟨(some 6), .mov (.v (.int .i64 0)), none, []⟩]) (.block 0 (.loop (.seq (.region [⟨(some 7), .bin .lss (.t 6) (.t 5), none, []⟩]) (.seq (.cond (.t 7) .skip (.exit 0)) (.seq (.block 1 (.seq (.region [⟨(some 4), .mov (.t 6), none, []⟩]) (.seq (.region [⟨(some 8), .load 2 true (.t 2), none, []⟩, ⟨(some 9), .iaddr 2 (.t 0) (.t 4), none, []⟩, ⟨(some 10), .load 2 true (.t 9), none, []⟩, ⟨(some 11), .eqs false [0, 0] (.t 8) (.t 10), none, []⟩]) (.cond (.t 11) (.seq (.region [⟨(some 3), .mov (.t 4), none, []⟩]) .ret) .skip)))) (.region [⟨(some 6), .bin .add (.t 6) (.v (.int .i64 1)), none, []⟩]))))))) (.seq (.region [⟨(some 3), .mov (.v (.int .i64 (-1))), none, []⟩]) .ret))) }
/-- puppeteer/value.Name -/
def c203 : OFunc := { np := 1, dep := 1, results := [(.t 1)], body := (.seq (.region [⟨(some 1), .mov (.v (.bool false)), none, []⟩]) (.seq (.seq (.region [⟨(some 3), .bin .eql (.t 0) (.v (.str [])), none, []⟩, ⟨(some 4), .len 0 (.t 0), (some (3, false)), []⟩, ⟨(some 5), .bin .gtr (.t 4) (.v (.int .i64 24)), (some (3, false)), []⟩, ⟨(some 6), .pick (.t 3) (.v (.bool true)) (.t 5), none, []⟩, ⟨(some 7), .index (.t 0) (.v (.int .i64 0)), (some (6, false)), []⟩, ⟨(some 8), .call 252 [(.t 7)], (some (6, false)), []⟩, ⟨(some 9), .un .not (.t 8), (some (6, false)), []⟩, ⟨(some 10), .pick (.t 6) (.v (.bool true)) (.t 9), none, []⟩]) (.cond (.t 10) (.seq (.region [⟨(some 1), .mov (.v (.bool false)), none, []⟩]) .ret) .skip)) (.seq (.seq (.region [⟨(some 11), .s2b (.t 0), none, []⟩, ⟨(some 12), .len 1 (.t 11), none, []⟩, ⟨(some 13), .mov (.v (.int .i64 0)), none, []⟩]) (.block 0 (.loop (.seq (.region [⟨(some 14), .bin .lss (.t 13) (.t 12), none, []⟩]) (.seq (.cond (.t 14) .skip (.exit 0)) (.seq (.block 1 (.seq (.region [⟨(some 15), .iaddr 1 (.t 11) (.t 13), none, []⟩, ⟨(some 2), .load 1 false (.t 15), none, []⟩]) (.seq (.region [⟨(some 16), .call 237 [(.t 2)], none, []⟩, ⟨(some 17), .un .not (.t 16), none, []⟩]) (.cond (.t 17) (.seq (.region [⟨(some 1), .mov (.v (.bool false)), none, []⟩]) .ret) .skip)))) (.region [⟨(some 13), .bin .add (.t 13) (.v (.int .i64 1)), none, []⟩]))))))) (.seq (.region [⟨(some 1), .mov (.v (.bool true)), none, []⟩]) .ret)))) }
/-- puppeteer/value.Zero -/
def c206 : OFunc := { np := 1, dep := 0, results := [(.cell 1 5 true)], body := (.seq (.region [⟨(some 1), .alloc [(.int .i64 0), (.int .i64 0), (.int .i64 0), (.str []), (.cpx .f64 0 0)], none, []⟩]) (.seq (.seq (.region [⟨(some 2), .bin .lss (.t 0) (.v (.int .i64 0)), none, []⟩, ⟨(some 3), .bin .gtr (.t 0) (.v (.int .i64 4)), (some (2, false)), []⟩, ⟨(some 4), .pick (.t 2) (.v (.bool true)) (.t 3), none, []⟩]) (.cond (.t 4) (.region [⟨(some 0), .mov (.v (.int .i64 0)), none, []⟩]) .skip)) (.seq (.region [⟨(some 5), .build [(.int .i64 0), (.int .i64 0), (.int .i64 0), (.str []), (.cpx .f64 0 0)] [(0, 1, (.t 0))], none, []⟩, ⟨none, .store 5 (.t 1) (.t 5), none, []⟩]) .ret))) }
/-- slices.Grow[[]puppeteer/api.Id,puppeteer/api.Id] -/
def c209 : OFunc := { np := 2, dep := 1, results := [(.t 2)], body := (.seq (.region [⟨(some 2), .mov (.v .nilsl), none, []⟩]) (.seq (.seq (.region [⟨(some 3), .bin .lss (.t 1) (.v (.int .i64 0)), none, []⟩]) (.cond (.t 3) (.region [⟨(some 4), .mkifc 9 (.v (.str [99, 97, 110, 110, 111, 116, 32, 98, 101, 32, 110, 101, 103, 97, 116, 105, 118, 101])), none, []⟩, ⟨none, .panic (.t 4), none, []⟩]) .skip)) (.seq (.seq (.region [⟨(some 5), .capOf (.t 0), none, []⟩, ⟨(some 6), .len 1 (.t 0), none, []⟩, ⟨(some 7), .bin .sub (.t 5) (.t 6), none, []⟩, ⟨(some 1), .bin .sub (.t 1) (.t 7), none, []⟩]) (.seq (.region [⟨(some 8), .bin .gtr (.t 1) (.v (.int .i64 0)), none, []⟩]) (.cond (.t 8) (.region [⟨(some 9), .capOf (.t 0), none, []⟩, ⟨(some 10), .slice 2 (.t 0) none (some (.t 9)) none, none, []⟩, ⟨(some 11), .appz 2 16 [(.int .i64 0), (.int .i64 0)] (.t 10) (.t 1), none, []⟩, ⟨(some 12), .len 1 (.t 0), none, []⟩, ⟨(some 0), .slice 2 (.t 11) none (some (.t 12)) none, none, []⟩]) .skip))) (.seq (.region [⟨(some 2), .mov (.t 0), none, []⟩]) .ret)))) }
/-- (*puppeteer/vm.Run).kid -/
def c210 : OFunc := { np := 2, dep := 2, results := [(.t 2)], body := (.seq (.region [⟨(some 2), .mov (.v (.bool false)), none, []⟩]) (.seq (.seq (.region [⟨(some 3), .nilchk (.t 0), none, []⟩, ⟨(some 4), .faddr 0 (.t 3), none, []⟩, ⟨(some 5), .load 1 false (.t 4), none, []⟩, ⟨(some 6), .nilchk (.t 5), none, []⟩, ⟨(some 7), .faddr 0 (.t 6), none, []⟩, ⟨(some 8), .load 1 false (.t 7), none, []⟩, ⟨(some 9), .nilchk (.t 1), none, []⟩, ⟨(some 10), .faddr 0 (.t 9), none, []⟩, ⟨(some 11), .load 1 false (.t 10), none, []⟩, ⟨(some 12), .iaddr 11 (.t 8) (.t 11), none, []⟩, ⟨(some 13), .faddr 0 (.t 12), none, []⟩, ⟨(some 14), .load 1 false (.t 13), none, []⟩, ⟨(some 15), .bin .eql (.t 14) (.v (.int .i64 4)), none, []⟩]) (.cond (.t 15) (.block 0 (.loop (.seq (.seq (.region [⟨(some 16), .nilchk (.t 1), none, []⟩, ⟨(some 17), .faddr 1 (.t 16), none, []⟩, ⟨(some 18), .load 1 false (.t 17), none, []⟩, ⟨(some 19), .nilchk (.t 1), none, []⟩, ⟨(some 20), .faddr 2 (.t 19), none, []⟩, ⟨(some 21), .load 1 false (.t 20), none, []⟩, ⟨(some 22), .len 1 (.t 21), none, []⟩, ⟨(some 23), .bin .lss (.t 18) (.t 22), none, []⟩, ⟨(some 24), .nilchk (.t 0), (some (23, true)), []⟩, ⟨(some 25), .faddr 0 (.t 24), (some (23, true)), []⟩, ⟨(some 26), .load 1 false (.t 25), (some (23, true)), []⟩, ⟨(some 27), .nilchk (.t 1), (some (23, true)), []⟩, ⟨(some 28), .faddr 0 (.t 27), (some (23, true)), []⟩, ⟨(some 29), .load 1 false (.t 28), (some (23, true)), []⟩, ⟨(some 30), .nilchk (.t 1), (some (23, true)), []⟩, ⟨(some 31), .faddr 1 (.t 30), (some (23, true)), []⟩, ⟨(some 32), .load 1 false (.t 31), (some (23, true)), []⟩, ⟨(some 33), .call 93 [(.t 26), (.t 29), (.t 32)], (some (23, true)), []⟩, ⟨(some 34), .bin .neq (.t 33) (.v (.int .i64 0)), (some (23, true)), []⟩, ⟨(some 35), .pick (.t 23) (.t 34) (.v (.bool false)), none, []⟩]) (.cond (.t 35) .skip (.exit 0))) (.block 1 (.seq (.region [⟨(some 36), .nilchk (.t 1), none, []⟩, ⟨(some 37), .faddr 3 (.t 36), none, []⟩, ⟨(some 38), .load 1 false (.t 37), none, []⟩, ⟨(some 39), .nilchk (.t 0), none, []⟩, ⟨(some 40), .faddr 0 (.t 39), none, []⟩, ⟨(some 41), .load 1 false (.t 40), none, []⟩, ⟨(some 42), .nilchk (.t 1), none, []⟩, ⟨(some 43), .faddr 0 (.t 42), none, []⟩, ⟨(some 44), .load 1 false (.t 43), none, []⟩, ⟨(some 45), .nilchk (.t 1), none, []⟩, ⟨(some 46), .faddr 1 (.t 45), none, []⟩, ⟨(some 47), .load 1 false (.t 46), none, []⟩, ⟨(some 48), .call 93 [(.t 41), (.t 44), (.t 47)], none, [(38, none, .load 1 false (.t 37))]⟩, ⟨(some 49), .lit 1 [(.int .i64 0)] 1 [(0, 1, (.t 48))], none, []⟩, ⟨(some 50), .app 1 8 (.t 38) (.t 49), none, []⟩, ⟨(some 51), .nilchk (.t 1), none, []⟩, ⟨(some 52), .faddr 3 (.t 51), none, []⟩, ⟨none, .store 1 (.t 52) (.t 50), none, []⟩]) (.region [⟨(some 53), .nilchk (.t 1), none, []⟩, ⟨(some 54), .faddr 1 (.t 53), none, []⟩, ⟨(some 55), .load 1 false (.t 54), none, []⟩, ⟨(some 56), .bin .add (.t 55) (.v (.int .i64 1)), none, []⟩, ⟨(some 57), .nilchk (.t 1), none, []⟩, ⟨(some 58), .faddr 1 (.t 57), none, []⟩, ⟨none, .store 1 (.t 58) (.t 56), none, []⟩])))))) .skip)) (.seq (.seq (.region [⟨(some 59), .nilchk (.t 1), none, []⟩, ⟨(some 60), .faddr 1 (.t 59), none, []⟩, ⟨(some 61), .load 1 false (.t 60), none, []⟩, ⟨(some 62), .nilchk (.t 1), none, []⟩, ⟨(some 63), .faddr 2 (.t 62), none, []⟩, ⟨(some 64), .load 1 false (.t 63), none, []⟩, ⟨(some 65), .len 1 (.t 64), none, []⟩, ⟨(some 66), .bin .eql (.t 61) (.t 65), none, []⟩]) (.cond (.t 66) (.seq (.region [⟨(some 2), .mov (.v (.bool false)), none, []⟩]) .ret) .skip)) (.seq (.region [⟨(some 67), .nilchk (.t 1), none, []⟩, ⟨(some 68), .faddr 2 (.t 67), none, []⟩, ⟨(some 69), .load 1 false (.t 68), none, []⟩, ⟨(some 70), .nilchk (.t 1), none, []⟩, ⟨(some 71), .faddr 1 (.t 70), none, []⟩, ⟨(some 72), .load 1 false (.t 71), none, []⟩, ⟨(some 73), .iaddr 1 (.t 69) (.t 72), none, []⟩, ⟨(some 74), .load 1 false (.t 73), none, []⟩, ⟨(some 75), .nilchk (.t 0), none, []⟩, ⟨(some 76), .faddr 2 (.t 75), none, []⟩, ⟨none, .store 1 (.t 76) (.t 74), none, []⟩]) (.seq (.region [⟨(some 2), .mov (.v (.bool true)), none, []⟩]) .ret))))) }
/-- (*puppeteer/vm.Run).row -/
def c211 : OFunc := { np := 2, dep := 1, results := [(.t 2)], body := (.seq (.region [⟨(some 2), .mov (.v (.bool false)), none, []⟩]) (.seq (.seq (.region [⟨(some 3), .nilchk (.t 0), none, []⟩, ⟨(some 4), .faddr 5 (.t 3), none, []⟩, ⟨(some 5), .load 1 false (.t 4), none, []⟩, ⟨(some 6), .nilchk (.t 1), none, []⟩, ⟨(some 7), .faddr 0 (.t 6), none, []⟩, ⟨(some 8), .load 1 false (.t 7), none, []⟩, ⟨(some 9), .call 255 [(.t 0), (.t 8)], none, [(5, none, .load 1 false (.t 4))]⟩, ⟨(some 10), .bin .neq (.t 5) (.t 9), none, []⟩]) (.cond (.t 10) (.seq (.region [⟨(some 11), .nilchk (.t 0), none, []⟩, ⟨(some 12), .faddr 0 (.t 11), none, []⟩, ⟨(some 13), .load 1 false (.t 12), none, []⟩, ⟨(some 14), .nilchk (.t 1), none, []⟩, ⟨(some 15), .faddr 2 (.t 14), none, []⟩, ⟨(some 16), .load 1 false (.t 15), none, []⟩, ⟨(some 17), .nilchk (.t 1), none, []⟩, ⟨(some 18), .faddr 1 (.t 17), none, []⟩, ⟨(some 19), .load 1 false (.t 18), none, []⟩, ⟨(some 20), .bin .add (.t 19) (.v (.int .i64 1)), none, []⟩, ⟨(some 21), .slice 1 (.t 16) (some (.t 20)) none none, none, []⟩, ⟨(some 22), .call 91 [(.t 13), (.t 21)], none, []⟩]) (.seq (.region [⟨(some 2), .mov (.v (.bool false)), none, []⟩]) .ret)) .skip)) (.seq (.region [⟨(some 23), .nilchk (.t 1), none, []⟩, ⟨(some 24), .faddr 1 (.t 23), none, []⟩, ⟨(some 25), .load 1 false (.t 24), none, []⟩, ⟨(some 26), .bin .add (.t 25) (.v (.int .i64 1)), none, []⟩, ⟨(some 27), .nilchk (.t 1), none, []⟩, ⟨(some 28), .faddr 1 (.t 27), none, []⟩, ⟨none, .store 1 (.t 28) (.t 26), none, []⟩]) (.seq (.region [⟨(some 2), .call 210 [(.t 0), (.t 1)], none, []⟩]) .ret)))) }
/-- puppeteer/valid.none -/
def c215 : OFunc := { np := 1, dep := 1, results := [(.t 2)], body := (.seq (.region [⟨(some 1), .box (.t 0), none, []⟩, ⟨(some 2), .mov (.v (.bool false)), none, []⟩]) (.seq (.region [⟨(some 3), .faddr 0 (.t 1), none, []⟩, ⟨(some 4), .load 1 false (.t 3), none, []⟩, ⟨(some 5), .bin .eql (.t 4) (.v (.int .i64 0)), none, []⟩, ⟨(some 6), .faddr 1 (.t 1), (some (5, true)), []⟩, ⟨(some 7), .load 1 false (.t 6), (some (5, true)), []⟩, ⟨(some 8), .bin .eql (.t 7) (.v (.int .i64 0)), (some (5, true)), []⟩, ⟨(some 9), .pick (.t 5) (.t 8) (.v (.bool false)), none, []⟩, ⟨(some 10), .faddr 2 (.t 1), (some (9, true)), []⟩, ⟨(some 11), .load 1 false (.t 10), (some (9, true)), []⟩, ⟨(some 12), .bin .eql (.t 11) (.v (.str [])), (some (9, true)), []⟩, ⟨(some 13), .pick (.t 9) (.t 12) (.v (.bool false)), none, []⟩, ⟨(some 14), .faddr 3 (.t 1), (some (13, true)), []⟩, ⟨(some 15), .load 1 false (.t 14), (some (13, true)), []⟩, ⟨(some 16), .len 1 (.t 15), (some (13, true)), []⟩, ⟨(some 17), .bin .eql (.t 16) (.v (.int .i64 0)), (some (13, true)), []⟩, ⟨(some 2), .pick (.t 13) (.t 17) (.v (.bool false)), none, []⟩]) .ret)) }
/-- puppeteer/expr.shallow -/
def c227 : OFunc := { np := 2, dep := 2, results := [(.t 3)], body := (.seq (.region [⟨(some 2), .box (.t 0), none, []⟩, ⟨(some 3), .mov (.v (.bool false)), none, []⟩]) (.seq (.region [⟨(some 4), .call 268 [], none, []⟩]) (.seq (.seq (.region [⟨(some 7), .bin .eql (.t 1) (.v (.int .i64 0)), none, []⟩, ⟨(some 8), .faddr 0 (.t 2), (some (7, false)), []⟩, ⟨(some 9), .load 1 false (.t 8), (some (7, false)), []⟩, ⟨(some 10), .bin .lss (.t 9) (.v (.int .i64 0)), (some (7, false)), []⟩, ⟨(some 11), .pick (.t 7) (.v (.bool true)) (.t 10), none, []⟩, ⟨(some 12), .faddr 0 (.t 2), (some (11, false)), []⟩, ⟨(some 13), .load 1 false (.t 12), (some (11, false)), []⟩, ⟨(some 14), .len 1 (.t 4), (some (11, false)), []⟩, ⟨(some 15), .bin .geq (.t 13) (.t 14), (some (11, false)), []⟩, ⟨(some 16), .pick (.t 11) (.v (.bool true)) (.t 15), none, []⟩, ⟨(some 17), .faddr 3 (.t 2), (some (16, false)), []⟩, ⟨(some 18), .load 1 false (.t 17), (some (16, false)), []⟩, ⟨(some 19), .len 1 (.t 18), (some (16, false)), []⟩, ⟨(some 20), .faddr 0 (.t 2), (some (16, false)), []⟩, ⟨(some 21), .load 1 false (.t 20), (some (16, false)), []⟩, ⟨(some 22), .iaddr 2 (.t 4) (.t 21), (some (16, false)), []⟩, ⟨(some 23), .faddr 0 (.t 22), (some (16, false)), []⟩, ⟨(some 24), .load 1 false (.t 23), (some (16, false)), []⟩, ⟨(some 25), .bin .neq (.t 19) (.t 24), (some (16, false)), []⟩, ⟨(some 26), .pick (.t 16) (.v (.bool true)) (.t 25), none, []⟩]) (.cond (.t 26) (.seq (.region [⟨(some 3), .mov (.v (.bool false)), none, []⟩]) .ret) .skip)) (.seq (.region [⟨(some 27), .build [(.int .i64 0), (.int .i64 0), (.str []), .nilsl] [], none, []⟩, ⟨(some 5), .alloc [(.int .i64 0), (.int .i64 0), (.str []), .nilsl], none, []⟩, ⟨none, .store 4 (.t 5) (.t 27), none, []⟩]) (.seq (.seq (.region [⟨(some 28), .faddr 0 (.t 2), none, []⟩, ⟨(some 29), .load 1 false (.t 28), none, []⟩]) (.block 0 (.seq (.region [⟨(some 30), .bin .eql (.t 29) (.v (.int .i64 0)), none, []⟩]) (.cond (.t 30) (.region [⟨(some 31), .faddr 1 (.t 2), none, []⟩, ⟨(some 32), .load 1 false (.t 31), none, []⟩, ⟨(some 33), .mm true [(.t 32), (.v (.int .i64 (-9223372036854775807)))], none, []⟩, ⟨(some 34), .faddr 1 (.t 5), none, []⟩, ⟨none, .store 1 (.t 34) (.t 33), none, []⟩]) (.seq (.region [⟨(some 35), .bin .eql (.t 29) (.v (.int .i64 1)), none, []⟩]) (.cond (.t 35) (.region [⟨(some 36), .faddr 1 (.t 2), none, []⟩, ⟨(some 37), .load 1 false (.t 36), none, []⟩, ⟨(some 38), .bin .and (.t 37) (.v (.int .i64 1)), none, []⟩, ⟨(some 39), .faddr 1 (.t 5), none, []⟩, ⟨none, .store 1 (.t 39) (.t 38), none, []⟩]) (.seq (.seq (.region [⟨(some 40), .bin .eql (.t 29) (.v (.int .i64 2)), none, []⟩]) (.cond (.t 40) .skip (.region [⟨(some 40), .bin .eql (.t 29) (.v (.int .i64 3)), none, []⟩]))) (.cond (.t 40) (.seq (.seq (.region [⟨(some 41), .faddr 2 (.t 2), none, []⟩, ⟨(some 42), .load 1 false (.t 41), none, []⟩, ⟨(some 43), .call 128 [(.t 42)], none, []⟩, ⟨(some 44), .un .not (.t 43), none, []⟩]) (.cond (.t 44) (.seq (.region [⟨(some 3), .mov (.v (.bool false)), none, []⟩]) .ret) .skip)) (.region [⟨(some 45), .faddr 2 (.t 2), none, []⟩, ⟨(some 46), .load 1 false (.t 45), none, []⟩, ⟨(some 47), .faddr 2 (.t 5), none, []⟩, ⟨none, .store 1 (.t 47) (.t 46), none, []⟩])) .skip)))))))) (.seq (.seq (.region [⟨(some 48), .faddr 1 (.t 5), none, []⟩, ⟨(some 49), .load 1 false (.t 48), none, []⟩, ⟨(some 50), .faddr 1 (.t 2), none, []⟩, ⟨(some 51), .load 1 false (.t 50), none, []⟩, ⟨(some 52), .bin .neq (.t 49) (.t 51), none, []⟩, ⟨(some 53), .faddr 2 (.t 5), (some (52, false)), []⟩, ⟨(some 54), .load 1 false (.t 53), (some (52, false)), []⟩, ⟨(some 55), .faddr 2 (.t 2), (some (52, false)), []⟩, ⟨(some 56), .load 1 false (.t 55), (some (52, false)), []⟩, ⟨(some 57), .bin .neq (.t 54) (.t 56), (some (52, false)), []⟩, ⟨(some 58), .pick (.t 52) (.v (.bool true)) (.t 57), none, []⟩]) (.cond (.t 58) (.seq (.region [⟨(some 3), .mov (.v (.bool false)), none, []⟩]) .ret) .skip)) (.seq (.seq (.region [⟨(some 59), .faddr 3 (.t 2), none, []⟩, ⟨(some 60), .load 1 false (.t 59), none, []⟩, ⟨(some 61), .len 1 (.t 60), none, []⟩, ⟨(some 62), .mov (.v (.int .i64 0)), none, []⟩]) (.block 1 (.loop (.seq (.region [⟨(some 63), .bin .lss (.t 62) (.t 61), none, []⟩]) (.seq (.cond (.t 63) .skip (.exit 1)) (.seq (.block 2 (.seq (.region [⟨(some 64), .iaddr 4 (.t 60) (.t 62), none, []⟩, ⟨(some 65), .load 4 true (.t 64), none, []⟩, ⟨(some 6), .alloc [(.int .i64 0), (.int .i64 0), (.str []), .nilsl], none, []⟩, ⟨none, .store 4 (.t 6) (.t 65), none, []⟩]) (.seq (.region [⟨(some 66), .load 4 true (.t 6), none, []⟩, ⟨(some 67), .bin .sub (.t 1) (.v (.int .i64 1)), none, []⟩, ⟨(some 68), .call 227 [(.t 66), (.t 67)], none, []⟩, ⟨(some 69), .un .not (.t 68), none, []⟩]) (.cond (.t 69) (.seq (.region [⟨(some 3), .mov (.v (.bool false)), none, []⟩]) .ret) .skip)))) (.region [⟨(some 62), .bin .add (.t 62) (.v (.int .i64 1)), none, []⟩]))))))) (.seq (.region [⟨(some 3), .mov (.v (.bool true)), none, []⟩]) .ret)))))))) }
/-- puppeteer/calc.plain -/
def c228 : OFunc := { np := 2, dep := 1, results := [(.cell 4 5 true), (.t 5)], body := (.seq (.region [⟨(some 2), .box (.t 0), none, []⟩, ⟨(some 3), .box (.t 1), none, []⟩, ⟨(some 4), .alloc [(.int .i64 0), (.int .i64 0), (.int .i64 0), (.str []), (.cpx .f64 0 0)], none, []⟩, ⟨(some 5), .mov (.v (.int .i64 0)), none, []⟩]) (.seq (.region [⟨(some 8), .build [(.int .i64 0), (.int .i64 0), (.int .i64 0), (.str []), (.cpx .f64 0 0)] [], none, []⟩, ⟨(some 6), .alloc [(.int .i64 0), (.int .i64 0), (.int .i64 0), (.str []), (.cpx .f64 0 0)], none, []⟩, ⟨none, .store 5 (.t 6) (.t 8), none, []⟩]) (.seq (.seq (.region [⟨(some 9), .faddr 0 (.t 2), none, []⟩, ⟨(some 10), .load 1 false (.t 9), none, []⟩]) (.block 0 (.seq (.region [⟨(some 14), .bin .eql (.t 10) (.v (.int .i64 1)), none, []⟩]) (.cond (.t 14) (.region [⟨(some 15), .faddr 1 (.t 2), none, []⟩, ⟨(some 16), .load 1 false (.t 15), none, []⟩, ⟨(some 17), .bin .eql (.t 16) (.v (.int .i64 1)), none, []⟩, ⟨(some 18), .call 269 [(.t 17)], none, []⟩, ⟨none, .store 5 (.t 6) (.t 18), none, []⟩]) (.seq (.region [⟨(some 19), .bin .eql (.t 10) (.v (.int .i64 3)), none, []⟩]) (.cond (.t 19) (.region [⟨(some 20), .faddr 2 (.t 2), none, []⟩, ⟨(some 21), .load 1 false (.t 20), none, []⟩, ⟨(some 22), .build [(.int .i64 0), (.int .i64 0), (.int .i64 0), (.str []), (.cpx .f64 0 0)] [(0, 1, (.v (.int .i64 3))), (3, 1, (.t 21))], none, []⟩, ⟨none, .store 5 (.t 6) (.t 22), none, []⟩]) (.seq (.region [⟨(some 23), .bin .eql (.t 10) (.v (.int .i64 5)), none, []⟩]) (.cond (.t 23) (.region [⟨(some 24), .faddr 2 (.t 3), none, []⟩, ⟨(some 25), .load 1 false (.t 24), none, []⟩, ⟨(some 26), .call 270 [(.t 25)], none, []⟩, ⟨none, .store 5 (.t 6) (.t 26), none, []⟩]) (.seq (.region [⟨(some 27), .bin .eql (.t 10) (.v (.int .i64 4)), none, []⟩]) (.cond (.t 27) (.region [⟨(some 28), .faddr 0 (.t 3), none, []⟩, ⟨(some 29), .faddr 0 (.t 28), none, []⟩, ⟨(some 30), .load 1 false (.t 29), none, []⟩, ⟨(some 31), .faddr 0 (.t 3), none, []⟩, ⟨(some 32), .faddr 1 (.t 31), none, []⟩, ⟨(some 33), .load 1 false (.t 32), none, []⟩, ⟨(some 34), .build [(.int .i64 0), (.int .i64 0), (.int .i64 0), (.str []), (.cpx .f64 0 0)] [(0, 1, (.v (.int .i64 2))), (1, 1, (.t 30)), (2, 1, (.t 33))], none, []⟩, ⟨none, .store 5 (.t 6) (.t 34), none, []⟩]) (.seq (.region [⟨(some 35), .bin .eql (.t 10) (.v (.int .i64 2)), none, []⟩]) (.cond (.t 35) (.seq (.region [⟨(some 36), .faddr 3 (.t 3), none, []⟩, ⟨(some 37), .load 1 false (.t 36), none, []⟩, ⟨(some 38), .faddr 2 (.t 2), none, []⟩, ⟨(some 39), .load 1 false (.t 38), none, []⟩, ⟨(some 7), .call 166 [(.t 37), (.t 39)], none, []⟩]) (.seq (.seq (.region [⟨(some 40), .bin .lss (.t 7) (.v (.int .i64 0)), none, []⟩]) (.cond (.t 40) (.seq (.region [⟨(some 41), .build [(.int .i64 0), (.int .i64 0), (.int .i64 0), (.str []), (.cpx .f64 0 0)] [], none, []⟩, ⟨none, .store 5 (.t 4) (.t 41), none, []⟩, ⟨(some 5), .mov (.v (.int .i64 5)), none, []⟩]) .ret) .skip)) (.region [⟨(some 42), .faddr 3 (.t 3), none, []⟩, ⟨(some 43), .load 1 false (.t 42), none, []⟩, ⟨(some 44), .iaddr 6 (.t 43) (.t 7), none, []⟩, ⟨(some 45), .faddr 1 (.t 44), none, []⟩, ⟨(some 46), .load 5 true (.t 45), none, []⟩, ⟨none, .store 5 (.t 6) (.t 46), none, []⟩]))) (.region [⟨(some 11), .faddr 1 (.t 2), none, []⟩, ⟨(some 12), .load 1 false (.t 11), none, []⟩, ⟨(some 13), .call 270 [(.t 12)], none, []⟩, ⟨none, .store 5 (.t 6) (.t 13), none, []⟩]))))))))))))) (.seq (.seq (.region [⟨(some 47), .load 5 true (.t 6), none, []⟩, ⟨(some 48), .call 137 [(.t 47)], none, []⟩, ⟨(some 49), .un .not (.t 48), none, []⟩]) (.cond (.t 49) (.seq (.region [⟨(some 50), .build [(.int .i64 0), (.int .i64 0), (.int .i64 0), (.str []), (.cpx .f64 0 0)] [], none, []⟩, ⟨none, .store 5 (.t 4) (.t 50), none, []⟩, ⟨(some 5), .mov (.v (.int .i64 7)), none, []⟩]) .ret) .skip)) (.seq (.region [⟨(some 51), .load 5 true (.t 6), none, []⟩, ⟨none, .store 5 (.t 4) (.t 51), none, []⟩, ⟨(some 5), .mov (.v (.int .i64 0)), none, []⟩]) .ret))))) }
/-- (*puppeteer/schema.Schema).check -/
def c230 : OFunc := { np := 2, dep := 1, results := [(.t 3)], body := (.seq (.region [⟨(some 2), .box (.t 1), none, []⟩, ⟨(some 3), .mov (.v (.int .i64 0)), none, []⟩]) (.seq (.block 0 (.seq (.region [⟨(some 6), .faddr 0 (.t 2), none, []⟩, ⟨(some 7), .load 1 false (.t 6), none, []⟩, ⟨(some 8), .call 203 [(.t 7)], none, []⟩, ⟨(some 5), .un .not (.t 8), none, []⟩]) (.cond (.t 5) (.seq (.region [⟨(some 3), .mov (.v (.int .i64 5)), none, []⟩]) .ret) (.seq (.region [⟨(some 10), .faddr 1 (.t 2), none, []⟩, ⟨(some 11), .load 1 false (.t 10), none, []⟩, ⟨(some 12), .bin .lss (.t 11) (.v (.int .i64 0)), none, []⟩, ⟨(some 13), .faddr 1 (.t 2), (some (12, false)), []⟩, ⟨(some 14), .load 1 false (.t 13), (some (12, false)), []⟩, ⟨(some 15), .bin .gtr (.t 14) (.v (.int .i64 4)), (some (12, false)), []⟩, ⟨(some 9), .pick (.t 12) (.v (.bool true)) (.t 15), none, []⟩]) (.cond (.t 9) (.seq (.region [⟨(some 3), .mov (.v (.int .i64 7)), none, []⟩]) .ret) .skip))))) (.seq (.seq (.region [⟨(some 16), .nilchk (.t 0), none, []⟩, ⟨(some 17), .faddr 1 (.t 16), none, []⟩, ⟨(some 18), .load 1 false (.t 17), none, []⟩, ⟨(some 19), .faddr 0 (.t 2), none, []⟩, ⟨(some 20), .load 1 false (.t 19), none, []⟩, ⟨(some 21), .mapget 2 (.int .i64 0) true (.t 18) (.t 20), none, []⟩, ⟨(some 22), .extract (.t 21) 0, none, []⟩, ⟨(some 23), .extract (.t 21) 1, none, []⟩, ⟨(some 4), .mov (.t 23), none, []⟩]) (.seq (.region [⟨(some 24), .mov (.t 4), none, []⟩]) (.cond (.t 24) (.seq (.region [⟨(some 3), .mov (.v (.int .i64 6)), none, []⟩]) .ret) .skip))) (.seq (.region [⟨(some 3), .mov (.v (.int .i64 0)), none, []⟩]) .ret)))) }
/-- strings.makeASCIISet -/
def c232 : OFunc := { np := 1, dep := 1, results := [(.cell 1 256 true), (.t 2)], body := (.seq (.region [⟨(some 1), .alloc [(.bool false), (.bool false), (.bool false), (.bool false), (.bool false), (.bool false), (.bool false), (.bool false), (.bool false), (.bool false), (.bool false), (.bool false), (.bool false), (.bool false), (.bool false), (.bool false), (.bool false), (.bool false), (.bool false), (.bool false), (.bool false), (.bool false), (.bool false), (.bool false), (.bool false), (.bool false), (.bool false), (.bool false), (.bool false), (.bool false), (.bool false), (.bool false), (.bool false), (.bool false), (.bool false), (.bool false), (.bool false), (.bool false), (.bool false), (.bool false), (.bool false), (.bool false), (.bool false), (.bool false), (.bool false), (.bool false), (.bool false), (.bool false), (.bool false), (.bool false), (.bool false), (.bool false), (.bool false), (.bool false), (.bool false), (.bool false), (.bool false), (.bool false), (.bool false), (.bool false), (.bool false), (.bool false), (.bool false), (.bool false), (.bool false), (.bool false), (.bool false), (.bool false), (.bool false), (.bool false), (.bool false), (.bool false), (.bool false), (.bool false), (.bool false), (.bool false), (.bool false), (.bool false), (.bool false), (.bool false), (.bool false), (.bool false), (.bool false), (.bool false), (.bool false), (.bool false), (.bool false), (.bool false), (.bool false), (.bool false), (.bool false), (.bool false), (.bool false), (.bool false), (.bool false), (.bool false), (.bool false), (.bool false), (.bool false), (.bool false), (.bool false), (.bool false), (.bool false), (.bool false), (.bool false), (.bool false), (.bool false), (.bool false), (.bool false), (.bool false), (.bool false), (.bool false), (.bool false), (.bool false), (.bool false), (.bool false), (.bool false), (.bool false), (.bool false), (.bool false), (.bool false), (.bool false), (.bool false), (.bool false), (.bool false), (.bool false), (.bool false), (.bool false), (.bool false), (.bool false), (.bool false), (.bool false), (.bool false), (.bool false), (.bool false), (.bool false), (.bool false), (.bool false), (.bool false), (.bool false), (.bool false), (.bool false), (.bool false), (.bool false), (.bool false), (.bool false), (.bool false), (.bool false), (.bool false), (.bool false), (.bool false), (.bool false), (.bool false), (.bool false), (.bool false), (.bool false), (.bool false), (.bool false), (.bool false), (.bool false), (.bool false), (.bool false), (.bool false), (.bool false), (.bool false), (.bool false), (.bool false), (.bool false), (.bool false), (.bool false), (.bool false), (.bool false), (.bool false), (.bool false), (.bool false), (.bool false), (.bool false), (.bool false), (.bool false), (.bool false), (.bool false), (.bool false), (.bool false), (.bool false), (.bool false), (.bool false), (.bool false), (.bool false), (.bool false), (.bool false), (.bool false), (.bool false), (.bool false), (.bool false), (.bool false), (.bool false), (.bool false), (.bool false), (.bool false), (.bool false), (.bool false), (.bool false), (.bool false), (.bool false), (.bool false), (.bool false), (.bool false), (.bool false), (.bool false), (.bool false), (.bool false), (.bool false), (.bool false), (.bool false), (.bool false), (.bool false), (.bool false), (.bool false), (.bool false), (.bool false), (.bool false), (.bool false), (.bool false), (.bool false), (.bool false), (.bool false), (.bool false), (.bool false), (.bool false), (.bool false), (.bool false), (.bool false), (.bool false), (.bool false), (.bool false), (.bool false), (.bool false), (.bool false), (.bool false), (.bool false), (.bool false), (.bool false), (.bool false), (.bool false), (.bool false), (.bool false), (.bool false), (.bool false), (.bool false), (.bool false), (.bool false), (.bool false), (.bool false), (.bool false), (.bool false), (.bool false)], none, []⟩, ⟨(some 2), .mov (.v (.bool false)), none, []⟩]) (.seq (.seq (.region [⟨(some 3), .mov (.v (.int .i64 0)), none, []⟩]) (.block 0 (.loop (.seq (.seq (.region [⟨(some 5), .len 0 (.t 0), none, []⟩, ⟨(some 6), .bin .lss (.t 3) (.t 5), none, []⟩]) (.cond (.t 6) .skip (.exit 0))) (.seq (.block 1 (.seq (.region [⟨(some 4), .index (.t 0) (.t 3), none, []⟩]) (.seq (.seq (.region [⟨(some 7), .bin .geq (.t 4) (.v (.int .u8 128)), none, []⟩]) (.cond (.t 7) (.seq (.region [⟨(some 8), .load 256 true (.t 1), none, []⟩, ⟨none, .store 256 (.t 1) (.t 8), none, []⟩, ⟨(some 2), .mov (.v (.bool false)), none, []⟩]) .ret) .skip)) (.region [⟨(some 9), .iaddrA 1 256 (.t 1) (.t 4), none, []⟩, ⟨none, .store 1 (.t 9) (.v (.bool true)), none, []⟩])))) (.region [⟨(some 3), .bin .add (.t 3) (.v (.int .i64 1)), none, []⟩])))))) (.seq (.region [⟨(some 10), .load 256 true (.t 1), none, []⟩, ⟨none, .store 256 (.t 1) (.t 10), none, []⟩, ⟨(some 2), .mov (.v (.bool true)), none, []⟩]) .ret))) }
/-- strings.trimLeftASCII -/
def c233 : OFunc := { np := 2, dep := 0, results := [(.t 2)], body := (.seq (.region [⟨(some 2), .mov (.v (.str [])), none, []⟩]) (.seq (.block 0 (.loop (.seq (.seq (.region [⟨(some 3), .len 0 (.t 0), none, []⟩, ⟨(some 4), .bin .gtr (.t 3) (.v (.int .i64 0)), none, []⟩]) (.cond (.t 4) .skip (.exit 0))) (.block 1 (.seq (.seq (.region [⟨(some 5), .index (.t 0) (.v (.int .i64 0)), none, []⟩, ⟨(some 6), .call 275 [(.t 1), (.t 5)], none, []⟩, ⟨(some 7), .un .not (.t 6), none, []⟩]) (.cond (.t 7) (.exit 0) .skip)) (.region [⟨(some 0), .sliceS (.t 0) (some (.v (.int .i64 1))) none, none, []⟩])))))) (.seq (.region [⟨(some 2), .mov (.t 0), none, []⟩]) .ret))) }
/-- internal/stringslite.HasPrefix -/
def c235 : OFunc := { np := 2, dep := 1, results := [(.t 2)], body := (.seq (.region [⟨(some 2), .mov (.v (.bool false)), none, []⟩]) (.seq (.region [⟨(some 3), .len 0 (.t 0), none, []⟩, ⟨(some 4), .len 0 (.t 1), none, []⟩, ⟨(some 5), .bin .geq (.t 3) (.t 4), none, []⟩, ⟨(some 6), .len 0 (.t 1), (some (5, true)), []⟩, ⟨(some 7), .sliceS (.t 0) none (some (.t 6)), (some (5, true)), []⟩, ⟨(some 8), .bin .eql (.t 7) (.t 1), (some (5, true)), []⟩, ⟨(some 2), .pick (.t 5) (.t 8) (.v (.bool false)), none, []⟩]) .ret)) }
/-- puppeteer/value.Goes -/
def c237 : OFunc := { np := 1, dep := 0, results := [(.t 1)], body := (.seq (.region [⟨(some 1), .mov (.v (.bool false)), none, []⟩]) (.seq (.region [⟨(some 2), .call 252 [(.t 0)], none, []⟩, ⟨(some 3), .bin .geq (.t 0) (.v (.int .u8 48)), (some (2, false)), []⟩, ⟨(some 4), .bin .leq (.t 0) (.v (.int .u8 57)), (some (3, true)), []⟩, ⟨(some 5), .pick (.t 3) (.t 4) (.v (.bool false)), (some (2, false)), []⟩, ⟨(some 6), .pick (.t 2) (.v (.bool true)) (.t 5), none, []⟩, ⟨(some 7), .bin .eql (.t 0) (.v (.int .u8 95)), (some (6, false)), []⟩, ⟨(some 1), .pick (.t 6) (.v (.bool true)) (.t 7), none, []⟩]) .ret)) }
/-- strings.Fields -/
def c238 : OFunc := { np := 1, dep := 1, results := [(.t 1)], body := (.seq (.region [⟨(some 1), .mov (.v .nilsl), none, []⟩]) (.seq (.region [⟨(some 2), .mov (.v (.int .i64 0)), none, []⟩]) (.seq (.region [⟨(some 3), .mov (.v (.int .i64 1)), none, []⟩]) (.seq (.region [⟨(some 4), .mov (.v (.int .u8 0)), none, []⟩]) (.seq (.seq (.region [⟨(some 5), .mov (.v (.int .i64 0)), none, []⟩]) (.block 0 (.loop (.seq (.seq (.region [⟨(some 12), .len 0 (.t 0), none, []⟩, ⟨(some 13), .bin .lss (.t 5) (.t 12), none, []⟩]) (.cond (.t 13) .skip (.exit 0))) (.seq (.block 1 (.seq (.region [⟨(some 6), .index (.t 0) (.t 5), none, []⟩]) (.seq (.region [⟨(some 4), .bin .or (.t 4) (.t 6), none, []⟩]) (.seq (.region [⟨(some 14), .iaddrA 1 256 (.v (.fptr [(.int .u8 0), (.int .u8 0), (.int .u8 0), (.int .u8 0), (.int .u8 0), (.int .u8 0), (.int .u8 0), (.int .u8 0), (.int .u8 0), (.int .u8 1), (.int .u8 1), (.int .u8 1), (.int .u8 1), (.int .u8 1), (.int .u8 0), (.int .u8 0), (.int .u8 0), (.int .u8 0), (.int .u8 0), (.int .u8 0), (.int .u8 0), (.int .u8 0), (.int .u8 0), (.int .u8 0), (.int .u8 0), (.int .u8 0), (.int .u8 0), (.int .u8 0), (.int .u8 0), (.int .u8 0), (.int .u8 0), (.int .u8 0), (.int .u8 1), (.int .u8 0), (.int .u8 0), (.int .u8 0), (.int .u8 0), (.int .u8 0), (.int .u8 0), (.int .u8 0), (.int .u8 0), (.int .u8 0), (.int .u8 0), (.int .u8 0), (.int .u8 0), (.int .u8 0), (.int .u8 0), (.int .u8 0), (.int .u8 0), (.int .u8 0), (.int .u8 0), (.int .u8 0), (.int .u8 0), (.int .u8 0), (.int .u8 0), (.int .u8 0), (.int .u8 0), (.int .u8 0), (.int .u8 0), (.int .u8 0), (.int .u8 0), (.int .u8 0), (.int .u8 0), (.int .u8 0), (.int .u8 0), (.int .u8 0), (.int .u8 0), (.int .u8 0), (.int .u8 0), (.int .u8 0), (.int .u8 0), (.int .u8 0), (.int .u8 0), (.int .u8 0), (.int .u8 0), (.int .u8 0), (.int .u8 0), (.int .u8 0), (.int .u8 0), (.int .u8 0), (.int .u8 0), (.int .u8 0), (.int .u8 0), (.int .u8 0), (.int .u8 0), (.int .u8 0), (.int .u8 0), (.int .u8 0), (.int .u8 0), (.int .u8 0), (.int .u8 0), (.int .u8 0), (.int .u8 0), (.int .u8 0), (.int .u8 0), (.int .u8 0), (.int .u8 0), (.int .u8 0), (.int .u8 0), (.int .u8 0), (.int .u8 0), (.int .u8 0), (.int .u8 0), (.int .u8 0), (.int .u8 0), (.int .u8 0), (.int .u8 0), (.int .u8 0), (.int .u8 0), (.int .u8 0), (.int .u8 0), (.int .u8 0), (.int .u8 0), (.int .u8 0), (.int .u8 0), (.int .u8 0), (.int .u8 0), (.int .u8 0), (.int .u8 0), (.int .u8 0), (.int .u8 0), (.int .u8 0), (.int .u8 0), (.int .u8 0), (.int .u8 0), (.int .u8 0), (.int .u8 0), (.int .u8 0), (.int .u8 0), (.int .u8 0), (.int .u8 0), (.int .u8 0), (.int .u8 0), (.int .u8 0), (.int .u8 0), (.int .u8 0), (.int .u8 0), (.int .u8 0), (.int .u8 0), (.int .u8 0), (.int .u8 0), (.int .u8 0), (.int .u8 0), (.int .u8 0), (.int .u8 0), (.int .u8 0), (.int .u8 0), (.int .u8 0), (.int .u8 0), (.int .u8 0), (.int .u8 0), (.int .u8 0), (.int .u8 0), (.int .u8 0), (.int .u8 0), (.int .u8 0), (.int .u8 0), (.int .u8 0), (.int .u8 0), (.int .u8 0), (.int .u8 0), (.int .u8 0), (.int .u8 0), (.int .u8 0), (.int .u8 0), (.int .u8 0), (.int .u8 0), (.int .u8 0), (.int .u8 0), (.int .u8 0), (.int .u8 0), (.int .u8 0), (.int .u8 0), (.int .u8 0), (.int .u8 0), (.int .u8 0), (.int .u8 0), (.int .u8 0), (.int .u8 0), (.int .u8 0), (.int .u8 0), (.int .u8 0), (.int .u8 0), (.int .u8 0), (.int .u8 0), (.int .u8 0), (.int .u8 0), (.int .u8 0), (.int .u8 0), (.int .u8 0), (.int .u8 0), (.int .u8 0), (.int .u8 0), (.int .u8 0), (.int .u8 0), (.int .u8 0), (.int .u8 0), (.int .u8 0), (.int .u8 0), (.int .u8 0), (.int .u8 0), (.int .u8 0), (.int .u8 0), (.int .u8 0), (.int .u8 0), (.int .u8 0), (.int .u8 0), (.int .u8 0), (.int .u8 0), (.int .u8 0), (.int .u8 0), (.int .u8 0), (.int .u8 0), (.int .u8 0), (.int .u8 0), (.int .u8 0), (.int .u8 0), (.int .u8 0), (.int .u8 0), (.int .u8 0), (.int .u8 0), (.int .u8 0), (.int .u8 0), (.int .u8 0), (.int .u8 0), (.int .u8 0), (.int .u8 0), (.int .u8 0), (.int .u8 0), (.int .u8 0), (.int .u8 0), (.int .u8 0), (.int .u8 0), (.int .u8 0), (.int .u8 0), (.int .u8 0), (.int .u8 0), (.int .u8 0), (.int .u8 0), (.int .u8 0), (.int .u8 0), (.int .u8 0), (.int .u8 0), (.int .u8 0), (.int .u8 0), (.int .u8 0), (.int .u8 0), (.int .u8 0), (.int .u8 0), (.int .u8 0), (.int .u8 0), (.int .u8 0), (.int .u8 0), (.int .u8 0), (.int .u8 0), (.int .u8 0)])) (.t 6), none, []⟩, ⟨(some 15), .load 1 false (.t 14), none, []⟩, ⟨(some 7), .conv .i64 (.t 15), none, []⟩]) (.seq (.region [⟨(some 16), .un .xor (.t 7), none, []⟩, ⟨(some 17), .bin .and (.t 3) (.t 16), none, []⟩, ⟨(some 2), .bin .add (.t 2) (.t 17), none, []⟩]) (.region [⟨(some 3), .mov (.t 7), none, []⟩])))))) (.region [⟨(some 5), .bin .add (.t 5) (.v (.int .i64 1)), none, []⟩])))))) (.seq (.seq (.region [⟨(some 18), .bin .geq (.t 4) (.v (.int .u8 128)), none, []⟩]) (.cond (.t 18) (.seq (.region [⟨(some 1), .call 279 [(.t 0), (.v (.fn 280 [] []))], none, []⟩]) .ret) .skip)) (.seq (.region [⟨(some 8), .mkslice 1 16 [(.str [])] (.t 2) (.t 2), none, []⟩]) (.seq (.region [⟨(some 9), .mov (.v (.int .i64 0)), none, []⟩]) (.seq (.region [⟨(some 10), .mov (.v (.int .i64 0)), none, []⟩]) (.seq (.region [⟨(some 11), .mov (.v (.int .i64 0)), none, []⟩]) (.seq (.block 2 (.loop (.seq (.seq (.region [⟨(some 19), .len 0 (.t 0), none, []⟩, ⟨(some 20), .bin .lss (.t 11) (.t 19), none, []⟩, ⟨(some 21), .index (.t 0) (.t 11), (some (20, true)), []⟩, ⟨(some 22), .iaddrA 1 256 (.v (.fptr [(.int .u8 0), (.int .u8 0), (.int .u8 0), (.int .u8 0), (.int .u8 0), (.int .u8 0), (.int .u8 0), (.int .u8 0), (.int .u8 0), (.int .u8 1), (.int .u8 1), (.int .u8 1), (.int .u8 1), (.int .u8 1), (.int .u8 0), (.int .u8 0), (.int .u8 0), (.int .u8 0), (.int .u8 0), (.int .u8 0), (.int .u8 0), (.int .u8 0), (.int .u8 0), (.int .u8 0), (.int .u8 0), (.int .u8 0), (.int .u8 0), (.int .u8 0), (.int .u8 0), (.int .u8 0), (.int .u8 0), (.int .u8 0), (.int .u8 1), (.int .u8 0), (.int .u8 0), (.int .u8 0), (.int .u8 0), (.int .u8 0), (.int .u8 0), (.int .u8 0), (.int .u8 0), (.int .u8 0), (.int .u8 0), (.int .u8 0), (.int .u8 0), (.int .u8 0), (.int .u8 0), (.int .u8 0), (.int .u8 0), (.int .u8 0), (.int .u8 0), (.int .u8 0), (.int .u8 0), (.int .u8 0), (.int .u8 0), (.int .u8 0), (.int .u8 0), (.int .u8 0), (.int .u8 0), (.int .u8 0), (.int .u8 0), (.int .u8 0), (.int .u8 0), (.int .u8 0), (.int .u8 0), (.int .u8 0), (.int .u8 0), (.int .u8 0), (.int .u8 0), (.int .u8 0), (.int .u8 0), (.int .u8 0), (.int .u8 0), (.int .u8 0), (.int .u8 0), (.int .u8 0), (.int .u8 0), (.int .u8 0), (.int .u8 0), (.int .u8 0), (.int .u8 0), (.int .u8 0), (.int .u8 0), (.int .u8 0), (.int .u8 0), (.int .u8 0), (.int .u8 0), (.int .u8 0), (.int .u8 0), (.int .u8 0), (.int .u8 0), (.int .u8 0), (.int .u8 0), (.int .u8 0), (.int .u8 0), (.int .u8 0), (.int .u8 0), (.int .u8 0), (.int .u8 0), (.int .u8 0), (.int .u8 0), (.int .u8 0), (.int .u8 0), (.int .u8 0), (.int .u8 0), (.int .u8 0), (.int .u8 0), (.int .u8 0), (.int .u8 0), (.int .u8 0), (.int .u8 0), (.int .u8 0), (.int .u8 0), (.int .u8 0), (.int .u8 0), (.int .u8 0), (.int .u8 0), (.int .u8 0), (.int .u8 0), (.int .u8 0), (.int .u8 0), (.int .u8 0), (.int .u8 0), (.int .u8 0), (.int .u8 0), (.int .u8 0), (.int .u8 0), (.int .u8 0), (.int .u8 0), (.int .u8 0), (.int .u8 0), (.int .u8 0), (.int .u8 0), (.int .u8 0), (.int .u8 0), (.int .u8 0), (.int .u8 0), (.int .u8 0), (.int .u8 0), (.int .u8 0), (.int .u8 0), (.int .u8 0), (.int .u8 0), (.int .u8 0), (.int .u8 0), (.int .u8 0), (.int .u8 0), (.int .u8 0), (.int .u8 0), (.int .u8 0), (.int .u8 0), (.int .u8 0), (.int .u8 0), (.int .u8 0), (.int .u8 0), (.int .u8 0), (.int .u8 0), (.int .u8 0), (.int .u8 0), (.int .u8 0), (.int .u8 0), (.int .u8 0), (.int .u8 0), (.int .u8 0), (.int .u8 0), (.int .u8 0), (.int .u8 0), (.int .u8 0), (.int .u8 0), (.int .u8 0), (.int .u8 0), (.int .u8 0), (.int .u8 0), (.int .u8 0), (.int .u8 0), (.int .u8 0), (.int .u8 0), (.int .u8 0), (.int .u8 0), (.int .u8 0), (.int .u8 0), (.int .u8 0), (.int .u8 0), (.int .u8 0), (.int .u8 0), (.int .u8 0), (.int .u8 0), (.int .u8 0), (.int .u8 0), (.int .u8 0), (.int .u8 0), (.int .u8 0), (.int .u8 0), (.int .u8 0), (.int .u8 0), (.int .u8 0), (.int .u8 0), (.int .u8 0), (.int .u8 0), (.int .u8 0), (.int .u8 0), (.int .u8 0), (.int .u8 0), (.int .u8 0), (.int .u8 0), (.int .u8 0), (.int .u8 0), (.int .u8 0), (.int .u8 0), (.int .u8 0), (.int .u8 0), (.int .u8 0), (.int .u8 0), (.int .u8 0), (.int .u8 0), (.int .u8 0), (.int .u8 0), (.int .u8 0), (.int .u8 0), (.int .u8 0), (.int .u8 0), (.int .u8 0), (.int .u8 0), (.int .u8 0), (.int .u8 0), (.int .u8 0), (.int .u8 0), (.int .u8 0), (.int .u8 0), (.int .u8 0), (.int .u8 0), (.int .u8 0), (.int .u8 0), (.int .u8 0), (.int .u8 0), (.int .u8 0), (.int .u8 0), (.int .u8 0), (.int .u8 0), (.int .u8 0), (.int .u8 0), (.int .u8 0), (.int .u8 0), (.int .u8 0), (.int .u8 0), (.int .u8 0), (.int .u8 0), (.int .u8 0), (.int .u8 0), (.int .u8 0), (.int .u8 0), (.int .u8 0), (.int .u8 0), (.int .u8 0), (.int .u8 0), (.int .u8 0)])) (.t 21), (some (20, true)), []⟩, ⟨(some 23), .load 1 false (.t 22), (some (20, true)), []⟩, ⟨(some 24), .bin .neq (.t 23) (.v (.int .u8 0)), (some (20, true)), []⟩, ⟨(some 25), .pick (.t 20) (.t 24) (.v (.bool false)), none, []⟩]) (.cond (.t 25) .skip (.exit 2))) (.block 3 (.region [⟨(some 11), .bin .add (.t 11) (.v (.int .i64 1)), none, []⟩]))))) (.seq (.region [⟨(some 10), .mov (.t 11), none, []⟩]) (.seq (.block 4 (.loop (.seq (.seq (.region [⟨(some 26), .len 0 (.t 0), none, []⟩, ⟨(some 27), .bin .lss (.t 11) (.t 26), none, []⟩]) (.cond (.t 27) .skip (.exit 4))) (.block 5 (.seq (.seq (.region [⟨(some 28), .index (.t 0) (.t 11), none, []⟩, ⟨(some 29), .iaddrA 1 256 (.v (.fptr [(.int .u8 0), (.int .u8 0), (.int .u8 0), (.int .u8 0), (.int .u8 0), (.int .u8 0), (.int .u8 0), (.int .u8 0), (.int .u8 0), (.int .u8 1), (.int .u8 1), (.int .u8 1), (.int .u8 1), (.int .u8 1), (.int .u8 0), (.int .u8 0), (.int .u8 0), (.int .u8 0), (.int .u8 0), (.int .u8 0), (.int .u8 0), (.int .u8 0), (.int .u8 0), (.int .u8 0), (.int .u8 0), (.int .u8 0), (.int .u8 0), (.int .u8 0), (.int .u8 0), (.int .u8 0), (.int .u8 0), (.int .u8 0), (.int .u8 1), (.int .u8 0), (.int .u8 0), (.int .u8 0), (.int .u8 0), (.int .u8 0), (.int .u8 0), (.int .u8 0), (.int .u8 0), (.int .u8 0), (.int .u8 0), (.int .u8 0), (.int .u8 0), (.int .u8 0), (.int .u8 0), (.int .u8 0), (.int .u8 0), (.int .u8 0), (.int .u8 0), (.int .u8 0), (.int .u8 0), (.int .u8 0), (.int .u8 0), (.int .u8 0), (.int .u8 0), (.int .u8 0), (.int .u8 0), (.int .u8 0), (.int .u8 0), (.int .u8 0), (.int .u8 0), (.int .u8 0), (.int .u8 0), (.int .u8 0), (.int .u8 0), (.int .u8 0), (.int .u8 0), (.int .u8 0), (.int .u8 0), (.int .u8 0), (.int .u8 0), (.int .u8 0), (.int .u8 0), (.int .u8 0), (.int .u8 0), (.int .u8 0), (.int .u8 0), (.int .u8 0), (.int .u8 0), (.int .u8 0), (.int .u8 0), (.int .u8 0), (.int .u8 0), (.int .u8 0), (.int .u8 0), (.int .u8 0), (.int .u8 0), (.int .u8 0), (.int .u8 0), (.int .u8 0), (.int .u8 0), (.int .u8 0), (.int .u8 0), (.int .u8 0), (.int .u8 0), (.int .u8 0), (.int .u8 0), (.int .u8 0), (.int .u8 0), (.int .u8 0), (.int .u8 0), (.int .u8 0), (.int .u8 0), (.int .u8 0), (.int .u8 0), (.int .u8 0), (.int .u8 0), (.int .u8 0), (.int .u8 0), (.int .u8 0), (.int .u8 0), (.int .u8 0), (.int .u8 0), (.int .u8 0), (.int .u8 0), (.int .u8 0), (.int .u8 0), (.int .u8 0), (.int .u8 0), (.int .u8 0), (.int .u8 0), (.int .u8 0), (.int .u8 0), (.int .u8 0), (.int .u8 0), (.int .u8 0), (.int .u8 0), (.int .u8 0), (.int .u8 0), (.int .u8 0), (.int .u8 0), (.int .u8 0), (.int .u8 0), (.int .u8 0), (.int .u8 0), (.int .u8 0), (.int .u8 0), (.int .u8 0), (.int .u8 0), (.int .u8 0), (.int .u8 0), (.int .u8 0), (.int .u8 0), (.int .u8 0), (.int .u8 0), (.int .u8 0), (.int .u8 0), (.int .u8 0), (.int .u8 0), (.int .u8 0), (.int .u8 0), (.int .u8 0), (.int .u8 0), (.int .u8 0), (.int .u8 0), (.int .u8 0), (.int .u8 0), (.int .u8 0), (.int .u8 0), (.int .u8 0), (.int .u8 0), (.int .u8 0), (.int .u8 0), (.int .u8 0), (.int .u8 0), (.int .u8 0), (.int .u8 0), (.int .u8 0), (.int .u8 0), (.int .u8 0), (.int .u8 0), (.int .u8 0), (.int .u8 0), (.int .u8 0), (.int .u8 0), (.int .u8 0), (.int .u8 0), (.int .u8 0), (.int .u8 0), (.int .u8 0), (.int .u8 0), (.int .u8 0), (.int .u8 0), (.int .u8 0), (.int .u8 0), (.int .u8 0), (.int .u8 0), (.int .u8 0), (.int .u8 0), (.int .u8 0), (.int .u8 0), (.int .u8 0), (.int .u8 0), (.int .u8 0), (.int .u8 0), (.int .u8 0), (.int .u8 0), (.int .u8 0), (.int .u8 0), (.int .u8 0), (.int .u8 0), (.int .u8 0), (.int .u8 0), (.int .u8 0), (.int .u8 0), (.int .u8 0), (.int .u8 0), (.int .u8 0), (.int .u8 0), (.int .u8 0), (.int .u8 0), (.int .u8 0), (.int .u8 0), (.int .u8 0), (.int .u8 0), (.int .u8 0), (.int .u8 0), (.int .u8 0), (.int .u8 0), (.int .u8 0), (.int .u8 0), (.int .u8 0), (.int .u8 0), (.int .u8 0), (.int .u8 0), (.int .u8 0), (.int .u8 0), (.int .u8 0), (.int .u8 0), (.int .u8 0), (.int .u8 0), (.int .u8 0), (.int .u8 0), (.int .u8 0), (.int .u8 0), (.int .u8 0), (.int .u8 0), (.int .u8 0), (.int .u8 0), (.int .u8 0), (.int .u8 0), (.int .u8 0), (.int .u8 0), (.int .u8 0), (.int .u8 0), (.int .u8 0), (.int .u8 0), (.int .u8 0), (.int .u8 0), (.int .u8 0), (.int .u8 0), (.int .u8 0), (.int .u8 0), (.int .u8 0)])) (.t 28), none, []⟩, ⟨(some 30), .load 1 false (.t 29), none, []⟩, ⟨(some 31), .bin .eql (.t 30) (.v (.int .u8 0)), none, []⟩]) (.cond (.t 31) (.seq (.region [⟨(some 11), .bin .add (.t 11) (.v (.int .i64 1)), none, []⟩]) (.exit 5)) .skip)) (.seq (.region [⟨(some 32), .sliceS (.t 0) (some (.t 10)) (some (.t 11)), none, []⟩, ⟨(some 33), .iaddr 1 (.t 8) (.t 9), none, []⟩, ⟨none, .store 1 (.t 33) (.t 32), none, []⟩]) (.seq (.region [⟨(some 9), .bin .add (.t 9) (.v (.int .i64 1)), none, []⟩]) (.seq (.region [⟨(some 11), .bin .add (.t 11) (.v (.int .i64 1)), none, []⟩]) (.seq (.block 6 (.loop (.seq (.seq (.region [⟨(some 34), .len 0 (.t 0), none, []⟩, ⟨(some 35), .bin .lss (.t 11) (.t 34), none, []⟩, ⟨(some 36), .index (.t 0) (.t 11), (some (35, true)), []⟩, ⟨(some 37), .iaddrA 1 256 (.v (.fptr [(.int .u8 0), (.int .u8 0), (.int .u8 0), (.int .u8 0), (.int .u8 0), (.int .u8 0), (.int .u8 0), (.int .u8 0), (.int .u8 0), (.int .u8 1), (.int .u8 1), (.int .u8 1), (.int .u8 1), (.int .u8 1), (.int .u8 0), (.int .u8 0), (.int .u8 0), (.int .u8 0), (.int .u8 0), (.int .u8 0), (.int .u8 0), (.int .u8 0), (.int .u8 0), (.int .u8 0), (.int .u8 0), (.int .u8 0), (.int .u8 0), (.int .u8 0), (.int .u8 0), (.int .u8 0), (.int .u8 0), (.int .u8 0), (.int .u8 1), (.int .u8 0), (.int .u8 0), (.int .u8 0), (.int .u8 0), (.int .u8 0), (.int .u8 0), (.int .u8 0), (.int .u8 0), (.int .u8 0), (.int .u8 0), (.int .u8 0), (.int .u8 0), (.int .u8 0), (.int .u8 0), (.int .u8 0), (.int .u8 0), (.int .u8 0), (.int .u8 0), (.int .u8 0), (.int .u8 0), (.int .u8 0), (.int .u8 0), (.int .u8 0), (.int .u8 0), (.int .u8 0), (.int .u8 0), (.int .u8 0), (.int .u8 0), (.int .u8 0), (.int .u8 0), (.int .u8 0), (.int .u8 0), (.int .u8 0), (.int .u8 0), (.int .u8 0), (.int .u8 0), (.int .u8 0), (.int .u8 0), (.int .u8 0), (.int .u8 0), (.int .u8 0), (.int .u8 0), (.int .u8 0), (.int .u8 0), (.int .u8 0), (.int .u8 0), (.int .u8 0), (.int .u8 0), (.int .u8 0), (.int .u8 0), (.int .u8 0), (.int .u8 0), (.int .u8 0), (.int .u8 0), (.int .u8 0), (.int .u8 0), (.int .u8 0), (.int .u8 0), (.int .u8 0), (.int .u8 0), (.int .u8 0), (.int .u8 0), (.int .u8 0), (.int .u8 0), (.int .u8 0), (.int .u8 0), (.int .u8 0), (.int .u8 0), (.int .u8 0), (.int .u8 0), (.int .u8 0), (.int .u8 0), (.int .u8 0), (.int .u8 0), (.int .u8 0), (.int .u8 0), (.int .u8 0), (.int .u8 0), (.int .u8 0), (.int .u8 0), (.int .u8 0), (.int .u8 0), (.int .u8 0), (.int .u8 0), (.int .u8 0), (.int .u8 0), (.int .u8 0), (.int .u8 0), (.int .u8 0), (.int .u8 0), (.int .u8 0), (.int .u8 0), (.int .u8 0), (.int .u8 0), (.int .u8 0), (.int .u8 0), (.int .u8 0), (.int .u8 0), (.int .u8 0), (.int .u8 0), (.int .u8 0), (.int .u8 0), (.int .u8 0), (.int .u8 0), (.int .u8 0), (.int .u8 0), (.int .u8 0), (.int .u8 0), (.int .u8 0), (.int .u8 0), (.int .u8 0), (.int .u8 0), (.int .u8 0), (.int .u8 0), (.int .u8 0), (.int .u8 0), (.int .u8 0), (.int .u8 0), (.int .u8 0), (.int .u8 0), (.int .u8 0), (.int .u8 0), (.int .u8 0), (.int .u8 0), (.int .u8 0), (.int .u8 0), (.int .u8 0), (.int .u8 0), (.int .u8 0), (.int .u8 0), (.int .u8 0), (.int .u8 0), (.int .u8 0), (.int .u8 0), (.int .u8 0), (.int .u8 0), (.int .u8 0), (.int .u8 0), (.int .u8 0), (.int .u8 0), (.int .u8 0), (.int .u8 0), (.int .u8 0), (.int .u8 0), (.int .u8 0), (.int .u8 0), (.int .u8 0), (.int .u8 0), (.int .u8 0), (.int .u8 0), (.int .u8 0), (.int .u8 0), (.int .u8 0), (.int .u8 0), (.int .u8 0), (.int .u8 0), (.int .u8 0), (.int .u8 0), (.int .u8 0), (.int .u8 0), (.int .u8 0), (.int .u8 0), (.int .u8 0), (.int .u8 0), (.int .u8 0), (.int .u8 0), (.int .u8 0), (.int .u8 0), (.int .u8 0), (.int .u8 0), (.int .u8 0), (.int .u8 0), (.int .u8 0), (.int .u8 0), (.int .u8 0), (.int .u8 0), (.int .u8 0), (.int .u8 0), (.int .u8 0), (.int .u8 0), (.int .u8 0), (.int .u8 0), (.int .u8 0), (.int .u8 0), (.int .u8 0), (.int .u8 0), (.int .u8 0), (.int .u8 0), (.int .u8 0), (.int .u8 0), (.int .u8 0), (.int .u8 0), (.int .u8 0), (.int .u8 0), (.int .u8 0), (.int .u8 0), (.int .u8 0), (.int .u8 0), (.int .u8 0), (.int .u8 0), (.int .u8 0), (.int .u8 0), (.int .u8 0), (.int .u8 0), (.int .u8 0), (.int .u8 0), (.int .u8 0), (.int .u8 0), (.int .u8 0), (.int .u8 0), (.int .u8 0), (.int .u8 0), (.int .u8 0), (.int .u8 0), (.int .u8 0), (.int .u8 0), (.int .u8 0), (.int .u8 0), (.int .u8 0), (.int .u8 0), (.int .u8 0), (.int .u8 0), (.int .u8 0)])) (.t 36), (some (35, true)), []⟩, ⟨(some 38), .load 1 false (.t 37), (some (35, true)), []⟩, ⟨(some 39), .bin .neq (.t 38) (.v (.int .u8 0)), (some (35, true)), []⟩, ⟨(some 40), .pick (.t 35) (.t 39) (.v (.bool false)), none, []⟩]) (.cond (.t 40) .skip (.exit 6))) (.block 7 (.region [⟨(some 11), .bin .add (.t 11) (.v (.int .i64 1)), none, []⟩]))))) (.region [⟨(some 10), .mov (.t 11), none, []⟩])))))))))) (.seq (.seq (.region [⟨(some 41), .len 0 (.t 0), none, []⟩, ⟨(some 42), .bin .lss (.t 10) (.t 41), none, []⟩]) (.cond (.t 42) (.region [⟨(some 43), .sliceS (.t 0) (some (.t 10)) none, none, []⟩, ⟨(some 44), .iaddr 1 (.t 8) (.t 9), none, []⟩, ⟨none, .store 1 (.t 44) (.t 43), none, []⟩]) .skip)) (.seq (.region [⟨(some 1), .mov (.t 8), none, []⟩]) .ret))))))))))))))) }
/-- slices.IndexFunc[[]string,string] -/
def c239 : OFunc := { np := 2, dep := 1, results := [(.t 2)], body := (.seq (.region [⟨(some 2), .mov (.v (.int .i64 0)), none, []⟩]) (.seq (.seq (.region [⟨(some 4), .len 1 (.t 0), none, []⟩, ⟨(some 5), .mov (.v (.int .i64 0)), none, []⟩]) (.block 0 (.loop (.seq (.region [⟨(some 6), .bin .lss (.t 5) (.t 4), none, []⟩]) (.seq (.cond (.t 6) .skip (.exit 0)) (.seq (.block 1 (.seq (.region [⟨(some 3), .mov (.t 5), none, []⟩]) (.seq (.region [⟨(some 7), .iaddr 1 (.t 0) (.t 3), none, []⟩, ⟨(some 8), .load 1 false (.t 7), none, []⟩, ⟨(some 9), .callv (.t 1) [(.t 8)], none, []⟩]) (.cond (.t 9) (.seq (.region [⟨(some 2), .mov (.t 3), none, []⟩]) .ret) .skip)))) (.region [⟨(some 5), .bin .add (.t 5) (.v (.int .i64 1)), none, []⟩]))))))) (.seq (.region [⟨(some 2), .mov (.v (.int .i64 (-1))), none, []⟩]) .ret))) }
/-- (*puppeteer/tree.reader).inner$1 -/
def c240 : OFunc := { np := 3, dep := 1, results := [], body := (.region [⟨(some 3), .load 1 false (.t 0), none, []⟩, ⟨(some 4), .load 1 false (.t 1), none, []⟩, ⟨(some 5), .load 1 false (.t 2), none, []⟩, ⟨(some 7), .len 1 (.t 3), none, []⟩, ⟨(some 8), .lit 10 [(.int .i64 0), (.int .i64 0), (.int .i64 0), (.str []), (.int .i64 0), (.int .i64 0), (.str []), .nilsl, .nilsl, .nilsl] 1 [], none, []⟩, ⟨(some 6), .call 113 [(.t 4), (.t 5)], none, [(7, none, .len 1 (.t 3)), (3, none, .load 1 false (.t 0))]⟩, ⟨(some 9), .app 10 144 (.t 3) (.t 8), none, []⟩, ⟨(some 10), .iaddr 10 (.t 9) (.t 7), none, []⟩, ⟨none, .apart (.t 10) (.t 0), none, []⟩, ⟨none, .store 10 (.t 10) (.t 6), none, []⟩, ⟨none, .store 1 (.t 0) (.t 9), none, []⟩]) }
/-- (*puppeteer/expr.Reader).level -/
def c241 : OFunc := { np := 3, dep := 1, results := [(.cell 3 5 true)], body := (.seq (.region [⟨(some 3), .alloc [(.int .i64 0), (.int .i64 0), (.str []), .nilsl, (.int .i64 0)], none, []⟩]) (.seq (.region [⟨(some 4), .call 281 [], none, []⟩]) (.seq (.seq (.region [⟨(some 7), .len 1 (.t 4), none, []⟩, ⟨(some 8), .bin .eql (.t 1) (.t 7), none, []⟩]) (.cond (.t 8) (.seq (.region [⟨(some 9), .call 282 [(.t 0), (.t 2)], none, []⟩, ⟨none, .store 5 (.t 3) (.t 9), none, []⟩]) .ret) .skip)) (.seq (.region [⟨(some 10), .bin .add (.t 1) (.v (.int .i64 1)), none, []⟩, ⟨(some 11), .call 241 [(.t 0), (.t 10), (.t 2)], none, []⟩, ⟨(some 5), .alloc [(.int .i64 0), (.int .i64 0), (.str []), .nilsl, (.int .i64 0)], none, []⟩, ⟨none, .store 5 (.t 5) (.t 11), none, []⟩]) (.seq (.seq (.region [⟨(some 12), .iaddr 1 (.t 4) (.t 1), none, []⟩, ⟨(some 13), .load 1 false (.t 12), none, []⟩, ⟨(some 6), .call 283 [(.t 0), (.t 13)], none, []⟩]) (.block 0 (.loop (.seq (.seq (.region [⟨(some 14), .bin .geq (.t 6) (.v (.int .i64 0)), none, []⟩]) (.cond (.t 14) .skip (.exit 0))) (.seq (.block 1 (.seq (.region [⟨(some 17), .load 5 true (.t 5), none, []⟩, ⟨(some 18), .bin .add (.t 1) (.v (.int .i64 1)), none, []⟩, ⟨(some 19), .call 241 [(.t 0), (.t 18), (.t 2)], none, [(17, none, .load 5 true (.t 5))]⟩, ⟨(some 20), .lit 5 [(.int .i64 0), (.int .i64 0), (.str []), .nilsl, (.int .i64 0), (.int .i64 0), (.int .i64 0), (.str []), .nilsl, (.int .i64 0)] 2 [(0, 5, (.t 17)), (5, 5, (.t 19))], none, []⟩, ⟨(some 21), .call 284 [(.t 0), (.t 6), (.t 20)], none, []⟩, ⟨none, .store 5 (.t 5) (.t 21), none, []⟩]) (.seq (.region [⟨(some 22), .bin .eql (.t 1) (.v (.int .i64 2)), none, []⟩]) (.cond (.t 22) (.exit 0) .skip)))) (.region [⟨(some 15), .iaddr 1 (.t 4) (.t 1), none, []⟩, ⟨(some 16), .load 1 false (.t 15), none, []⟩, ⟨(some 6), .call 283 [(.t 0), (.t 16)], none, []⟩])))))) (.seq (.region [⟨(some 23), .load 5 true (.t 5), none, []⟩, ⟨none, .store 5 (.t 3) (.t 23), none, []⟩]) .ret)))))) }
/-- puppeteer/check.Kind -/
def c243 : OFunc := { np := 2, dep := 1, results := [(.t 3), (.t 4)], body := (.seq (.region [⟨(some 2), .box (.t 0), none, []⟩, ⟨(some 3), .mov (.v (.int .i64 0)), none, []⟩, ⟨(some 4), .mov (.v (.int .i64 0)), none, []⟩]) (.seq (.seq (.region [⟨(some 5), .load 4 true (.t 2), none, []⟩, ⟨(some 6), .call 164 [(.t 5)], none, []⟩, ⟨(some 7), .un .not (.t 6), none, []⟩]) (.cond (.t 7) (.seq (.region [⟨(some 3), .mov (.v (.int .i64 0)), none, []⟩, ⟨(some 4), .mov (.v (.int .i64 1)), none, []⟩]) .ret) .skip)) (.seq (.region [⟨(some 8), .load 4 true (.t 2), none, []⟩, ⟨(some 9), .call 285 [(.t 8), (.t 1)], none, []⟩, ⟨(some 10), .extract (.t 9) 0, none, []⟩, ⟨(some 11), .extract (.t 9) 1, none, []⟩, ⟨(some 3), .mov (.t 10), none, []⟩, ⟨(some 4), .mov (.t 11), none, []⟩]) .ret))) }
/-- slices.IndexFunc[[]puppeteer/api.Key,puppeteer/api.Key] -/
def c244 : OFunc := { np := 2, dep := 1, results := [(.t 2)], body := (.seq (.region [⟨(some 2), .mov (.v (.int .i64 0)), none, []⟩]) (.seq (.seq (.region [⟨(some 4), .len 1 (.t 0), none, []⟩, ⟨(some 5), .mov (.v (.int .i64 0)), none, []⟩]) (.block 0 (.loop (.seq (.region [⟨(some 6), .bin .lss (.t 5) (.t 4), none, []⟩]) (.seq (.cond (.t 6) .skip (.exit 0)) (.seq (.block 1 (.seq (.region [⟨(some 3), .mov (.t 5), none, []⟩]) (.seq (.region [⟨(some 7), .iaddr 3 (.t 0) (.t 3), none, []⟩, ⟨(some 8), .load 3 true (.t 7), none, []⟩, ⟨(some 9), .callv (.t 1) [(.t 8)], none, []⟩]) (.cond (.t 9) (.seq (.region [⟨(some 2), .mov (.t 3), none, []⟩]) .ret) .skip)))) (.region [⟨(some 5), .bin .add (.t 5) (.v (.int .i64 1)), none, []⟩]))))))) (.seq (.region [⟨(some 2), .mov (.v (.int .i64 (-1))), none, []⟩]) .ret))) }
/-- puppeteer/check.key$1 -/
def c245 : OFunc := { np := 2, dep := 0, results := [(.t 3)], body := (.seq (.region [⟨(some 2), .box (.t 0), none, []⟩, ⟨(some 3), .mov (.v (.bool false)), none, []⟩]) (.seq (.region [⟨(some 4), .faddr 0 (.t 2), none, []⟩, ⟨(some 5), .load 1 false (.t 4), none, []⟩, ⟨(some 6), .load 1 false (.t 1), none, []⟩, ⟨(some 3), .bin .eql (.t 5) (.t 6), none, []⟩]) .ret)) }
/-- slices.Index[[]string,string] -/
def c246 : OFunc := { np := 2, dep := 1, results := [(.t 2)], body := (.seq (.region [⟨(some 2), .mov (.v (.int .i64 0)), none, []⟩]) (.seq (.seq (.region [⟨(some 4), .len 1 (.t 0), none, []⟩, ⟨(some 5), .mov (.v (.int .i64 0)), none, []⟩]) (.block 0 (.loop (.seq (.region [⟨(some 6), .bin .lss (.t 5) (.t 4), none, []⟩]) (.seq (.cond (.t 6) .skip (.exit 0)) (.seq (.block 1 (.seq (.region [⟨(some 3), .mov (.t 5), none, []⟩]) (.seq (.region [⟨(some 7), .iaddr 1 (.t 0) (.t 3), none, []⟩, ⟨(some 8), .load 1 false (.t 7), none, []⟩, ⟨(some 9), .bin .eql (.t 1) (.t 8), none, []⟩]) (.cond (.t 9) (.seq (.region [⟨(some 2), .mov (.t 3), none, []⟩]) .ret) .skip)))) (.region [⟨(some 5), .bin .add (.t 5) (.v (.int .i64 1)), none, []⟩]))))))) (.seq (.region [⟨(some 2), .mov (.v (.int .i64 (-1))), none, []⟩]) .ret))) }
/-- puppeteer/check.act$1 -/
def c250 : OFunc := { np := 2, dep := 0, results := [(.t 3)], body := (.seq (.region [⟨(some 2), .box (.t 0), none, []⟩, ⟨(some 3), .mov (.v (.bool false)), none, []⟩]) (.seq (.region [⟨(some 4), .faddr 0 (.t 2), none, []⟩, ⟨(some 5), .load 1 false (.t 4), none, []⟩, ⟨(some 6), .faddr 0 (.t 1), none, []⟩, ⟨(some 7), .load 1 false (.t 6), none, []⟩, ⟨(some 3), .bin .eql (.t 5) (.t 7), none, []⟩]) .ret)) }
/-- puppeteer/value.letter -/
def c252 : OFunc := { np := 1, dep := 0, results := [(.t 1)], body := (.seq (.region [⟨(some 1), .mov (.v (.bool false)), none, []⟩]) (.seq (.region [⟨(some 2), .bin .geq (.t 0) (.v (.int .u8 97)), none, []⟩, ⟨(some 3), .bin .leq (.t 0) (.v (.int .u8 122)), (some (2, true)), []⟩, ⟨(some 4), .pick (.t 2) (.t 3) (.v (.bool false)), none, []⟩, ⟨(some 5), .bin .geq (.t 0) (.v (.int .u8 65)), (some (4, false)), []⟩, ⟨(some 6), .bin .leq (.t 0) (.v (.int .u8 90)), (some (5, true)), []⟩, ⟨(some 7), .pick (.t 5) (.t 6) (.v (.bool false)), (some (4, false)), []⟩, ⟨(some 1), .pick (.t 4) (.v (.bool true)) (.t 7), none, []⟩]) .ret)) }
/-- (*puppeteer/vm.Run).on -/
def c255 : OFunc := { np := 2, dep := 1, results := [(.t 2)], body := (.seq (.region [⟨(some 2), .mov (.v (.int .i64 0)), none, []⟩]) (.seq (.seq (.region [⟨(some 4), .nilchk (.t 0), none, []⟩, ⟨(some 5), .faddr 0 (.t 4), none, []⟩, ⟨(some 6), .load 1 false (.t 5), none, []⟩, ⟨(some 7), .nilchk (.t 6), none, []⟩, ⟨(some 8), .faddr 0 (.t 7), none, []⟩, ⟨(some 9), .load 1 false (.t 8), none, []⟩, ⟨(some 10), .iaddr 11 (.t 9) (.t 1), none, []⟩, ⟨(some 11), .faddr 0 (.t 10), none, []⟩, ⟨(some 3), .load 1 false (.t 11), none, []⟩]) (.seq (.region [⟨(some 12), .bin .eql (.t 3) (.v (.int .i64 1)), none, []⟩, ⟨(some 13), .bin .eql (.t 3) (.v (.int .i64 3)), (some (12, false)), []⟩, ⟨(some 14), .pick (.t 12) (.v (.bool true)) (.t 13), none, []⟩]) (.cond (.t 14) (.seq (.region [⟨(some 2), .mov (.v (.int .i64 2)), none, []⟩]) .ret) .skip))) (.seq (.region [⟨(some 2), .mov (.v (.int .i64 1)), none, []⟩]) .ret))) }
/-- puppeteer/goap.all$1 -/
def c265 : OFunc := { np := 3, dep := 1, results := [(.t 4)], body := (.seq (.region [⟨(some 3), .box (.t 0), none, []⟩, ⟨(some 4), .mov (.v (.bool false)), none, []⟩]) (.seq (.region [⟨(some 5), .load 4 true (.t 1), none, []⟩, ⟨(some 6), .load 1 false (.t 2), none, []⟩, ⟨(some 7), .load 3 true (.t 3), none, []⟩, ⟨(some 8), .call 266 [(.t 5), (.t 6), (.t 7)], none, []⟩, ⟨(some 4), .un .not (.t 8), none, []⟩]) .ret)) }
/-- puppeteer/expr.forms -/
def c268 : OFunc := { np := 0, dep := 1, results := [(.t 0)], body := (.seq (.region [⟨(some 0), .mov (.v .nilsl), none, []⟩]) (.seq (.region [⟨(some 1), .build [(.int .i64 0), (.str [])] [], none, []⟩, ⟨(some 2), .build [(.int .i64 0), (.str [])] [], none, []⟩, ⟨(some 3), .build [(.int .i64 0), (.str [])] [], none, []⟩, ⟨(some 4), .build [(.int .i64 0), (.str [])] [], none, []⟩, ⟨(some 5), .build [(.int .i64 0), (.str [115, 101, 108, 102])] [], none, []⟩, ⟨(some 6), .build [(.int .i64 0), (.str [116, 105, 109, 101])] [], none, []⟩, ⟨(some 7), .build [(.int .i64 2), (.str [43])] [], none, []⟩, ⟨(some 8), .build [(.int .i64 2), (.str [45])] [], none, []⟩, ⟨(some 9), .build [(.int .i64 2), (.str [42])] [], none, []⟩, ⟨(some 10), .build [(.int .i64 2), (.str [47])] [], none, []⟩, ⟨(some 11), .build [(.int .i64 2), (.str [61, 61])] [], none, []⟩, ⟨(some 12), .build [(.int .i64 2), (.str [60])] [], none, []⟩, ⟨(some 13), .build [(.int .i64 2), (.str [97, 110, 100])] [], none, []⟩, ⟨(some 14), .build [(.int .i64 2), (.str [111, 114])] [], none, []⟩, ⟨(some 15), .build [(.int .i64 1), (.str [110, 111, 116])] [], none, []⟩, ⟨(some 16), .build [(.int .i64 2), (.str [44])] [], none, []⟩, ⟨(some 17), .build [(.int .i64 1), (.str [114, 101])] [], none, []⟩, ⟨(some 18), .build [(.int .i64 1), (.str [105, 109])] [], none, []⟩, ⟨(some 19), .build [(.int .i64 1), (.str [116, 117, 114, 110])] [], none, []⟩, ⟨(some 20), .build [(.int .i64 2), (.str [102, 97, 114])] [], none, []⟩, ⟨(some 0), .lit 2 [(.int .i64 0), (.str []), (.int .i64 0), (.str []), (.int .i64 0), (.str []), (.int .i64 0), (.str []), (.int .i64 0), (.str []), (.int .i64 0), (.str []), (.int .i64 0), (.str []), (.int .i64 0), (.str []), (.int .i64 0), (.str []), (.int .i64 0), (.str []), (.int .i64 0), (.str []), (.int .i64 0), (.str []), (.int .i64 0), (.str []), (.int .i64 0), (.str []), (.int .i64 0), (.str []), (.int .i64 0), (.str []), (.int .i64 0), (.str []), (.int .i64 0), (.str []), (.int .i64 0), (.str []), (.int .i64 0), (.str [])] 20 [(0, 2, (.t 1)), (2, 2, (.t 2)), (4, 2, (.t 3)), (6, 2, (.t 4)), (8, 2, (.t 5)), (10, 2, (.t 6)), (12, 2, (.t 7)), (14, 2, (.t 8)), (16, 2, (.t 9)), (18, 2, (.t 10)), (20, 2, (.t 11)), (22, 2, (.t 12)), (24, 2, (.t 13)), (26, 2, (.t 14)), (28, 2, (.t 15)), (30, 2, (.t 16)), (32, 2, (.t 17)), (34, 2, (.t 18)), (36, 2, (.t 19)), (38, 2, (.t 20))], none, []⟩]) .ret)) }
/-- puppeteer/calc.integer -/
def c270 : OFunc := { np := 1, dep := 0, results := [(.cell 1 5 true)], body := (.seq (.region [⟨(some 1), .alloc [(.int .i64 0), (.int .i64 0), (.int .i64 0), (.str []), (.cpx .f64 0 0)], none, []⟩]) (.seq (.region [⟨(some 2), .build [(.int .i64 0), (.int .i64 0), (.int .i64 0), (.str []), (.cpx .f64 0 0)] [(0, 1, (.v (.int .i64 0))), (1, 1, (.t 0))], none, []⟩, ⟨none, .store 5 (.t 1) (.t 2), none, []⟩]) .ret)) }
/-- (*strings.asciiSet).contains -/
def c275 : OFunc := { np := 2, dep := 0, results := [(.t 2)], body := (.seq (.region [⟨(some 2), .mov (.v (.bool false)), none, []⟩]) (.seq (.region [⟨(some 3), .nilchk (.t 0), none, []⟩, ⟨(some 4), .iaddrA 1 256 (.t 3) (.t 1), none, []⟩, ⟨(some 2), .load 1 false (.t 4), none, []⟩]) .ret)) }
/-- puppeteer/expr.levels -/
def c281 : OFunc := { np := 0, dep := 0, results := [(.t 0)], body := (.seq (.region [⟨(some 0), .mov (.v .nilsl), none, []⟩]) (.seq (.region [⟨(some 1), .lit 1 [(.int .i64 13)] 1 [], none, []⟩, ⟨(some 2), .lit 1 [(.int .i64 12)] 1 [], none, []⟩, ⟨(some 3), .lit 1 [(.int .i64 10), (.int .i64 11)] 2 [], none, []⟩, ⟨(some 4), .lit 1 [(.int .i64 6), (.int .i64 7)] 2 [], none, []⟩, ⟨(some 5), .lit 1 [(.int .i64 8), (.int .i64 9)] 2 [], none, []⟩, ⟨(some 0), .lit 1 [.nilsl, .nilsl, .nilsl, .nilsl, .nilsl] 5 [(0, 1, (.t 1)), (1, 1, (.t 2)), (2, 1, (.t 3)), (3, 1, (.t 4)), (4, 1, (.t 5))], none, []⟩]) .ret)) }
/-- (*puppeteer/expr.Reader).single -/
def c282 : OFunc := { np := 2, dep := 1, results := [(.cell 2 5 true)], body := (.seq (.region [⟨(some 2), .alloc [(.int .i64 0), (.int .i64 0), (.str []), .nilsl, (.int .i64 0)], none, []⟩]) (.seq (.seq (.region [⟨(some 4), .bin .geq (.t 1) (.v (.int .i64 40)), none, []⟩]) (.cond (.t 4) (.region [⟨(some 5), .call 115 [(.t 0), (.v (.int .i64 4))], none, []⟩]) .skip)) (.seq (.seq (.region [⟨(some 6), .lit 1 [(.int .i64 14), (.int .i64 16), (.int .i64 17), (.int .i64 18)] 4 [], none, []⟩, ⟨(some 3), .call 283 [(.t 0), (.t 6)], none, []⟩]) (.seq (.region [⟨(some 7), .bin .geq (.t 3) (.v (.int .i64 0)), none, []⟩]) (.cond (.t 7) (.seq (.region [⟨(some 8), .bin .add (.t 1) (.v (.int .i64 1)), none, []⟩, ⟨(some 9), .call 282 [(.t 0), (.t 8)], none, []⟩, ⟨(some 10), .lit 5 [(.int .i64 0), (.int .i64 0), (.str []), .nilsl, (.int .i64 0)] 1 [(0, 5, (.t 9))], none, []⟩, ⟨(some 11), .call 284 [(.t 0), (.t 3), (.t 10)], none, []⟩, ⟨none, .store 5 (.t 2) (.t 11), none, []⟩]) .ret) .skip))) (.seq (.seq (.region [⟨(some 12), .call 178 [(.t 0), (.v (.str [45]))], none, []⟩]) (.cond (.t 12) (.seq (.region [⟨(some 13), .call 182 [(.t 0)], none, []⟩, ⟨(some 14), .un .neg (.t 13), none, []⟩, ⟨(some 15), .build [(.int .i64 0), (.int .i64 0), (.str []), .nilsl] [(0, 1, (.v (.int .i64 0))), (1, 1, (.t 14))], none, []⟩, ⟨(some 16), .build [(.int .i64 0), (.int .i64 0), (.str []), .nilsl, (.int .i64 0)] [(0, 4, (.t 15)), (4, 1, (.v (.int .i64 1)))], none, []⟩, ⟨none, .store 5 (.t 2) (.t 16), none, []⟩]) .ret) .skip)) (.seq (.region [⟨(some 17), .call 308 [(.t 0), (.t 1)], none, []⟩, ⟨none, .store 5 (.t 2) (.t 17), none, []⟩]) .ret))))) }
/-- (*puppeteer/expr.Reader).sign -/
def c283 : OFunc := { np := 2, dep := 1, results := [(.t 2)], body := (.seq (.region [⟨(some 2), .mov (.v (.int .i64 0)), none, []⟩]) (.seq (.seq (.region [⟨(some 4), .mov (.t 1), none, []⟩, ⟨(some 5), .len 1 (.t 4), none, []⟩, ⟨(some 6), .mov (.v (.int .i64 0)), none, []⟩]) (.block 0 (.loop (.seq (.region [⟨(some 7), .bin .lss (.t 6) (.t 5), none, []⟩]) (.seq (.cond (.t 7) .skip (.exit 0)) (.seq (.block 1 (.seq (.region [⟨(some 8), .iaddr 1 (.t 4) (.t 6), none, []⟩, ⟨(some 3), .load 1 false (.t 8), none, []⟩]) (.seq (.region [⟨(some 9), .call 268 [], none, []⟩, ⟨(some 10), .iaddr 2 (.t 9) (.t 3), none, []⟩, ⟨(some 11), .faddr 1 (.t 10), none, []⟩, ⟨(some 12), .load 1 false (.t 11), none, []⟩, ⟨(some 13), .call 178 [(.t 0), (.t 12)], none, []⟩]) (.cond (.t 13) (.seq (.region [⟨(some 2), .mov (.t 3), none, []⟩]) .ret) .skip)))) (.region [⟨(some 6), .bin .add (.t 6) (.v (.int .i64 1)), none, []⟩]))))))) (.seq (.region [⟨(some 2), .mov (.v (.int .i64 (-1))), none, []⟩]) .ret))) }
/-- puppeteer/check.kind -/
def c285 : OFunc := { np := 2, dep := 1, results := [(.t 3), (.t 4)], body := (.seq (.region [⟨(some 2), .box (.t 0), none, []⟩, ⟨(some 3), .mov (.v (.int .i64 0)), none, []⟩, ⟨(some 4), .mov (.v (.int .i64 0)), none, []⟩]) (.seq (.seq (.region [⟨(some 11), .faddr 3 (.t 2), none, []⟩, ⟨(some 12), .load 1 false (.t 11), none, []⟩, ⟨(some 13), .len 1 (.t 12), none, []⟩, ⟨(some 14), .bin .eql (.t 13) (.v (.int .i64 0)), none, []⟩]) (.cond (.t 14) (.seq (.region [⟨(some 15), .load 4 true (.t 2), none, []⟩, ⟨(some 16), .call 309 [(.t 15), (.t 1)], none, []⟩, ⟨(some 17), .extract (.t 16) 0, none, []⟩, ⟨(some 18), .extract (.t 16) 1, none, []⟩, ⟨(some 3), .mov (.t 17), none, []⟩, ⟨(some 4), .mov (.t 18), none, []⟩]) .ret) .skip)) (.seq (.region [⟨(some 5), .mov (.v .nilsl), none, []⟩]) (.seq (.seq (.region [⟨(some 19), .faddr 3 (.t 2), none, []⟩, ⟨(some 20), .load 1 false (.t 19), none, []⟩, ⟨(some 21), .len 1 (.t 20), none, []⟩, ⟨(some 22), .mov (.v (.int .i64 0)), none, []⟩]) (.block 0 (.loop (.seq (.region [⟨(some 23), .bin .lss (.t 22) (.t 21), none, []⟩]) (.seq (.cond (.t 23) .skip (.exit 0)) (.seq (.block 1 (.seq (.region [⟨(some 24), .iaddr 4 (.t 20) (.t 22), none, []⟩, ⟨(some 25), .load 4 true (.t 24), none, []⟩, ⟨(some 6), .alloc [(.int .i64 0), (.int .i64 0), (.str []), .nilsl], none, []⟩, ⟨none, .store 4 (.t 6) (.t 25), none, []⟩]) (.seq (.region [⟨(some 26), .load 4 true (.t 6), none, []⟩, ⟨(some 27), .call 285 [(.t 26), (.t 1)], none, []⟩, ⟨(some 28), .extract (.t 27) 0, none, []⟩, ⟨(some 29), .extract (.t 27) 1, none, []⟩, ⟨(some 7), .mov (.t 28), none, []⟩, ⟨(some 8), .mov (.t 29), none, []⟩]) (.seq (.seq (.region [⟨(some 30), .bin .neq (.t 8) (.v (.int .i64 0)), none, []⟩]) (.cond (.t 30) (.seq (.region [⟨(some 3), .mov (.v (.int .i64 0)), none, []⟩, ⟨(some 4), .mov (.t 8), none, []⟩]) .ret) .skip)) (.region [⟨(some 31), .lit 1 [(.int .i64 0)] 1 [(0, 1, (.t 7))], none, []⟩, ⟨(some 5), .app 1 8 (.t 5) (.t 31), none, []⟩]))))) (.region [⟨(some 22), .bin .add (.t 22) (.v (.int .i64 1)), none, []⟩]))))))) (.seq (.region [⟨(some 32), .faddr 0 (.t 2), none, []⟩, ⟨(some 33), .load 1 false (.t 32), none, []⟩, ⟨(some 34), .call 310 [(.t 33), (.t 5)], none, []⟩, ⟨(some 35), .extract (.t 34) 0, none, []⟩, ⟨(some 36), .extract (.t 34) 1, none, []⟩, ⟨(some 9), .mov (.t 35), none, []⟩, ⟨(some 10), .mov (.t 36), none, []⟩]) (.seq (.seq (.region [⟨(some 37), .un .not (.t 10), none, []⟩]) (.cond (.t 37) (.seq (.region [⟨(some 3), .mov (.v (.int .i64 0)), none, []⟩, ⟨(some 4), .mov (.v (.int .i64 7)), none, []⟩]) .ret) .skip)) (.seq (.region [⟨(some 3), .mov (.t 9), none, []⟩, ⟨(some 4), .mov (.v (.int .i64 0)), none, []⟩]) .ret))))))) }
/-- puppeteer/check.named$1 -/
def c287 : OFunc := { np := 2, dep := 0, results := [(.t 3)], body := (.seq (.region [⟨(some 2), .box (.t 0), none, []⟩, ⟨(some 3), .mov (.v (.bool false)), none, []⟩]) (.seq (.region [⟨(some 4), .faddr 0 (.t 2), none, []⟩, ⟨(some 5), .load 1 false (.t 4), none, []⟩, ⟨(some 6), .load 1 false (.t 1), none, []⟩, ⟨(some 3), .bin .eql (.t 5) (.t 6), none, []⟩]) .ret)) }
/-- puppeteer/goap.variable$1 -/
def c292 : OFunc := { np := 2, dep := 0, results := [(.t 3)], body := (.seq (.region [⟨(some 2), .box (.t 0), none, []⟩, ⟨(some 3), .mov (.v (.bool false)), none, []⟩]) (.seq (.region [⟨(some 4), .faddr 0 (.t 2), none, []⟩, ⟨(some 5), .load 1 false (.t 4), none, []⟩, ⟨(some 6), .load 1 false (.t 1), none, []⟩, ⟨(some 3), .bin .eql (.t 5) (.t 6), none, []⟩]) .ret)) }
/-- (*puppeteer/expr.Reader).first -/
def c308 : OFunc := { np := 2, dep := 1, results := [(.cell 2 5 true)], body := (.seq (.region [⟨(some 2), .alloc [(.int .i64 0), (.int .i64 0), (.str []), .nilsl, (.int .i64 0)], none, []⟩]) (.seq (.region [⟨(some 3), .mov (.v (.fn 326 [] [])), none, []⟩]) (.seq (.seq (.region [⟨(some 6), .call 177 [(.t 0)], none, []⟩, ⟨(some 4), .alloc [(.int .i64 0), (.int .i64 0), (.int .i64 0), (.str [])], none, []⟩, ⟨none, .store 4 (.t 4) (.t 6), none, []⟩]) (.block 0 (.seq (.region [⟨(some 8), .faddr 0 (.t 4), none, []⟩, ⟨(some 9), .load 1 false (.t 8), none, []⟩, ⟨(some 7), .bin .eql (.t 9) (.v (.int .i64 3)), none, []⟩]) (.cond (.t 7) (.seq (.region [⟨(some 10), .call 182 [(.t 0)], none, []⟩, ⟨(some 11), .build [(.int .i64 0), (.int .i64 0), (.str []), .nilsl] [(0, 1, (.v (.int .i64 0))), (1, 1, (.t 10))], none, []⟩, ⟨(some 12), .callv (.t 3) [(.t 11)], none, []⟩, ⟨none, .store 5 (.t 2) (.t 12), none, []⟩]) .ret) (.seq (.region [⟨(some 14), .faddr 0 (.t 4), none, []⟩, ⟨(some 15), .load 1 false (.t 14), none, []⟩, ⟨(some 13), .bin .eql (.t 15) (.v (.int .i64 1)), none, []⟩]) (.cond (.t 13) (.seq (.region [⟨(some 16), .call 112 [(.t 0)], none, []⟩, ⟨(some 17), .build [(.int .i64 0), (.int .i64 0), (.str []), .nilsl] [(0, 1, (.v (.int .i64 2))), (2, 1, (.t 16))], none, []⟩, ⟨(some 18), .callv (.t 3) [(.t 17)], none, []⟩, ⟨none, .store 5 (.t 2) (.t 18), none, []⟩]) .ret) (.seq (.region [⟨(some 19), .call 178 [(.t 0), (.v (.str [116, 114, 117, 101]))], none, []⟩]) (.cond (.t 19) (.seq (.region [⟨(some 20), .build [(.int .i64 1), (.int .i64 1), (.str []), .nilsl] [], none, []⟩, ⟨(some 21), .callv (.t 3) [(.t 20)], none, []⟩, ⟨none, .store 5 (.t 2) (.t 21), none, []⟩]) .ret) (.seq (.region [⟨(some 22), .call 178 [(.t 0), (.v (.str [102, 97, 108, 115, 101]))], none, []⟩]) (.cond (.t 22) (.seq (.region [⟨(some 23), .build [(.int .i64 1), (.int .i64 0), (.str []), .nilsl] [], none, []⟩, ⟨(some 24), .callv (.t 3) [(.t 23)], none, []⟩, ⟨none, .store 5 (.t 2) (.t 24), none, []⟩]) .ret) (.seq (.region [⟨(some 25), .call 178 [(.t 0), (.v (.str [39]))], none, []⟩]) (.cond (.t 25) (.seq (.region [⟨(some 26), .call 112 [(.t 0)], none, []⟩, ⟨(some 27), .build [(.int .i64 0), (.int .i64 0), (.str []), .nilsl] [(0, 1, (.v (.int .i64 3))), (2, 1, (.t 26))], none, []⟩, ⟨(some 28), .callv (.t 3) [(.t 27)], none, []⟩, ⟨none, .store 5 (.t 2) (.t 28), none, []⟩]) .ret) (.seq (.region [⟨(some 29), .call 178 [(.t 0), (.v (.str [115, 101, 108, 102]))], none, []⟩]) (.cond (.t 29) (.seq (.region [⟨(some 30), .build [(.int .i64 4), (.int .i64 0), (.str []), .nilsl] [], none, []⟩, ⟨(some 31), .callv (.t 3) [(.t 30)], none, []⟩, ⟨none, .store 5 (.t 2) (.t 31), none, []⟩]) .ret) (.seq (.region [⟨(some 32), .call 178 [(.t 0), (.v (.str [116, 105, 109, 101]))], none, []⟩]) (.cond (.t 32) (.seq (.region [⟨(some 33), .build [(.int .i64 5), (.int .i64 0), (.str []), .nilsl] [], none, []⟩, ⟨(some 34), .callv (.t 3) [(.t 33)], none, []⟩, ⟨none, .store 5 (.t 2) (.t 34), none, []⟩]) .ret) (.seq (.region [⟨(some 35), .call 178 [(.t 0), (.v (.str [102, 97, 114]))], none, []⟩]) (.cond (.t 35) (.seq (.region [⟨(some 36), .call 110 [(.t 0), (.v (.str [40]))], none, []⟩]) (.seq (.region [⟨(some 37), .bin .add (.t 1) (.v (.int .i64 1)), none, []⟩, ⟨(some 38), .call 241 [(.t 0), (.v (.int .i64 0)), (.t 37)], none, []⟩, ⟨(some 39), .bin .add (.t 1) (.v (.int .i64 1)), none, []⟩, ⟨(some 40), .call 327 [(.t 0), (.v (.int .i64 19)), (.t 38), (.t 39)], none, []⟩, ⟨none, .store 5 (.t 2) (.t 40), none, []⟩]) .ret)) .skip)))))))))))))))))) (.seq (.region [⟨(some 41), .call 110 [(.t 0), (.v (.str [40]))], none, []⟩]) (.seq (.region [⟨(some 42), .bin .add (.t 1) (.v (.int .i64 1)), none, []⟩, ⟨(some 43), .call 241 [(.t 0), (.v (.int .i64 0)), (.t 42)], none, []⟩, ⟨(some 5), .alloc [(.int .i64 0), (.int .i64 0), (.str []), .nilsl, (.int .i64 0)], none, []⟩, ⟨none, .store 5 (.t 5) (.t 43), none, []⟩]) (.seq (.seq (.region [⟨(some 44), .call 108 [(.t 0), (.v (.str [44]))], none, []⟩]) (.cond (.t 44) (.seq (.region [⟨(some 45), .load 5 true (.t 5), none, []⟩, ⟨(some 46), .bin .add (.t 1) (.v (.int .i64 1)), none, []⟩, ⟨(some 47), .call 327 [(.t 0), (.v (.int .i64 15)), (.t 45), (.t 46)], none, []⟩, ⟨none, .store 5 (.t 2) (.t 47), none, []⟩]) .ret) .skip)) (.seq (.region [⟨(some 48), .call 110 [(.t 0), (.v (.str [41]))], none, []⟩]) (.seq (.region [⟨(some 49), .load 5 true (.t 5), none, []⟩, ⟨none, .store 5 (.t 2) (.t 49), none, []⟩]) .ret)))))))) }
/-- puppeteer/check.plain -/
def c309 : OFunc := { np := 2, dep := 1, results := [(.t 3), (.t 4)], body := (.seq (.region [⟨(some 2), .box (.t 0), none, []⟩, ⟨(some 3), .mov (.v (.int .i64 0)), none, []⟩, ⟨(some 4), .mov (.v (.int .i64 0)), none, []⟩]) (.seq (.seq (.region [⟨(some 6), .faddr 0 (.t 2), none, []⟩, ⟨(some 7), .load 1 false (.t 6), none, []⟩]) (.block 0 (.seq (.region [⟨(some 8), .bin .eql (.t 7) (.v (.int .i64 1)), none, []⟩]) (.cond (.t 8) (.seq (.region [⟨(some 3), .mov (.v (.int .i64 1)), none, []⟩, ⟨(some 4), .mov (.v (.int .i64 0)), none, []⟩]) .ret) (.seq (.region [⟨(some 9), .bin .eql (.t 7) (.v (.int .i64 4)), none, []⟩]) (.cond (.t 9) (.seq (.region [⟨(some 3), .mov (.v (.int .i64 2)), none, []⟩, ⟨(some 4), .mov (.v (.int .i64 0)), none, []⟩]) .ret) (.seq (.region [⟨(some 10), .bin .eql (.t 7) (.v (.int .i64 3)), none, []⟩]) (.cond (.t 10) (.seq (.region [⟨(some 3), .mov (.v (.int .i64 3)), none, []⟩, ⟨(some 4), .mov (.v (.int .i64 0)), none, []⟩]) .ret) (.seq (.region [⟨(some 11), .bin .eql (.t 7) (.v (.int .i64 2)), none, []⟩]) (.cond (.t 11) (.seq (.region [⟨(some 12), .faddr 2 (.t 2), none, []⟩, ⟨(some 13), .load 1 false (.t 12), none, []⟩, ⟨(some 5), .call 192 [(.t 1), (.t 13)], none, []⟩]) (.seq (.seq (.region [⟨(some 14), .bin .lss (.t 5) (.v (.int .i64 0)), none, []⟩]) (.cond (.t 14) (.seq (.region [⟨(some 3), .mov (.v (.int .i64 0)), none, []⟩, ⟨(some 4), .mov (.v (.int .i64 5)), none, []⟩]) .ret) .skip)) (.seq (.region [⟨(some 15), .iaddr 3 (.t 1) (.t 5), none, []⟩, ⟨(some 16), .faddr 1 (.t 15), none, []⟩, ⟨(some 3), .load 1 false (.t 16), none, []⟩, ⟨(some 4), .mov (.v (.int .i64 0)), none, []⟩]) .ret))) .skip)))))))))) (.seq (.region [⟨(some 3), .mov (.v (.int .i64 0)), none, []⟩, ⟨(some 4), .mov (.v (.int .i64 0)), none, []⟩]) .ret))) }
/-- puppeteer/point.Of$1 -/
def c319 : OFunc := { np := 1, dep := 0, results := [(.t 1)], body := (.seq (.region [⟨(some 1), .mov (.v (.flt .f64 0)), none, []⟩]) (.seq (.region [⟨(some 2), .call 214 [(.t 0), (.v (.int .i64 (-1099511627776))), (.v (.int .i64 1099511627776))], none, []⟩, ⟨(some 1), .convF .f64 (.t 2), none, []⟩]) .ret)) }
/-- (*puppeteer/expr.Reader).first$1 -/
def c326 : OFunc := { np := 1, dep := 0, results := [(.cell 2 5 true)], body := (.seq (.region [⟨(some 1), .box (.t 0), none, []⟩, ⟨(some 2), .alloc [(.int .i64 0), (.int .i64 0), (.str []), .nilsl, (.int .i64 0)], none, []⟩]) (.seq (.region [⟨(some 3), .load 4 true (.t 1), none, []⟩, ⟨(some 4), .build [(.int .i64 0), (.int .i64 0), (.str []), .nilsl, (.int .i64 0)] [(0, 4, (.t 3)), (4, 1, (.v (.int .i64 1)))], none, []⟩, ⟨none, .store 5 (.t 2) (.t 4), none, []⟩]) .ret)) }
/-- puppeteer/check.joined$1 -/
def c328 : OFunc := { np := 2, dep := 0, results := [(.t 3)], body := (.seq (.region [⟨(some 2), .box (.t 0), none, []⟩, ⟨(some 3), .mov (.v (.bool false)), none, []⟩]) (.seq (.region [⟨(some 4), .load 1 false (.t 1), none, []⟩, ⟨(some 5), .mkfn 330 [] [(.t 2)], none, []⟩, ⟨(some 6), .call 329 [(.t 4), (.t 5)], none, []⟩, ⟨(some 3), .un .not (.t 6), none, []⟩]) .ret)) }
/-- puppeteer/check.joined$1$1 -/
def c330 : OFunc := { np := 2, dep := 0, results := [(.t 2)], body := (.seq (.region [⟨(some 2), .mov (.v (.bool false)), none, []⟩]) (.seq (.region [⟨(some 3), .load 1 false (.t 1), none, []⟩, ⟨(some 2), .bin .neq (.t 0) (.t 3), none, []⟩]) .ret)) }
/-- puppeteer/flat.closed, an order -/
def v149x0 : OFunc := { np := 1, dep := 1, results := [(.t 2)], body := (.seq (.region [⟨(some 2), .mov (.v .nilsl), none, []⟩]) (.seq (.region [⟨(some 4), .mov (.t 0), none, []⟩, ⟨(some 5), .len 1 (.t 4), none, []⟩, ⟨(some 6), .bin .sub (.t 5) (.v (.int .i64 1)), none, []⟩, ⟨(some 3), .mov (.t 6), none, []⟩]) (.seq (.seq (.region [⟨(some 7), .alloc [(.bool false)], none, []⟩, ⟨none, .store 1 (.t 7) (.v (.bool true)), none, []⟩, ⟨none, .store 1 (.t 7) (.v (.bool false)), none, []⟩, ⟨(some 8), .load 1 false (.t 7), none, []⟩]) (.cond (.t 8) (.seq (.region [⟨(some 9), .mov (.t 0), none, []⟩, ⟨(some 10), .mov (.t 3), none, []⟩, ⟨(some 11), .bin .sub (.t 10) (.v (.int .i64 1)), none, []⟩, ⟨(some 12), .mov (.t 0), none, []⟩, ⟨(some 13), .mov (.t 3), none, []⟩, ⟨(some 14), .bin .sub (.t 13) (.v (.int .i64 1)), none, []⟩, ⟨(some 15), .iaddr 11 (.t 12) (.t 14), none, []⟩, ⟨(some 16), .faddr 1 (.t 15), none, []⟩, ⟨(some 17), .faddr 8 (.t 16), none, []⟩, ⟨(some 18), .load 1 false (.t 17), none, []⟩, ⟨(some 19), .mov (.t 0), none, []⟩, ⟨(some 20), .mov (.t 3), none, []⟩, ⟨(some 21), .iaddr 11 (.t 19) (.t 20), none, []⟩, ⟨(some 22), .faddr 1 (.t 21), none, []⟩, ⟨(some 23), .load 10 true (.t 22), none, []⟩, ⟨(some 24), .len 1 (.t 18), none, []⟩, ⟨(some 25), .lit 10 [(.int .i64 0), (.int .i64 0), (.int .i64 0), (.str []), (.int .i64 0), (.int .i64 0), (.str []), .nilsl, .nilsl, .nilsl] 1 [], none, []⟩, ⟨(some 26), .app 10 144 (.t 18) (.t 25), none, []⟩, ⟨(some 27), .iaddr 11 (.t 9) (.t 11), none, []⟩, ⟨(some 28), .faddr 1 (.t 27), none, []⟩, ⟨(some 29), .faddr 8 (.t 28), none, []⟩, ⟨none, .store 1 (.t 29) (.t 26), none, []⟩]) (.region [⟨(some 30), .iaddr 10 (.t 26) (.t 24), none, []⟩, ⟨none, .store 10 (.t 30) (.t 23), none, []⟩])) (.region [⟨(some 31), .mov (.t 0), none, []⟩, ⟨(some 32), .mov (.t 3), none, []⟩, ⟨(some 33), .bin .sub (.t 32) (.v (.int .i64 1)), none, []⟩, ⟨(some 34), .mov (.t 0), none, []⟩, ⟨(some 35), .mov (.t 3), none, []⟩, ⟨(some 36), .bin .sub (.t 35) (.v (.int .i64 1)), none, []⟩, ⟨(some 37), .iaddr 11 (.t 34) (.t 36), none, []⟩, ⟨(some 38), .faddr 1 (.t 37), none, []⟩, ⟨(some 39), .faddr 8 (.t 38), none, []⟩, ⟨(some 40), .load 1 false (.t 39), none, []⟩, ⟨(some 41), .mov (.t 0), none, []⟩, ⟨(some 42), .mov (.t 3), none, []⟩, ⟨(some 43), .iaddr 11 (.t 41) (.t 42), none, []⟩, ⟨(some 44), .faddr 1 (.t 43), none, []⟩, ⟨(some 45), .load 10 true (.t 44), none, []⟩, ⟨(some 46), .lit 10 [(.int .i64 0), (.int .i64 0), (.int .i64 0), (.str []), (.int .i64 0), (.int .i64 0), (.str []), .nilsl, .nilsl, .nilsl] 1 [(0, 10, (.t 45))], none, []⟩, ⟨(some 47), .app 10 144 (.t 40) (.t 46), none, []⟩, ⟨(some 48), .iaddr 11 (.t 31) (.t 33), none, []⟩, ⟨(some 49), .faddr 1 (.t 48), none, []⟩, ⟨(some 50), .faddr 8 (.t 49), none, []⟩, ⟨none, .store 1 (.t 50) (.t 47), none, []⟩]))) (.seq (.region [⟨(some 51), .mov (.t 0), none, []⟩, ⟨(some 52), .mov (.t 3), none, []⟩, ⟨(some 53), .slice 11 (.t 51) none (some (.t 52)) none, none, []⟩, ⟨(some 2), .mov (.t 53), none, []⟩]) .ret)))) }
/-- puppeteer/flat.closed, an order -/
def v149x1 : OFunc := { np := 1, dep := 1, results := [(.t 2)], body := (.seq (.region [⟨(some 2), .mov (.v .nilsl), none, []⟩]) (.seq (.region [⟨(some 4), .mov (.t 0), none, []⟩, ⟨(some 5), .len 1 (.t 4), none, []⟩, ⟨(some 6), .bin .sub (.t 5) (.v (.int .i64 1)), none, []⟩, ⟨(some 3), .mov (.t 6), none, []⟩]) (.seq (.seq (.region [⟨(some 7), .alloc [(.bool false)], none, []⟩, ⟨none, .store 1 (.t 7) (.v (.bool false)), none, []⟩, ⟨none, .store 1 (.t 7) (.v (.bool true)), none, []⟩, ⟨(some 8), .load 1 false (.t 7), none, []⟩]) (.cond (.t 8) (.seq (.region [⟨(some 9), .mov (.t 0), none, []⟩, ⟨(some 10), .mov (.t 3), none, []⟩, ⟨(some 11), .bin .sub (.t 10) (.v (.int .i64 1)), none, []⟩, ⟨(some 12), .mov (.t 0), none, []⟩, ⟨(some 13), .mov (.t 3), none, []⟩, ⟨(some 14), .bin .sub (.t 13) (.v (.int .i64 1)), none, []⟩, ⟨(some 15), .iaddr 11 (.t 12) (.t 14), none, []⟩, ⟨(some 16), .faddr 1 (.t 15), none, []⟩, ⟨(some 17), .faddr 8 (.t 16), none, []⟩, ⟨(some 18), .load 1 false (.t 17), none, []⟩, ⟨(some 19), .mov (.t 0), none, []⟩, ⟨(some 20), .mov (.t 3), none, []⟩, ⟨(some 21), .iaddr 11 (.t 19) (.t 20), none, []⟩, ⟨(some 22), .faddr 1 (.t 21), none, []⟩, ⟨(some 23), .load 10 true (.t 22), none, []⟩, ⟨(some 24), .len 1 (.t 18), none, []⟩, ⟨(some 25), .lit 10 [(.int .i64 0), (.int .i64 0), (.int .i64 0), (.str []), (.int .i64 0), (.int .i64 0), (.str []), .nilsl, .nilsl, .nilsl] 1 [], none, []⟩, ⟨(some 26), .app 10 144 (.t 18) (.t 25), none, []⟩, ⟨(some 27), .iaddr 11 (.t 9) (.t 11), none, []⟩, ⟨(some 28), .faddr 1 (.t 27), none, []⟩, ⟨(some 29), .faddr 8 (.t 28), none, []⟩, ⟨none, .store 1 (.t 29) (.t 26), none, []⟩]) (.region [⟨(some 30), .iaddr 10 (.t 26) (.t 24), none, []⟩, ⟨none, .store 10 (.t 30) (.t 23), none, []⟩])) (.region [⟨(some 31), .mov (.t 0), none, []⟩, ⟨(some 32), .mov (.t 3), none, []⟩, ⟨(some 33), .bin .sub (.t 32) (.v (.int .i64 1)), none, []⟩, ⟨(some 34), .mov (.t 0), none, []⟩, ⟨(some 35), .mov (.t 3), none, []⟩, ⟨(some 36), .bin .sub (.t 35) (.v (.int .i64 1)), none, []⟩, ⟨(some 37), .iaddr 11 (.t 34) (.t 36), none, []⟩, ⟨(some 38), .faddr 1 (.t 37), none, []⟩, ⟨(some 39), .faddr 8 (.t 38), none, []⟩, ⟨(some 40), .load 1 false (.t 39), none, []⟩, ⟨(some 41), .mov (.t 0), none, []⟩, ⟨(some 42), .mov (.t 3), none, []⟩, ⟨(some 43), .iaddr 11 (.t 41) (.t 42), none, []⟩, ⟨(some 44), .faddr 1 (.t 43), none, []⟩, ⟨(some 45), .load 10 true (.t 44), none, []⟩, ⟨(some 46), .lit 10 [(.int .i64 0), (.int .i64 0), (.int .i64 0), (.str []), (.int .i64 0), (.int .i64 0), (.str []), .nilsl, .nilsl, .nilsl] 1 [(0, 10, (.t 45))], none, []⟩, ⟨(some 47), .app 10 144 (.t 40) (.t 46), none, []⟩, ⟨(some 48), .iaddr 11 (.t 31) (.t 33), none, []⟩, ⟨(some 49), .faddr 1 (.t 48), none, []⟩, ⟨(some 50), .faddr 8 (.t 49), none, []⟩, ⟨none, .store 1 (.t 50) (.t 47), none, []⟩]))) (.seq (.region [⟨(some 51), .mov (.t 0), none, []⟩, ⟨(some 52), .mov (.t 3), none, []⟩, ⟨(some 53), .slice 11 (.t 51) none (some (.t 52)) none, none, []⟩, ⟨(some 2), .mov (.t 53), none, []⟩]) .ret)))) }
theorem vok149 : optAll Tryz.prog G Tryz.f149 [1, 2, 3, 4, 5, 6, 7, 8, 9, 10, 11, 12, 13, 14, 15, 16, 17, 18, 19, 20, 21, 22, 23, 24, 25, 26, 27, 28, 29, 30, 31, 32, 33, 34, 35, 36, 37, 38, 39, 40, 41, 42, 43, 44, 45, 46, 47, 48, 49, 50, 51, 52, 53, 54] 1 1 = some [v149x0, v149x1] := by kernel_rfl
def code : Nat → Option OFunc := fun f => match f with
  | 6 => some c6
  | 11 => some c11
  | 12 => some c12
  | 13 => some c13
  | 14 => some c14
  | 15 => some c15
  | 16 => some c16
  | 17 => some c17
  | 18 => some c18
  | 19 => some c19
  | 20 => some c20
  | 22 => some c22
  | 23 => some c23
  | 24 => some c24
  | 25 => some c25
  | 26 => some c26
  | 27 => some c27
  | 30 => some c30
  | 31 => some c31
  | 32 => some c32
  | 33 => some c33
  | 34 => some c34
  | 35 => some c35
  | 36 => some c36
  | 37 => some c37
  | 38 => some c38
  | 39 => some c39
  | 47 => some c47
  | 48 => some c48
  | 49 => some c49
  | 50 => some c50
  | 51 => some c51
  | 52 => some c52
  | 54 => some c54
  | 55 => some c55
  | 56 => some c56
  | 57 => some c57
  | 58 => some c58
  | 59 => some c59
  | 60 => some c60
  | 61 => some c61
  | 62 => some c62
  | 63 => some c63
  | 64 => some c64
  | 65 => some c65
  | 66 => some c66
  | 67 => some c67
  | 68 => some c68
  | 69 => some c69
  | 73 => some c73
  | 74 => some c74
  | 75 => some c75
  | 76 => some c76
  | 77 => some c77
  | 78 => some c78
  | 79 => some c79
  | 80 => some c80
  | 81 => some c81
  | 82 => some c82
  | 83 => some c83
  | 84 => some c84
  | 85 => some c85
  | 86 => some c86
  | 87 => some c87
  | 88 => some c88
  | 89 => some c89
  | 97 => some c97
  | 101 => some c101
  | 102 => some c102
  | 103 => some c103
  | 104 => some c104
  | 105 => some c105
  | 106 => some c106
  | 107 => some c107
  | 108 => some c108
  | 109 => some c109
  | 110 => some c110
  | 111 => some c111
  | 112 => some c112
  | 113 => some c113
  | 116 => some c116
  | 117 => some c117
  | 118 => some c118
  | 119 => some c119
  | 121 => some c121
  | 122 => some c122
  | 124 => some c124
  | 127 => some c127
  | 128 => some c128
  | 130 => some c130
  | 134 => some c134
  | 135 => some c135
  | 136 => some c136
  | 137 => some c137
  | 138 => some c138
  | 139 => some c139
  | 140 => some c140
  | 141 => some c141
  | 142 => some c142
  | 143 => some c143
  | 145 => some c145
  | 146 => some c146
  | 147 => some c147
  | 148 => some c148
  | 149 => some c149
  | 150 => some c150
  | 151 => some c151
  | 152 => some c152
  | 163 => some c163
  | 164 => some c164
  | 165 => some c165
  | 166 => some c166
  | 167 => some c167
  | 168 => some c168
  | 169 => some c169
  | 171 => some c171
  | 172 => some c172
  | 173 => some c173
  | 174 => some c174
  | 176 => some c176
  | 177 => some c177
  | 178 => some c178
  | 179 => some c179
  | 180 => some c180
  | 181 => some c181
  | 183 => some c183
  | 184 => some c184
  | 185 => some c185
  | 186 => some c186
  | 187 => some c187
  | 191 => some c191
  | 192 => some c192
  | 193 => some c193
  | 195 => some c195
  | 196 => some c196
  | 197 => some c197
  | 202 => some c202
  | 203 => some c203
  | 206 => some c206
  | 209 => some c209
  | 210 => some c210
  | 211 => some c211
  | 215 => some c215
  | 227 => some c227
  | 228 => some c228
  | 230 => some c230
  | 232 => some c232
  | 233 => some c233
  | 235 => some c235
  | 237 => some c237
  | 238 => some c238
  | 239 => some c239
  | 240 => some c240
  | 241 => some c241
  | 243 => some c243
  | 244 => some c244
  | 245 => some c245
  | 246 => some c246
  | 250 => some c250
  | 252 => some c252
  | 255 => some c255
  | 265 => some c265
  | 268 => some c268
  | 270 => some c270
  | 275 => some c275
  | 281 => some c281
  | 282 => some c282
  | 283 => some c283
  | 285 => some c285
  | 287 => some c287
  | 292 => some c292
  | 308 => some c308
  | 309 => some c309
  | 319 => some c319
  | 326 => some c326
  | 328 => some c328
  | 330 => some c330
  | _ => none
theorem ok6 : OFnOk Tryz.prog G 6 c6 := ⟨Tryz.f6, [1, 2, 3, 0, 0, 0, 4, 5, 6, 0, 7, 8, 9, 10, 11, 12, 0, 0, 0, 13, 0, 14, 0, 15, 0, 16, 0, 17, 0, 18, 0, 19, 0, 20, 0, 21, 0, 22, 0, 23, 0, 24, 25, 0, 0, 0, 0, 26, 27, 28, 29, 30, 0, 0, 31, 32, 0, 0, 33, 34, 35, 36, 0, 37, 0, 38, 0, 39, 40, 41, 0, 0, 42, 0, 43, 44, 45, 46, 0, 0, 0, 0, 47, 48, 0, 0, 49, 50, 0, 0, 0, 51, 0, 0, 52, 0, 53, 0, 54, 55, 56, 0, 57, 0, 58, 0, 59, 60, 61, 0, 62, 63, 0, 64, 65, 0, 66, 0, 67, 68, 0, 69, 0, 70, 71, 72, 73, 0, 74, 0], Tryz.func6, by decide, by kernel_rfl⟩
theorem ok11 : OFnOk Tryz.prog G 11 c11 := ⟨Tryz.f11, [1, 2, 3, 0, 4, 5, 6, 7, 8, 0, 0, 9, 0, 0, 0, 0, 10, 11, 12, 13, 14, 0, 0, 15, 16, 17, 18, 0, 0, 19, 20, 21, 22, 0, 0, 23, 0, 24, 25, 0, 26, 0, 27, 28, 0, 29, 0, 30, 31, 0, 32, 0, 33, 34, 35, 0, 36, 0, 37, 38, 0], Tryz.func11, by decide, by kernel_rfl⟩
theorem ok12 : OFnOk Tryz.prog G 12 c12 := ⟨Tryz.f12, [1, 0, 2, 3, 0, 4, 5], Tryz.func12, by decide, by kernel_rfl⟩
theorem ok13 : OFnOk Tryz.prog G 13 c13 := ⟨Tryz.f13, [1, 2, 0, 0, 3, 4, 5, 6, 7, 0, 8, 0, 0, 9, 10, 11, 12, 0, 13, 0, 0, 0, 14, 15, 16, 17, 0, 18, 0, 0, 0, 19, 20, 21, 22, 23, 24], Tryz.func13, by decide, by kernel_rfl⟩
theorem ok14 : OFnOk Tryz.prog G 14 c14 := ⟨Tryz.f14, [1, 2, 0, 3, 4, 5, 6, 7, 8, 0, 0, 9, 10, 11, 12, 13, 14, 0, 0, 0, 15, 0, 16, 17, 18, 0, 19, 0, 20, 21, 22, 0, 23, 24, 25, 0, 0, 26, 27, 28, 29, 30, 31, 32, 33, 34, 35, 0, 36, 37, 0, 38, 39, 40, 41, 42, 0, 43, 44, 45, 46, 47], Tryz.func14, by decide, by kernel_rfl⟩
theorem ok15 : OFnOk Tryz.prog G 15 c15 := ⟨Tryz.f15, [1, 0, 2, 0], Tryz.func15, by decide, by kernel_rfl⟩
theorem ok16 : OFnOk Tryz.prog G 16 c16 := ⟨Tryz.f16, [1, 0, 2, 3, 4, 5, 0, 6, 7, 8, 0, 9, 10, 11, 12, 0, 13, 14, 0, 0, 15, 16, 17, 18, 19, 0, 0], Tryz.func16, by decide, by kernel_rfl⟩
theorem ok17 : OFnOk Tryz.prog G 17 c17 := ⟨Tryz.f17, [1, 2, 0, 3, 4, 0, 5, 6, 7, 8, 9, 10, 0, 11, 12, 13, 14, 0], Tryz.func17, by decide, by kernel_rfl⟩
theorem ok18 : OFnOk Tryz.prog G 18 c18 := ⟨Tryz.f18, [1, 2, 3, 4, 0], Tryz.func18, by decide, by kernel_rfl⟩
theorem ok19 : OFnOk Tryz.prog G 19 c19 := ⟨Tryz.f19, [1, 0, 2, 3, 4, 0, 0, 5, 6, 7, 0], Tryz.func19, by decide, by kernel_rfl⟩
theorem ok20 : OFnOk Tryz.prog G 20 c20 := ⟨Tryz.f20, [1, 2, 3, 0, 0, 4, 5, 6, 0, 7, 8, 9, 10, 11, 12, 13, 0, 0, 14, 15, 16, 0, 17, 0], Tryz.func20, by decide, by kernel_rfl⟩
theorem ok22 : OFnOk Tryz.prog G 22 c22 := ⟨Tryz.f22, [1, 0, 2, 0, 3, 4, 0], Tryz.func22, by decide, by kernel_rfl⟩
theorem ok23 : OFnOk Tryz.prog G 23 c23 := ⟨Tryz.f23, [1, 0, 2, 0, 3, 4, 0], Tryz.func23, by decide, by kernel_rfl⟩
theorem ok24 : OFnOk Tryz.prog G 24 c24 := ⟨Tryz.f24, [1, 2, 0, 3, 4, 5, 0, 0, 6, 7, 8, 9, 10, 0, 11, 0, 12, 0, 13, 14, 15], Tryz.func24, by decide, by kernel_rfl⟩
theorem ok25 : OFnOk Tryz.prog G 25 c25 := ⟨Tryz.f25, [1, 0, 2, 3, 4, 5, 6, 0, 0, 7, 8, 9, 10, 11, 12, 13, 14, 15, 16, 17, 18, 19, 0, 20, 0, 21, 22, 23, 24, 25, 26, 27, 28, 0, 29, 30, 0, 31], Tryz.func25, by decide, by kernel_rfl⟩
theorem ok26 : OFnOk Tryz.prog G 26 c26 := ⟨Tryz.f26, [1, 2, 3, 4, 5, 6, 7, 0, 8, 9, 10, 11, 0, 0, 12, 13, 14, 15, 16, 0, 17, 0, 18, 19, 20, 21, 22, 23, 0, 24, 0, 25, 26, 27, 28, 29, 30, 31, 32, 33, 0, 0, 34, 0, 35, 36, 0, 37, 38, 39, 0, 0, 0], Tryz.func26, by decide, by kernel_rfl⟩
theorem ok27 : OFnOk Tryz.prog G 27 c27 := ⟨Tryz.f27, [1, 2, 0, 0, 3, 4, 5, 6, 7, 8, 9, 0, 0, 0, 0, 0, 0, 10, 11, 0, 0, 0, 12, 13, 14, 15, 16, 17, 0, 18, 0, 19, 20, 21, 22, 0, 0, 23, 24, 25, 26, 27, 28, 0], Tryz.func27, by decide, by kernel_rfl⟩
theorem ok30 : OFnOk Tryz.prog G 30 c30 := ⟨Tryz.f30, [1, 2, 0, 0, 3, 4, 0, 0, 5, 0, 0, 6, 7, 0, 8, 0, 0, 9, 0, 0, 10, 11, 0, 0, 0, 0], Tryz.func30, by decide, by kernel_rfl⟩
theorem ok31 : OFnOk Tryz.prog G 31 c31 := ⟨Tryz.f31, [1, 2, 0, 0, 3, 4, 0, 5, 6, 7, 8, 0, 9, 10, 11, 12, 13, 14, 0, 15, 16, 0, 17, 18, 19, 0, 20, 21, 22, 23, 24, 25, 0, 26, 27, 28, 0, 29, 0, 30, 31, 32, 33, 0, 0, 34, 0, 35, 0, 0, 36, 37, 38, 0, 0, 39, 40, 41, 42, 43, 44, 45, 0, 46, 47, 48, 0, 49, 50, 51, 52, 0, 53, 0, 54, 0, 0, 0, 0, 0, 55, 56, 0, 57, 58, 59, 0, 60], Tryz.func31, by decide, by kernel_rfl⟩
theorem ok32 : OFnOk Tryz.prog G 32 c32 := ⟨Tryz.f32, [1, 0, 2, 0, 3, 4, 0, 0], Tryz.func32, by decide, by kernel_rfl⟩
theorem ok33 : OFnOk Tryz.prog G 33 c33 := ⟨Tryz.f33, [1, 0, 2, 0, 3, 4, 0, 0], Tryz.func33, by decide, by kernel_rfl⟩
theorem ok34 : OFnOk Tryz.prog G 34 c34 := ⟨Tryz.f34, [1, 2, 0, 3, 4, 5, 0, 6, 0, 7, 8, 0, 0, 9, 10, 11, 12, 0, 13, 14, 15, 16, 17, 18, 19, 20, 21, 0, 22, 23, 24, 25, 26, 0, 0, 0, 27, 0, 28, 29, 30, 0, 0, 31, 32, 33, 0, 0, 0, 0], Tryz.func34, by decide, by kernel_rfl⟩
theorem ok35 : OFnOk Tryz.prog G 35 c35 := ⟨Tryz.f35, [1, 2, 3, 0, 4, 0, 5, 6, 0, 7, 0, 0, 0, 8, 9, 10, 11, 12, 13, 0, 14, 15, 16, 17, 18, 19, 20, 21, 22, 23, 0, 24, 25, 26, 27, 28, 29, 30, 0, 31, 0, 0, 0, 0, 0, 0, 32, 33, 34, 0], Tryz.func35, by decide, by kernel_rfl⟩
theorem ok36 : OFnOk Tryz.prog G 36 c36 := ⟨Tryz.f36, [1, 0, 2, 3, 4, 5, 0, 6, 7, 8, 0, 0, 9, 10, 11, 0, 0, 12, 13, 14, 15, 0, 16, 17, 18, 19, 20, 21, 22], Tryz.func36, by decide, by kernel_rfl⟩
theorem ok37 : OFnOk Tryz.prog G 37 c37 := ⟨Tryz.f37, [1, 0, 2, 3, 0, 4, 5, 6, 7, 8, 9, 10, 11, 12, 13, 14, 15, 16, 17, 18, 0, 19, 20, 0, 0, 0], Tryz.func37, by decide, by kernel_rfl⟩
theorem ok38 : OFnOk Tryz.prog G 38 c38 := ⟨Tryz.f38, [1, 2, 3, 4, 5, 6, 7, 8, 9, 10, 11, 12, 13, 14, 15, 16, 17, 18, 19, 20, 21, 22, 0, 23, 24, 25, 26, 0, 27, 28, 29, 0, 30], Tryz.func38, by decide, by kernel_rfl⟩
theorem ok39 : OFnOk Tryz.prog G 39 c39 := ⟨Tryz.f39, [1, 2, 0, 0, 3, 4, 5, 0, 0, 0, 0, 6, 7, 8, 0, 9, 10, 11, 12, 0, 13, 14, 15, 0, 16, 17, 0, 0, 0, 18, 0, 0], Tryz.func39, by decide, by kernel_rfl⟩
theorem ok47 : OFnOk Tryz.prog G 47 c47 := ⟨Tryz.f47, [1, 2, 0, 0, 3, 4, 5, 6, 7, 0, 8, 9, 10, 0, 11, 12, 13, 14, 15, 0, 0, 16, 17, 0, 18, 19, 20, 21, 22, 23, 0, 0, 24, 25, 26, 27, 0, 28, 29, 30, 31, 32, 0, 33, 0, 0, 34, 0, 35, 0, 0, 36, 37, 0, 0, 0, 38, 39, 40, 41, 42, 0, 43, 44, 45, 46, 47, 0, 0, 0, 0, 48, 0, 0, 0, 0, 49, 50, 51, 0], Tryz.func47, by decide, by kernel_rfl⟩
theorem ok48 : OFnOk Tryz.prog G 48 c48 := ⟨Tryz.f48, [1, 0, 2, 3, 4, 5, 0, 0, 6, 7, 8, 0, 9, 0, 0, 10, 11, 0], Tryz.func48, by decide, by kernel_rfl⟩
theorem ok49 : OFnOk Tryz.prog G 49 c49 := ⟨Tryz.f49, [1, 0, 2, 0, 3, 4, 5, 0], Tryz.func49, by decide, by kernel_rfl⟩
theorem ok50 : OFnOk Tryz.prog G 50 c50 := ⟨Tryz.f50, [1, 2, 0], Tryz.func50, by decide, by kernel_rfl⟩
theorem ok51 : OFnOk Tryz.prog G 51 c51 := ⟨Tryz.f51, [1, 0, 2, 3, 4, 5, 6, 7, 8, 9, 10, 0, 11, 12, 0, 0, 0, 0, 0, 13, 14, 0, 0, 0, 15, 16, 0, 0, 17, 18, 19, 0, 0, 0, 0, 20, 21, 22, 23, 24, 0, 25, 0, 0, 26, 0, 27, 28, 0, 0, 0, 0], Tryz.func51, by decide, by kernel_rfl⟩
theorem ok52 : OFnOk Tryz.prog G 52 c52 := ⟨Tryz.f52, [1, 2, 3, 4, 5, 6, 7, 8, 0, 9, 0, 0, 10, 11, 12, 13, 14, 0, 15, 16, 17, 0], Tryz.func52, by decide, by kernel_rfl⟩
theorem ok54 : OFnOk Tryz.prog G 54 c54 := ⟨Tryz.f54, [1, 2, 0, 0, 3, 0, 4, 5, 6, 7, 0, 8, 9, 0, 0, 0, 10, 11, 12, 13, 14, 0, 15, 16, 17, 0, 0, 18, 19, 20, 0, 21, 22, 23, 24, 25, 26, 0, 27, 28, 0, 0, 0, 29, 30, 31, 32, 33, 0, 34, 35, 36, 0, 37, 38, 39, 40, 0, 41, 42, 43, 0, 44, 45, 0, 46, 47, 48, 0, 0, 49, 50, 51, 52, 53, 54, 55, 56, 57, 0, 58, 59, 0, 0, 0, 60, 61, 62, 63, 64, 0, 65, 66, 67, 0, 0, 68, 69, 70, 0, 71, 72, 73, 74, 75], Tryz.func54, by decide, by kernel_rfl⟩
theorem ok55 : OFnOk Tryz.prog G 55 c55 := ⟨Tryz.f55, [1, 2, 0, 3, 4, 5, 6, 0, 7, 8, 9, 0], Tryz.func55, by decide, by kernel_rfl⟩
theorem ok56 : OFnOk Tryz.prog G 56 c56 := ⟨Tryz.f56, [1, 2, 3, 4, 5, 6, 0, 7, 8, 9, 0, 10, 11, 12, 13, 14, 15, 16, 0, 17, 18, 19, 0, 0, 0], Tryz.func56, by decide, by kernel_rfl⟩
theorem ok57 : OFnOk Tryz.prog G 57 c57 := ⟨Tryz.f57, [1, 2, 0, 3, 4, 5, 6, 7, 0, 8, 9, 10, 11, 12, 0, 13, 14, 15, 16, 17, 0], Tryz.func57, by decide, by kernel_rfl⟩
theorem ok58 : OFnOk Tryz.prog G 58 c58 := ⟨Tryz.f58, [1, 2, 0, 0, 3, 4, 0], Tryz.func58, by decide, by kernel_rfl⟩
theorem ok59 : OFnOk Tryz.prog G 59 c59 := ⟨Tryz.f59, [1, 2, 3, 4, 5, 6, 7, 8, 9, 10, 11, 12, 13, 14, 15, 16, 0, 17, 18, 19, 0, 20, 0, 21, 0, 22, 23, 24, 25, 26, 27, 28, 29, 30, 0, 31, 32, 33, 34, 35, 0, 36, 37, 38, 39, 40, 0, 41, 42, 43, 0], Tryz.func59, by decide, by kernel_rfl⟩
theorem ok60 : OFnOk Tryz.prog G 60 c60 := ⟨Tryz.f60, [1, 2, 0, 3, 4, 5, 0, 6, 7, 8, 9, 0, 10, 11, 12, 13, 14, 15, 0], Tryz.func60, by decide, by kernel_rfl⟩
theorem ok61 : OFnOk Tryz.prog G 61 c61 := ⟨Tryz.f61, [1, 2, 0, 0, 3, 4, 5, 0, 6, 0, 0, 0, 7, 8, 9], Tryz.func61, by decide, by kernel_rfl⟩
theorem ok62 : OFnOk Tryz.prog G 62 c62 := ⟨Tryz.f62, [1, 0, 2, 3, 0, 4, 5, 6, 0, 0, 7, 8, 9, 0, 0, 10, 0, 11, 12, 0, 0, 0, 13, 14, 15, 0, 0, 16, 17, 18, 19, 0], Tryz.func62, by decide, by kernel_rfl⟩
theorem ok63 : OFnOk Tryz.prog G 63 c63 := ⟨Tryz.f63, [1, 2, 0, 0, 3, 4, 5, 6, 7, 8, 9, 10, 11, 0, 12, 13, 0, 0, 0, 0, 14, 15, 16, 0, 0], Tryz.func63, by decide, by kernel_rfl⟩
theorem ok64 : OFnOk Tryz.prog G 64 c64 := ⟨Tryz.f64, [1, 2, 0, 3, 4, 5, 6, 7, 0, 8, 9, 10, 11, 0, 12, 0], Tryz.func64, by decide, by kernel_rfl⟩
theorem ok65 : OFnOk Tryz.prog G 65 c65 := ⟨Tryz.f65, [1, 2, 0, 3, 4, 0, 5, 0], Tryz.func65, by decide, by kernel_rfl⟩
theorem ok66 : OFnOk Tryz.prog G 66 c66 := ⟨Tryz.f66, [1, 2, 3, 4, 5, 6, 7, 8, 9, 10, 11, 12, 13, 0, 14, 15, 16, 17, 0, 18, 19, 0, 0, 20, 21, 22, 23, 24, 25, 0, 0, 26, 27, 28, 0, 0], Tryz.func66, by decide, by kernel_rfl⟩
theorem ok67 : OFnOk Tryz.prog G 67 c67 := ⟨Tryz.f67, [1, 2, 3, 0, 0, 0, 4, 5, 6, 0, 0, 7, 8, 9, 10, 0, 11, 12, 13, 0, 14, 0, 15, 16, 17, 18, 0, 0, 19, 20, 21, 22, 23, 24, 25, 0, 26, 27], Tryz.func67, by decide, by kernel_rfl⟩
theorem ok68 : OFnOk Tryz.prog G 68 c68 := ⟨Tryz.f68, [1, 0, 2, 3, 4, 5, 6, 0, 7, 8, 9, 0, 0, 10, 11, 12, 13, 0, 0, 0, 14, 15, 16, 17, 18, 19, 20, 21, 22, 0, 0, 0, 23, 24, 25, 0, 26, 0, 0, 0, 27, 28, 29, 0, 30, 31, 32, 33, 0, 0, 34, 35, 36, 0, 37, 0, 38, 39, 40, 0, 0, 0, 41, 42, 43, 44, 45, 46, 0, 47, 48, 0, 0, 49, 50, 51, 52], Tryz.func68, by decide, by kernel_rfl⟩
theorem ok69 : OFnOk Tryz.prog G 69 c69 := ⟨Tryz.f69, [1, 2, 0, 3, 4, 0, 5, 6, 7, 8, 9, 0, 0, 10, 11, 12, 13, 14, 15, 16, 17], Tryz.func69, by decide, by kernel_rfl⟩
theorem ok73 : OFnOk Tryz.prog G 73 c73 := ⟨Tryz.f73, [1, 2, 3, 4, 0, 5, 0, 6, 7, 8, 9, 10, 0, 0, 11, 0, 12, 13, 14, 15, 16, 0, 0, 0, 17, 18, 19, 0, 20, 21, 22, 23, 24, 25, 26, 0, 27, 28, 29, 30, 31, 0, 0, 32, 33, 34, 35, 36, 37, 0, 38, 39, 40, 41, 42, 0, 43, 44, 45, 46], Tryz.func73, by decide, by kernel_rfl⟩
theorem ok74 : OFnOk Tryz.prog G 74 c74 := ⟨Tryz.f74, [1, 0, 2, 0, 3, 4, 5, 0, 6, 7, 8, 9, 0, 10, 11, 12, 0, 13, 14, 15, 16, 17, 0], Tryz.func74, by decide, by kernel_rfl⟩
theorem ok75 : OFnOk Tryz.prog G 75 c75 := ⟨Tryz.f75, [1, 2, 3, 0, 4, 0, 0, 5, 6, 7, 8, 0, 0, 9, 10, 11, 12, 13, 0, 0, 0, 14, 15, 16, 0, 17, 18, 19, 20, 0, 21, 22, 23, 0, 24, 25, 26, 27, 28, 0, 29, 30, 31, 0, 32, 33, 34, 35, 36, 37, 38, 39, 40, 41], Tryz.func75, by decide, by kernel_rfl⟩
theorem ok76 : OFnOk Tryz.prog G 76 c76 := ⟨Tryz.f76, [1, 2, 0, 0, 3, 4, 5, 6, 7, 8, 0, 9, 10, 11, 12, 0, 13, 14, 0, 15, 0, 0, 16, 17, 0, 0, 0, 0, 18, 19, 0, 20, 21, 0, 0, 22, 23, 24, 0, 25, 26, 27, 28, 29, 30, 31, 32, 0, 0, 33, 0, 0, 34, 0, 0, 35, 0, 0, 36, 37, 38, 0, 0, 39, 40, 41, 42, 0, 0, 0, 0, 43, 0, 44, 0, 45, 46, 47, 48, 49, 0, 50, 51, 0, 0, 52, 53, 54, 0, 55, 56, 57, 58, 59, 60, 61, 0, 0, 62, 63, 64, 0, 65, 66, 67, 68, 69, 70, 71, 72, 0, 73, 74, 75, 0, 76, 77, 78, 0, 0, 79, 80, 81], Tryz.func76, by decide, by kernel_rfl⟩
theorem ok77 : OFnOk Tryz.prog G 77 c77 := ⟨Tryz.f77, [1, 2, 3, 0, 4, 0, 5, 0, 0, 6, 0, 0, 7, 8, 9, 10, 11, 12, 0, 0, 13, 14, 15, 16, 17, 18, 19, 20, 21, 22, 23, 24, 25, 26, 27, 28, 0, 29, 30, 31, 32, 33, 34, 35, 36, 37, 0, 0, 0, 38, 39, 40, 0, 41, 42, 43, 0, 44, 45, 46, 47, 48, 49, 50, 51, 52, 53, 54, 55, 56], Tryz.func77, by decide, by kernel_rfl⟩
theorem ok78 : OFnOk Tryz.prog G 78 c78 := ⟨Tryz.f78, [1, 2, 0, 0, 0, 3, 4, 5, 6, 7, 0, 0, 8, 9, 10, 0, 11, 0, 12, 13, 14, 15, 16, 17, 0, 18, 19, 20, 21, 22, 23, 24], Tryz.func78, by decide, by kernel_rfl⟩
theorem ok79 : OFnOk Tryz.prog G 79 c79 := ⟨Tryz.f79, [1, 0, 2, 0, 0], Tryz.func79, by decide, by kernel_rfl⟩
theorem ok80 : OFnOk Tryz.prog G 80 c80 := ⟨Tryz.f80, [1, 0, 2, 0, 0], Tryz.func80, by decide, by kernel_rfl⟩
theorem ok81 : OFnOk Tryz.prog G 81 c81 := ⟨Tryz.f81, [1, 2, 3, 0, 4, 0, 5, 6, 7, 8, 9, 0, 0, 10, 0, 11, 12, 13, 14, 15, 16, 0], Tryz.func81, by decide, by kernel_rfl⟩
theorem ok82 : OFnOk Tryz.prog G 82 c82 := ⟨Tryz.f82, [1, 2, 3, 4, 5, 6, 7, 8], Tryz.func82, by decide, by kernel_rfl⟩
theorem ok83 : OFnOk Tryz.prog G 83 c83 := ⟨Tryz.f83, [1, 0, 2, 3, 0, 4, 5, 6, 7, 8, 9, 10, 0, 11, 12, 13, 0, 0, 0], Tryz.func83, by decide, by kernel_rfl⟩
theorem ok84 : OFnOk Tryz.prog G 84 c84 := ⟨Tryz.f84, [1, 0, 2, 3, 4, 5, 6, 7, 0, 0, 0, 0, 8, 0, 0, 9, 10, 11, 0, 0, 12, 0, 0, 13, 14, 15, 0, 16, 0, 17, 0, 0, 18, 19, 20, 0, 21, 0, 22, 0, 0, 23, 0, 24, 25, 26, 27, 0, 0, 28, 0, 0, 29, 30, 31, 0, 0, 32, 33, 34, 35, 36, 37, 0, 0, 0, 0, 38, 39, 40, 41, 42, 0, 0, 0, 0, 0, 43, 0, 44, 0, 0, 45, 46, 47, 0, 48, 49, 0, 0, 0, 0, 50, 51, 52, 53, 0, 0, 54, 0, 55, 0, 56, 57, 58, 0, 59, 60, 61, 0, 62, 63, 64], Tryz.func84, by decide, by kernel_rfl⟩
theorem ok85 : OFnOk Tryz.prog G 85 c85 := ⟨Tryz.f85, [1, 2, 3, 4, 0, 5, 6, 7, 8, 9, 10, 11, 12, 0, 13, 14, 0, 0, 0, 0], Tryz.func85, by decide, by kernel_rfl⟩
theorem ok86 : OFnOk Tryz.prog G 86 c86 := ⟨Tryz.f86, [1, 2, 3, 0, 4, 5, 6, 0, 7, 8, 9, 10, 0, 11, 12, 13, 14, 0, 15, 16, 17, 18, 19, 20, 21, 22, 0, 23, 24, 25, 26, 0, 27, 28, 29, 30, 31, 32, 33, 34, 35, 36, 37, 38, 39, 40, 41, 0], Tryz.func86, by decide, by kernel_rfl⟩
theorem ok87 : OFnOk Tryz.prog G 87 c87 := ⟨Tryz.f87, [1, 0, 2, 0, 3, 4, 0, 0], Tryz.func87, by decide, by kernel_rfl⟩
theorem ok88 : OFnOk Tryz.prog G 88 c88 := ⟨Tryz.f88, [1, 0, 2, 0, 3, 4, 0, 0], Tryz.func88, by decide, by kernel_rfl⟩
theorem ok89 : OFnOk Tryz.prog G 89 c89 := ⟨Tryz.f89, [1, 0, 2, 0, 3, 4, 0, 0], Tryz.func89, by decide, by kernel_rfl⟩
theorem ok97 : OFnOk Tryz.prog G 97 c97 := ⟨Tryz.f97, [1, 2, 3, 0, 0, 0, 4, 0, 5, 6, 7, 0, 8, 0, 9, 0, 10, 11, 12, 0, 13, 0], Tryz.func97, by decide, by kernel_rfl⟩
theorem ok101 : OFnOk Tryz.prog G 101 c101 := ⟨Tryz.f101, [1, 2, 3, 4, 5, 6, 7, 8, 9, 10, 11, 12, 13, 14, 15], Tryz.func101, by decide, by kernel_rfl⟩
theorem ok102 : OFnOk Tryz.prog G 102 c102 := ⟨Tryz.f102, [1, 0, 2, 3], Tryz.func102, by decide, by kernel_rfl⟩
theorem ok103 : OFnOk Tryz.prog G 103 c103 := ⟨Tryz.f103, [1, 2, 0, 3, 4, 5, 6, 7, 0, 8, 9, 0, 10, 11, 12, 13, 14, 15, 0, 16, 17, 18, 19, 20, 21, 0, 0, 0, 22, 0, 23, 0, 24, 0, 25, 26, 27, 28, 0, 29, 30, 31, 32, 33, 34, 35, 36, 0, 37, 38, 39, 40, 0, 41, 42, 43, 0, 0, 44, 45, 46, 47, 48, 49, 50, 51, 52, 53, 54], Tryz.func103, by decide, by kernel_rfl⟩
theorem ok104 : OFnOk Tryz.prog G 104 c104 := ⟨Tryz.f104, [1, 2, 0, 0, 3, 4, 0, 5, 0, 6, 7, 8, 9, 10, 11, 12, 13, 14, 15, 16, 0, 0, 17, 18, 19, 20, 0, 21, 22, 23, 24, 25, 26, 0, 0, 0], Tryz.func104, by decide, by kernel_rfl⟩
theorem ok105 : OFnOk Tryz.prog G 105 c105 := ⟨Tryz.f105, [1, 0, 2, 3, 4, 0, 5, 0, 6, 7, 0, 0, 8, 9, 10, 11, 0, 0], Tryz.func105, by decide, by kernel_rfl⟩
theorem ok106 : OFnOk Tryz.prog G 106 c106 := ⟨Tryz.f106, [1, 0, 2, 3, 4, 5, 0, 0, 6, 0, 0, 7, 0, 8, 0, 0, 9, 10, 0, 0, 0, 0, 11, 0, 0, 0, 0, 0], Tryz.func106, by decide, by kernel_rfl⟩
theorem ok107 : OFnOk Tryz.prog G 107 c107 := ⟨Tryz.f107, [1, 0, 2, 3, 4, 5, 6, 7, 8, 0, 0, 9, 0, 10, 0, 11, 0, 0, 12, 13, 0, 0, 0, 14, 15, 0, 16, 0, 17, 0, 0, 0, 18, 19, 0, 0, 20, 21, 0, 22, 0, 0, 0, 0, 23, 24, 25, 26, 0, 27, 0, 0, 0, 0, 0, 28, 0, 29, 0, 30], Tryz.func107, by decide, by kernel_rfl⟩
theorem ok108 : OFnOk Tryz.prog G 108 c108 := ⟨Tryz.f108, [1, 2, 0, 0, 3, 4, 0, 5, 6, 7, 0, 8, 9, 10, 11, 0, 12, 13, 14, 0, 15, 0], Tryz.func108, by decide, by kernel_rfl⟩
theorem ok109 : OFnOk Tryz.prog G 109 c109 := ⟨Tryz.f109, [1, 2, 3, 0, 0, 0, 0, 0, 4, 0, 5, 6, 7], Tryz.func109, by decide, by kernel_rfl⟩
theorem ok110 : OFnOk Tryz.prog G 110 c110 := ⟨Tryz.f110, [1, 2, 0, 0, 0, 0, 3, 4, 0, 5], Tryz.func110, by decide, by kernel_rfl⟩
theorem ok111 : OFnOk Tryz.prog G 111 c111 := ⟨Tryz.f111, [1, 0, 2, 3, 4, 0, 5, 6, 0, 0, 7, 0, 8, 9, 10, 0, 11, 12, 13, 0, 14, 0, 15, 16, 17, 18, 19, 20, 0, 21, 22, 23, 0, 24, 25, 26, 27], Tryz.func111, by decide, by kernel_rfl⟩
theorem ok112 : OFnOk Tryz.prog G 112 c112 := ⟨Tryz.f112, [1, 0, 2, 0, 3, 0], Tryz.func112, by decide, by kernel_rfl⟩
theorem ok113 : OFnOk Tryz.prog G 113 c113 := ⟨Tryz.f113, [1, 2, 3, 4, 5, 6, 7, 8, 9, 10, 11, 12, 13, 14, 15, 16, 17, 18, 0, 0, 19, 0, 20, 0, 21, 22, 23, 24, 25, 26, 27, 28, 29, 30, 31, 32, 33, 34, 35, 36, 37, 38, 39, 40, 41, 0, 42, 43, 44, 45, 46, 47, 48, 49, 50, 51, 0, 52, 53, 54, 0, 0, 55, 56, 57, 58, 59, 60, 61, 62, 63, 64, 0, 65, 66, 67, 68, 69, 70, 71, 72, 73, 74, 75, 76], Tryz.func113, by decide, by kernel_rfl⟩
theorem ok116 : OFnOk Tryz.prog G 116 c116 := ⟨Tryz.f116, [1, 2, 3, 4, 5, 6, 0, 7, 8, 9, 10, 11, 12, 0, 13, 14, 15, 16, 0, 17, 0, 18, 19, 20, 21, 0, 0, 22, 23, 24, 25, 26, 27, 28, 0, 29, 30, 31, 0, 32, 0, 33, 34, 35, 36, 37, 38, 39, 40, 41, 42, 0, 0, 43, 0, 0, 44, 0, 45, 46, 47, 48, 49, 0, 50, 0, 51, 52, 53, 54, 55, 56, 0, 57, 0, 58, 59, 0, 60, 61, 0, 0, 62, 63, 64, 0, 65, 66, 0, 67, 0, 68, 69, 70, 0], Tryz.func116, by decide, by kernel_rfl⟩
theorem ok117 : OFnOk Tryz.prog G 117 c117 := ⟨Tryz.f117, [1, 2, 0, 0, 3, 0, 0, 4, 0], Tryz.func117, by decide, by kernel_rfl⟩
theorem ok118 : OFnOk Tryz.prog G 118 c118 := ⟨Tryz.f118, [1, 2, 3, 4, 5, 6, 7, 8, 9, 10, 0], Tryz.func118, by decide, by kernel_rfl⟩
theorem ok119 : OFnOk Tryz.prog G 119 c119 := ⟨Tryz.f119, [1, 2, 3, 0, 0, 0, 4, 5, 6, 7, 8, 0, 9, 10, 11, 0, 0, 12, 0, 0, 13, 14, 0, 15, 16, 17, 0, 0, 18, 0, 0, 19, 20, 21, 0, 22, 23, 24, 25, 0, 0, 0, 26, 27, 28, 0, 29, 30, 31, 0, 32, 33, 34, 0, 0, 35, 36, 37, 0, 38, 39, 40, 41, 42, 43, 44, 45, 46, 0], Tryz.func119, by decide, by kernel_rfl⟩
theorem ok121 : OFnOk Tryz.prog G 121 c121 := ⟨Tryz.f121, [1, 2, 0, 0, 3, 4, 0, 5, 6, 7, 0, 0, 0, 0, 8, 9, 10, 0, 0], Tryz.func121, by decide, by kernel_rfl⟩
theorem ok122 : OFnOk Tryz.prog G 122 c122 := ⟨Tryz.f122, [1, 2, 3, 4, 5, 6, 7, 0], Tryz.func122, by decide, by kernel_rfl⟩
theorem ok124 : OFnOk Tryz.prog G 124 c124 := ⟨Tryz.f124, [1, 2, 3, 4, 5, 6, 7, 8, 0], Tryz.func124, by decide, by kernel_rfl⟩
theorem ok127 : OFnOk Tryz.prog G 127 c127 := ⟨Tryz.f127, [1, 2, 0, 3, 4, 0, 5, 6, 0], Tryz.func127, by decide, by kernel_rfl⟩
theorem ok128 : OFnOk Tryz.prog G 128 c128 := ⟨Tryz.f128, [1, 0, 2, 0, 0, 3, 0, 4, 5, 0], Tryz.func128, by decide, by kernel_rfl⟩
theorem ok130 : OFnOk Tryz.prog G 130 c130 := ⟨Tryz.f130, [1, 2, 3, 4, 5, 6, 7, 0], Tryz.func130, by decide, by kernel_rfl⟩
theorem ok134 : OFnOk Tryz.prog G 134 c134 := ⟨Tryz.f134, [1, 2, 0, 0, 3, 4, 5, 6, 0, 0, 7, 8, 9, 0, 10, 11, 12, 0, 0], Tryz.func134, by decide, by kernel_rfl⟩
theorem ok135 : OFnOk Tryz.prog G 135 c135 := ⟨Tryz.f135, [1, 2, 0, 0, 3, 4, 0, 0, 5, 0, 0, 6, 7, 8, 9, 10, 11, 12, 0, 13, 14, 15, 0, 16, 17], Tryz.func135, by decide, by kernel_rfl⟩
theorem ok136 : OFnOk Tryz.prog G 136 c136 := ⟨Tryz.f136, [1, 2, 3, 0, 4, 0, 5, 6, 7, 8, 9, 10, 0, 11, 12, 0, 0, 13, 14, 15, 0, 16, 17, 18, 0, 19, 20, 21, 0, 0, 22, 23, 24, 0, 25, 26, 27, 28, 0, 29, 30, 31, 32, 0, 33, 0, 0, 34, 35, 36, 37, 38, 39, 40, 0, 41, 42, 43, 44, 45, 46, 47], Tryz.func136, by decide, by kernel_rfl⟩
theorem ok137 : OFnOk Tryz.prog G 137 c137 := ⟨Tryz.f137, [1, 2, 3, 4, 0, 0, 5, 6, 7, 8, 9, 10, 11, 0, 12, 13, 14, 15, 0, 16, 17, 18, 19, 20, 0, 21, 22, 23, 24, 25, 26, 27, 28, 29, 0, 30, 31, 0, 32, 33, 34, 35, 36, 37, 38, 39, 40, 0, 0, 41, 42, 43, 44, 45, 46, 0, 0, 47, 48, 49, 50, 0, 51, 52, 53, 54, 55, 56, 0, 57, 58, 59, 60, 0, 61, 62, 63, 64, 65, 66, 67, 68, 69, 70, 71, 72, 0], Tryz.func137, by decide, by kernel_rfl⟩
theorem ok138 : OFnOk Tryz.prog G 138 c138 := ⟨Tryz.f138, [1, 2, 3, 4, 5, 6, 7, 8, 9, 0, 10, 11, 12, 13, 14, 15, 0, 16, 17, 18, 19, 20, 21, 0, 22, 23, 24, 25, 26, 27, 0, 28, 29, 30, 31, 32, 33, 0], Tryz.func138, by decide, by kernel_rfl⟩
theorem ok139 : OFnOk Tryz.prog G 139 c139 := ⟨Tryz.f139, [1, 0, 2, 3, 0, 4, 5, 0, 6, 7, 8, 9, 10, 11, 0, 0, 0, 12, 0, 0, 13, 14, 0, 0, 0, 15, 16, 17, 18, 19, 0, 0, 0, 0, 0, 0], Tryz.func139, by decide, by kernel_rfl⟩
theorem ok140 : OFnOk Tryz.prog G 140 c140 := ⟨Tryz.f140, [1, 2, 3, 0, 0, 4, 5, 6, 0, 7, 8, 0, 0, 9, 10, 11, 0], Tryz.func140, by decide, by kernel_rfl⟩
theorem ok141 : OFnOk Tryz.prog G 141 c141 := ⟨Tryz.f141, [1, 2, 0, 0, 3, 0, 4, 5, 6, 7, 8, 9, 0, 10, 11, 12, 0, 13, 0], Tryz.func141, by decide, by kernel_rfl⟩
theorem ok142 : OFnOk Tryz.prog G 142 c142 := ⟨Tryz.f142, [1, 2, 0, 0, 3, 4, 0, 0, 5, 6, 7, 0, 8, 9, 0, 10, 11, 12, 13, 14, 15, 0, 16, 17, 18, 19, 0, 0, 0, 20, 21, 22, 0, 23, 24, 25, 26, 27, 0, 28, 29, 30, 31, 32, 33, 0, 34, 35, 36, 37, 0, 0, 38, 39, 40, 0, 41, 42, 43, 44, 0, 45, 46, 0, 0, 47, 48, 49, 0, 50, 51, 52, 53, 54, 55, 56, 0, 0, 57, 58, 59, 60, 61, 62, 63, 64], Tryz.func142, by decide, by kernel_rfl⟩
theorem ok143 : OFnOk Tryz.prog G 143 c143 := ⟨Tryz.f143, [1, 2, 0, 0, 3, 0, 4, 5, 6, 7, 8, 9, 0, 10, 11, 12, 13, 0, 0, 14, 15, 16, 0, 17, 18, 19, 0, 0, 0, 20, 21, 22, 0, 23, 0, 24, 25, 26, 27, 0, 28, 29, 30, 31, 0, 0, 32, 33, 34, 0, 35, 36, 37, 0, 38, 39, 40, 0], Tryz.func143, by decide, by kernel_rfl⟩
theorem ok145 : OFnOk Tryz.prog G 145 c145 := ⟨Tryz.f145, [1, 2, 0, 0, 3, 0, 4, 5, 6, 7, 8, 9, 0, 10, 11, 12, 13, 14, 15, 16, 0, 0, 0, 0, 0, 17, 0, 0, 0, 0, 0, 18, 0, 0, 0, 0, 19, 0, 0, 0, 20, 21, 22, 23, 24, 25, 26, 0, 0, 0, 27, 28, 29, 0, 30, 31, 32, 0, 33, 34, 35, 36, 37, 38, 39, 0, 0, 40, 41, 42, 43, 44, 45, 0, 46, 47, 48, 49, 0, 50, 51, 52, 53, 0, 54, 55, 56, 57, 58, 59, 0, 60, 61, 62, 0, 63, 64, 65, 66, 67], Tryz.func145, by decide, by kernel_rfl⟩
theorem ok146 : OFnOk Tryz.prog G 146 c146 := ⟨Tryz.f146, [1, 0, 2, 3, 0, 4, 5, 6, 7, 8, 0, 9, 10, 11, 0, 12, 13, 14, 0, 15, 16, 17, 18, 19, 20, 21, 0, 22, 23, 24, 25, 26, 27, 28, 29], Tryz.func146, by decide, by kernel_rfl⟩
theorem ok147 : OFnOk Tryz.prog G 147 c147 := ⟨Tryz.f147, [1, 2, 0, 0, 3, 4, 0, 5, 0, 6, 7, 8, 9, 10, 11, 12, 13, 14, 15, 0, 16, 0, 17, 18, 19, 0, 0, 0], Tryz.func147, by decide, by kernel_rfl⟩
theorem ok148 : OFnOk Tryz.prog G 148 c148 := ⟨Tryz.f148, [1, 2, 3, 4, 5, 6, 7, 8, 9, 10, 11, 12, 13, 14, 15, 16, 17, 18], Tryz.func148, by decide, by kernel_rfl⟩
theorem ok149 : OFnOk Tryz.prog G 149 c149 := ⟨Tryz.f149, [1, 0, 2, 3, 0, 4, 0, 5, 6, 0, 0, 7, 0, 0, 8, 9, 10, 11, 12, 0, 0, 13, 14, 15, 16, 17, 18, 19, 20, 21, 22, 0, 0, 23, 0, 0, 24, 25, 26, 27, 28, 0, 0, 29, 30, 31, 32, 33, 34, 35, 36, 0, 0, 0], Tryz.func149, by decide, by kernel_rfl⟩
theorem ok150 : OFnOk Tryz.prog G 150 c150 := ⟨Tryz.f150, [1, 2, 0, 0, 3, 4, 5, 0, 0, 0, 0, 0, 0, 0, 0, 6, 0, 7, 0, 8, 0, 0, 0, 0, 0, 0], Tryz.func150, by decide, by kernel_rfl⟩
theorem ok151 : OFnOk Tryz.prog G 151 c151 := ⟨Tryz.f151, [1, 2, 3, 4, 5, 6, 7, 8, 0, 9, 10, 11, 12, 13, 14, 15, 16, 17, 18, 19, 20, 21, 0, 22, 23, 0, 24, 25, 0, 0, 26, 27, 28, 0, 29, 0], Tryz.func151, by decide, by kernel_rfl⟩
theorem ok152 : OFnOk Tryz.prog G 152 c152 := ⟨Tryz.f152, [1, 2, 3, 4, 5, 6, 0, 7, 8, 9, 10, 11, 12, 13, 14, 15, 16, 0, 17, 18, 19, 20, 21, 22, 23, 0, 24, 25, 0, 26, 0, 0, 27, 28, 0, 29, 0, 30, 31, 0, 32, 33, 34, 35, 36, 37, 38, 39, 40, 41, 0, 0, 0, 42, 0, 43, 44, 45, 46, 0, 47, 0], Tryz.func152, by decide, by kernel_rfl⟩
theorem ok163 : OFnOk Tryz.prog G 163 c163 := ⟨Tryz.f163, [1, 0, 2, 0, 3, 4, 0, 0], Tryz.func163, by decide, by kernel_rfl⟩
theorem ok164 : OFnOk Tryz.prog G 164 c164 := ⟨Tryz.f164, [1, 2, 3, 4, 0], Tryz.func164, by decide, by kernel_rfl⟩
theorem ok165 : OFnOk Tryz.prog G 165 c165 := ⟨Tryz.f165, [1, 2, 3, 4, 5, 6, 7, 0, 8, 9, 10, 11, 12, 13, 14, 15, 16, 17, 18, 19, 20, 21, 22, 23, 24, 25, 26, 27, 28, 0, 29, 30, 31, 32, 33, 0, 34, 35, 0, 0, 36, 37, 0, 0, 0, 38, 39, 0, 40, 41, 42, 0, 43, 44, 45], Tryz.func165, by decide, by kernel_rfl⟩
theorem ok166 : OFnOk Tryz.prog G 166 c166 := ⟨Tryz.f166, [1, 2, 0, 0, 3, 4, 0, 5, 0, 0, 6, 0, 0, 0, 0, 7, 8, 9, 0, 10, 0], Tryz.func166, by decide, by kernel_rfl⟩
theorem ok167 : OFnOk Tryz.prog G 167 c167 := ⟨Tryz.f167, [1, 0, 2, 3, 4, 5, 6, 7, 8, 9, 10, 0, 11, 12, 13, 14, 0, 15, 16, 0, 17, 0, 0, 18, 0, 0, 0, 19, 20, 21, 22, 23, 0, 0, 0, 24, 25, 26, 27, 28, 29, 30, 31, 0, 0], Tryz.func167, by decide, by kernel_rfl⟩
theorem ok168 : OFnOk Tryz.prog G 168 c168 := ⟨Tryz.f168, [1, 2, 0, 0, 3, 4, 5, 0, 0, 6, 0, 7, 8, 0, 0, 9, 0, 10, 0, 11, 12, 13, 0, 0, 14, 0, 0, 0, 15, 16, 17, 18, 0, 0, 0, 0, 0], Tryz.func168, by decide, by kernel_rfl⟩
theorem ok169 : OFnOk Tryz.prog G 169 c169 := ⟨Tryz.f169, [1, 2, 0, 0, 3, 0, 0, 0], Tryz.func169, by decide, by kernel_rfl⟩
theorem ok171 : OFnOk Tryz.prog G 171 c171 := ⟨Tryz.f171, [1, 0, 2, 3, 0, 0, 4, 0, 5, 0, 0, 6, 7, 8, 0, 0, 0], Tryz.func171, by decide, by kernel_rfl⟩
theorem ok172 : OFnOk Tryz.prog G 172 c172 := ⟨Tryz.f172, [1, 0, 2, 0, 0, 3, 0, 4, 0, 5, 0, 0, 6, 0, 7, 8, 0], Tryz.func172, by decide, by kernel_rfl⟩
theorem ok173 : OFnOk Tryz.prog G 173 c173 := ⟨Tryz.f173, [1, 0, 2, 3, 0, 0], Tryz.func173, by decide, by kernel_rfl⟩
theorem ok174 : OFnOk Tryz.prog G 174 c174 := ⟨Tryz.f174, [1, 0, 2, 0, 0, 3, 0, 4, 0], Tryz.func174, by decide, by kernel_rfl⟩
theorem ok176 : OFnOk Tryz.prog G 176 c176 := ⟨Tryz.f176, [1, 0, 2, 0, 3, 4, 5, 6, 7, 8, 0, 0, 0, 9, 0, 0], Tryz.func176, by decide, by kernel_rfl⟩
theorem ok177 : OFnOk Tryz.prog G 177 c177 := ⟨Tryz.f177, [1, 0, 2, 0, 3, 4, 5, 0, 6, 7, 8, 9, 10, 11, 0, 12, 13, 14, 0, 15, 16, 17, 18, 19], Tryz.func177, by decide, by kernel_rfl⟩
theorem ok178 : OFnOk Tryz.prog G 178 c178 := ⟨Tryz.f178, [1, 2, 0, 0, 3, 4, 0, 0, 0, 5, 0, 6, 7, 8, 9, 10, 11, 0], Tryz.func178, by decide, by kernel_rfl⟩
theorem ok179 : OFnOk Tryz.prog G 179 c179 := ⟨Tryz.f179, [1, 2, 0, 0, 3, 0, 0, 4, 5, 6, 0], Tryz.func179, by decide, by kernel_rfl⟩
theorem ok180 : OFnOk Tryz.prog G 180 c180 := ⟨Tryz.f180, [1, 2, 0, 0, 3, 4, 0, 5, 6, 7, 0, 8, 0, 9, 0, 10, 11, 12, 13, 14, 15, 16], Tryz.func180, by decide, by kernel_rfl⟩
theorem ok181 : OFnOk Tryz.prog G 181 c181 := ⟨Tryz.f181, [1, 0], Tryz.func181, by decide, by kernel_rfl⟩
theorem ok183 : OFnOk Tryz.prog G 183 c183 := ⟨Tryz.f183, [1, 2, 3, 4, 5, 6, 7, 8, 9, 0], Tryz.func183, by decide, by kernel_rfl⟩
theorem ok184 : OFnOk Tryz.prog G 184 c184 := ⟨Tryz.f184, [1, 2, 0, 0, 3, 0, 4, 5, 6, 0, 0, 7, 0, 8, 9, 10, 11, 12, 0, 0, 0, 0, 13, 0, 14, 0, 15, 16, 17], Tryz.func184, by decide, by kernel_rfl⟩
theorem ok185 : OFnOk Tryz.prog G 185 c185 := ⟨Tryz.f185, [1, 2, 3, 4, 5, 6, 7, 8, 9, 10, 11, 12, 13, 14, 15, 16, 17, 18, 19, 20, 21, 22, 23, 24, 25, 26, 27, 28, 29], Tryz.func185, by decide, by kernel_rfl⟩
theorem ok186 : OFnOk Tryz.prog G 186 c186 := ⟨Tryz.f186, [1, 0, 2, 0, 3, 4], Tryz.func186, by decide, by kernel_rfl⟩
theorem ok187 : OFnOk Tryz.prog G 187 c187 := ⟨Tryz.f187, [1, 0, 2, 3, 4, 5, 6, 0, 7, 8, 0, 0, 9, 10, 11, 12, 13, 0, 14, 15, 0, 0, 16, 17, 0, 0, 18, 19, 20, 0, 0, 21, 22, 23, 24, 0, 25, 0, 0, 26, 27, 0, 28, 29, 0, 30, 31, 32, 33, 0, 34, 0, 0, 35, 0, 36, 37, 38, 0, 39, 40], Tryz.func187, by decide, by kernel_rfl⟩
theorem ok191 : OFnOk Tryz.prog G 191 c191 := ⟨Tryz.f191, [1, 2, 3, 4, 0, 0, 5, 6, 7, 0, 8, 0, 9, 10, 11, 0, 12, 0, 0, 0, 13, 0], Tryz.func191, by decide, by kernel_rfl⟩
theorem ok192 : OFnOk Tryz.prog G 192 c192 := ⟨Tryz.f192, [1, 2, 0, 3, 4, 0, 5, 0], Tryz.func192, by decide, by kernel_rfl⟩
theorem ok193 : OFnOk Tryz.prog G 193 c193 := ⟨Tryz.f193, [1, 2, 3, 4, 5, 6, 7, 8, 0], Tryz.func193, by decide, by kernel_rfl⟩
theorem ok195 : OFnOk Tryz.prog G 195 c195 := ⟨Tryz.f195, [1, 2, 0, 0, 3, 4, 0, 5, 6, 7, 0, 0, 0, 0, 8, 9, 10, 0, 0], Tryz.func195, by decide, by kernel_rfl⟩
theorem ok196 : OFnOk Tryz.prog G 196 c196 := ⟨Tryz.f196, [1, 2, 0, 0, 3, 0, 0, 4, 0], Tryz.func196, by decide, by kernel_rfl⟩
theorem ok197 : OFnOk Tryz.prog G 197 c197 := ⟨Tryz.f197, [1, 2, 3, 0, 4, 0, 5, 6, 7, 0, 8, 9, 10, 11, 12, 13, 0, 14, 15, 0, 16, 17, 18, 0, 19, 20, 21, 22, 23, 24, 25, 0, 0, 26, 27, 0, 28, 29, 30, 0, 31, 32, 33, 34, 35, 36, 37, 38, 39, 40, 41, 42, 43, 44, 45, 46, 47, 48, 0, 0, 49, 0, 50, 51, 52, 53, 0, 54, 55, 0, 56, 57, 58, 59, 60, 61, 0, 62], Tryz.func197, by decide, by kernel_rfl⟩
theorem ok202 : OFnOk Tryz.prog G 202 c202 := ⟨Tryz.f202, [1, 2, 0, 3, 4, 5, 0, 6, 7, 8, 0, 9, 0, 0, 10, 11, 12, 0, 0], Tryz.func202, by decide, by kernel_rfl⟩
theorem ok203 : OFnOk Tryz.prog G 203 c203 := ⟨Tryz.f203, [1, 0, 2, 0, 3, 0, 0, 4, 0, 5, 6, 0, 7, 0, 8, 9, 10, 11, 0, 12, 13, 14, 15, 16, 0, 0, 17, 18, 0], Tryz.func203, by decide, by kernel_rfl⟩
theorem ok206 : OFnOk Tryz.prog G 206 c206 := ⟨Tryz.f206, [1, 0, 2, 0, 0, 3, 0, 4, 5, 0, 6], Tryz.func206, by decide, by kernel_rfl⟩
theorem ok209 : OFnOk Tryz.prog G 209 c209 := ⟨Tryz.f209, [1, 2, 0, 0, 3, 0, 4, 5, 0, 0, 6, 0, 7, 8, 0, 0, 9, 0, 0, 10, 11, 0, 12, 0, 13, 0, 0], Tryz.func209, by decide, by kernel_rfl⟩
theorem ok210 : OFnOk Tryz.prog G 210 c210 := ⟨Tryz.f210, [1, 2, 0, 0, 3, 0, 4, 5, 6, 7, 8, 9, 0, 10, 11, 12, 13, 14, 15, 16, 0, 17, 18, 19, 0, 20, 21, 22, 23, 0, 24, 0, 25, 26, 27, 0, 28, 29, 30, 0, 31, 32, 33, 34, 35, 36, 0, 0, 37, 38, 39, 0, 40, 41, 42, 0, 43, 44, 45, 0, 46, 47, 48, 49, 50, 51, 52, 53, 0, 54, 55, 56, 57, 58, 59, 0, 60, 61, 62, 0, 63, 64, 65, 66, 67, 0, 0, 68, 69, 70, 0, 71, 72, 73, 74, 75, 76, 77], Tryz.func210, by decide, by kernel_rfl⟩
theorem ok211 : OFnOk Tryz.prog G 211 c211 := ⟨Tryz.f211, [1, 2, 0, 0, 3, 0, 4, 5, 6, 0, 0, 7, 8, 9, 10, 11, 0, 12, 13, 14, 0, 15, 16, 17, 0, 18, 19, 20, 21, 22, 23, 0, 24, 25, 26, 27, 28, 29, 0, 0, 0], Tryz.func211, by decide, by kernel_rfl⟩
theorem ok215 : OFnOk Tryz.prog G 215 c215 := ⟨Tryz.f215, [1, 2, 3, 4, 5, 0, 6, 7, 8, 9, 0, 10, 11, 12, 13, 0, 14, 15, 16, 17, 18, 0], Tryz.func215, by decide, by kernel_rfl⟩
theorem ok227 : OFnOk Tryz.prog G 227 c227 := ⟨Tryz.f227, [1, 2, 3, 0, 4, 5, 6, 0, 7, 0, 0, 0, 8, 9, 10, 11, 0, 12, 13, 14, 0, 15, 16, 0, 17, 18, 19, 20, 0, 21, 22, 23, 24, 25, 26, 27, 28, 29, 30, 31, 0, 32, 33, 34, 35, 36, 0, 37, 38, 39, 40, 41, 0, 0, 42, 43, 44, 45, 46, 47, 48, 49, 50, 51, 52, 0, 53, 54, 55, 56, 57, 58, 59, 60, 61, 62, 63, 64, 65, 66, 67, 0, 68, 69, 70, 0], Tryz.func227, by decide, by kernel_rfl⟩
theorem ok228 : OFnOk Tryz.prog G 228 c228 := ⟨Tryz.f228, [1, 2, 3, 4, 5, 6, 7, 8, 9, 10, 11, 12, 13, 14, 15, 0, 16, 17, 18, 19, 20, 0, 21, 22, 23, 24, 0, 25, 26, 27, 28, 0, 29, 30, 31, 32, 33, 34, 35, 36, 0, 37, 38, 39, 40, 0, 0, 41, 42, 43, 44, 0, 45, 46, 47, 48, 49, 50, 51, 52], Tryz.func228, by decide, by kernel_rfl⟩
theorem ok230 : OFnOk Tryz.prog G 230 c230 := ⟨Tryz.f230, [1, 2, 0, 3, 4, 0, 5, 6, 7, 8, 9, 0, 10, 11, 12, 0, 13, 14, 15, 16, 0, 0, 0, 17, 18, 19, 20, 21, 22, 23, 24, 25], Tryz.func230, by decide, by kernel_rfl⟩
theorem ok232 : OFnOk Tryz.prog G 232 c232 := ⟨Tryz.f232, [1, 0, 2, 3, 4, 5, 0, 0, 6, 7, 0, 0, 0, 0, 0, 0, 8, 9, 0, 10, 11], Tryz.func232, by decide, by kernel_rfl⟩
theorem ok233 : OFnOk Tryz.prog G 233 c233 := ⟨Tryz.f233, [1, 2, 0, 0, 3, 0, 4, 5, 0, 0, 6, 7, 8, 0, 0, 0], Tryz.func233, by decide, by kernel_rfl⟩
theorem ok235 : OFnOk Tryz.prog G 235 c235 := ⟨Tryz.f235, [1, 2, 0, 0, 3, 0, 4, 0, 5, 0, 6, 0, 0, 7, 8, 0, 9, 0], Tryz.func235, by decide, by kernel_rfl⟩
theorem ok237 : OFnOk Tryz.prog G 237 c237 := ⟨Tryz.f237, [1, 0, 2, 0, 0, 3, 0, 0, 4, 0, 5, 6, 0, 7, 0, 8, 0], Tryz.func237, by decide, by kernel_rfl⟩
theorem ok238 : OFnOk Tryz.prog G 238 c238 := ⟨Tryz.f238, [1, 0, 2, 3, 4, 5, 6, 7, 8, 9, 10, 11, 12, 0, 0, 13, 14, 0, 0, 0, 0, 0, 0, 0, 0, 0, 15, 16, 0, 0, 0, 0, 17, 18, 0, 0, 0, 19, 0, 0, 0, 0, 0, 0, 20, 0, 21, 0, 0, 22, 23, 24, 25, 26, 0, 0, 0, 0, 0, 27, 28, 0, 0, 29, 30, 31, 32, 0, 0, 0, 0, 0, 0, 0, 33, 34, 0, 0, 0, 0, 0, 0, 35, 0, 36, 0, 0, 37, 38, 39, 40, 41, 0, 0, 0, 0, 0, 42, 43, 0, 0, 0, 0, 44, 45, 0], Tryz.func238, by decide, by kernel_rfl⟩
theorem ok239 : OFnOk Tryz.prog G 239 c239 := ⟨Tryz.f239, [1, 2, 0, 0, 3, 4, 0, 5, 6, 7, 0, 0, 0, 0, 8, 9, 10, 0, 0], Tryz.func239, by decide, by kernel_rfl⟩
theorem ok240 : OFnOk Tryz.prog G 240 c240 := ⟨Tryz.f240, [1, 2, 3, 4, 5, 6, 7, 8, 9, 10, 11], Tryz.func240, by decide, by kernel_rfl⟩
theorem ok241 : OFnOk Tryz.prog G 241 c241 := ⟨Tryz.f241, [1, 2, 3, 0, 0, 0, 4, 5, 6, 7, 0, 0, 0, 8, 9, 0, 0, 10, 0, 0, 11, 0, 12, 0, 0, 0, 13, 14, 0, 0, 15, 0, 0, 0, 16, 17, 0, 0, 0, 18, 0, 0, 19, 0, 20, 21, 22, 0, 23, 24], Tryz.func241, by decide, by kernel_rfl⟩
theorem ok243 : OFnOk Tryz.prog G 243 c243 := ⟨Tryz.f243, [1, 2, 3, 0, 4, 5, 6, 7, 8, 9, 0, 10, 11, 12], Tryz.func243, by decide, by kernel_rfl⟩
theorem ok244 : OFnOk Tryz.prog G 244 c244 := ⟨Tryz.f244, [1, 2, 0, 0, 3, 4, 0, 5, 6, 7, 0, 0, 0, 0, 8, 9, 10, 0, 0], Tryz.func244, by decide, by kernel_rfl⟩
theorem ok245 : OFnOk Tryz.prog G 245 c245 := ⟨Tryz.f245, [1, 2, 3, 4, 5, 6, 7, 0], Tryz.func245, by decide, by kernel_rfl⟩
theorem ok246 : OFnOk Tryz.prog G 246 c246 := ⟨Tryz.f246, [1, 2, 0, 0, 3, 4, 0, 5, 6, 7, 0, 0, 0, 0, 8, 9, 10, 0, 0], Tryz.func246, by decide, by kernel_rfl⟩
theorem ok250 : OFnOk Tryz.prog G 250 c250 := ⟨Tryz.f250, [1, 2, 3, 4, 5, 6, 7, 8, 0], Tryz.func250, by decide, by kernel_rfl⟩
theorem ok252 : OFnOk Tryz.prog G 252 c252 := ⟨Tryz.f252, [1, 0, 2, 0, 0, 3, 0, 4, 0, 5, 0, 0, 6, 0, 7, 8, 0], Tryz.func252, by decide, by kernel_rfl⟩
theorem ok255 : OFnOk Tryz.prog G 255 c255 := ⟨Tryz.f255, [1, 2, 0, 0, 3, 4, 0, 5, 6, 7, 8, 9, 10, 0, 11, 12, 0, 0, 0, 13, 0, 14, 15], Tryz.func255, by decide, by kernel_rfl⟩
theorem ok265 : OFnOk Tryz.prog G 265 c265 := ⟨Tryz.f265, [1, 2, 3, 4, 5, 6, 7, 8, 9, 0], Tryz.func265, by decide, by kernel_rfl⟩
theorem ok268 : OFnOk Tryz.prog G 268 c268 := ⟨Tryz.f268, [1, 2, 3, 4, 5, 6, 7, 8, 9, 10, 11, 12, 13, 14, 15, 16, 17, 18, 19, 20, 21, 0], Tryz.func268, by decide, by kernel_rfl⟩
theorem ok270 : OFnOk Tryz.prog G 270 c270 := ⟨Tryz.f270, [1, 0, 2, 0, 3], Tryz.func270, by decide, by kernel_rfl⟩
theorem ok275 : OFnOk Tryz.prog G 275 c275 := ⟨Tryz.f275, [1, 2, 0, 0, 3, 0, 0, 4, 5, 0], Tryz.func275, by decide, by kernel_rfl⟩
theorem ok281 : OFnOk Tryz.prog G 281 c281 := ⟨Tryz.f281, [1, 2, 3, 4, 5, 6, 0], Tryz.func281, by decide, by kernel_rfl⟩
theorem ok282 : OFnOk Tryz.prog G 282 c282 := ⟨Tryz.f282, [1, 2, 0, 0, 3, 4, 0, 5, 0, 6, 0, 7, 0, 0, 8, 0, 0, 0, 0, 9, 10, 11, 12, 0, 13, 0, 14, 15, 16, 17, 0, 0, 18], Tryz.func282, by decide, by kernel_rfl⟩
theorem ok283 : OFnOk Tryz.prog G 283 c283 := ⟨Tryz.f283, [1, 2, 0, 0, 3, 0, 4, 5, 6, 7, 8, 9, 0, 0, 10, 0, 11, 12, 13, 14, 0, 0], Tryz.func283, by decide, by kernel_rfl⟩
theorem ok285 : OFnOk Tryz.prog G 285 c285 := ⟨Tryz.f285, [1, 2, 3, 0, 4, 5, 6, 0, 7, 8, 9, 10, 11, 12, 13, 14, 15, 16, 0, 17, 18, 19, 20, 21, 22, 23, 24, 25, 26, 0, 27, 0, 28, 29, 30, 0, 31, 0, 0, 0, 32, 0, 0, 0, 33, 34, 0, 35, 36, 37, 0, 38, 0], Tryz.func285, by decide, by kernel_rfl⟩
theorem ok287 : OFnOk Tryz.prog G 287 c287 := ⟨Tryz.f287, [1, 2, 3, 4, 5, 6, 7, 0], Tryz.func287, by decide, by kernel_rfl⟩
theorem ok292 : OFnOk Tryz.prog G 292 c292 := ⟨Tryz.f292, [1, 2, 3, 4, 5, 6, 7, 0], Tryz.func292, by decide, by kernel_rfl⟩
theorem ok308 : OFnOk Tryz.prog G 308 c308 := ⟨Tryz.f308, [1, 2, 0, 0, 3, 4, 5, 6, 0, 7, 8, 9, 10, 0, 0, 0, 11, 12, 13, 14, 15, 16, 0, 0, 0, 17, 18, 19, 20, 0, 0, 0, 21, 22, 23, 0, 0, 0, 24, 25, 26, 0, 0, 0, 0, 27, 28, 29, 30, 0, 0, 0, 31, 32, 33, 0, 0, 0, 34, 35, 36, 0, 0, 0, 37, 0, 0, 0, 38, 39, 0, 40, 41, 0, 42, 0, 0, 43, 44, 0, 45, 0, 46, 0, 47, 48, 0, 49, 50], Tryz.func308, by decide, by kernel_rfl⟩
theorem ok309 : OFnOk Tryz.prog G 309 c309 := ⟨Tryz.f309, [1, 2, 3, 0, 4, 5, 6, 7, 8, 9, 0, 10, 0, 11, 0, 12, 0, 0, 13, 14, 0, 0, 15, 0, 0, 16, 17, 0], Tryz.func309, by decide, by kernel_rfl⟩
theorem ok319 : OFnOk Tryz.prog G 319 c319 := ⟨Tryz.f319, [1, 0, 2, 0, 3, 0], Tryz.func319, by decide, by kernel_rfl⟩
theorem ok326 : OFnOk Tryz.prog G 326 c326 := ⟨Tryz.f326, [1, 2, 3, 4, 5], Tryz.func326, by decide, by kernel_rfl⟩
theorem ok328 : OFnOk Tryz.prog G 328 c328 := ⟨Tryz.f328, [1, 2, 3, 4, 5, 6, 7, 0], Tryz.func328, by decide, by kernel_rfl⟩
theorem ok330 : OFnOk Tryz.prog G 330 c330 := ⟨Tryz.f330, [1, 2, 0, 3, 0, 4, 0], Tryz.func330, by decide, by kernel_rfl⟩
set_option maxRecDepth 100000 in
theorem codesOk : ∀ f o, code f = some o → OFnOk Tryz.prog G f o := by
  intro f o h
  unfold code at h
  split at h
  · cases h; exact ok6
  · cases h; exact ok11
  · cases h; exact ok12
  · cases h; exact ok13
  · cases h; exact ok14
  · cases h; exact ok15
  · cases h; exact ok16
  · cases h; exact ok17
  · cases h; exact ok18
  · cases h; exact ok19
  · cases h; exact ok20
  · cases h; exact ok22
  · cases h; exact ok23
  · cases h; exact ok24
  · cases h; exact ok25
  · cases h; exact ok26
  · cases h; exact ok27
  · cases h; exact ok30
  · cases h; exact ok31
  · cases h; exact ok32
  · cases h; exact ok33
  · cases h; exact ok34
  · cases h; exact ok35
  · cases h; exact ok36
  · cases h; exact ok37
  · cases h; exact ok38
  · cases h; exact ok39
  · cases h; exact ok47
  · cases h; exact ok48
  · cases h; exact ok49
  · cases h; exact ok50
  · cases h; exact ok51
  · cases h; exact ok52
  · cases h; exact ok54
  · cases h; exact ok55
  · cases h; exact ok56
  · cases h; exact ok57
  · cases h; exact ok58
  · cases h; exact ok59
  · cases h; exact ok60
  · cases h; exact ok61
  · cases h; exact ok62
  · cases h; exact ok63
  · cases h; exact ok64
  · cases h; exact ok65
  · cases h; exact ok66
  · cases h; exact ok67
  · cases h; exact ok68
  · cases h; exact ok69
  · cases h; exact ok73
  · cases h; exact ok74
  · cases h; exact ok75
  · cases h; exact ok76
  · cases h; exact ok77
  · cases h; exact ok78
  · cases h; exact ok79
  · cases h; exact ok80
  · cases h; exact ok81
  · cases h; exact ok82
  · cases h; exact ok83
  · cases h; exact ok84
  · cases h; exact ok85
  · cases h; exact ok86
  · cases h; exact ok87
  · cases h; exact ok88
  · cases h; exact ok89
  · cases h; exact ok97
  · cases h; exact ok101
  · cases h; exact ok102
  · cases h; exact ok103
  · cases h; exact ok104
  · cases h; exact ok105
  · cases h; exact ok106
  · cases h; exact ok107
  · cases h; exact ok108
  · cases h; exact ok109
  · cases h; exact ok110
  · cases h; exact ok111
  · cases h; exact ok112
  · cases h; exact ok113
  · cases h; exact ok116
  · cases h; exact ok117
  · cases h; exact ok118
  · cases h; exact ok119
  · cases h; exact ok121
  · cases h; exact ok122
  · cases h; exact ok124
  · cases h; exact ok127
  · cases h; exact ok128
  · cases h; exact ok130
  · cases h; exact ok134
  · cases h; exact ok135
  · cases h; exact ok136
  · cases h; exact ok137
  · cases h; exact ok138
  · cases h; exact ok139
  · cases h; exact ok140
  · cases h; exact ok141
  · cases h; exact ok142
  · cases h; exact ok143
  · cases h; exact ok145
  · cases h; exact ok146
  · cases h; exact ok147
  · cases h; exact ok148
  · cases h; exact ok149
  · cases h; exact ok150
  · cases h; exact ok151
  · cases h; exact ok152
  · cases h; exact ok163
  · cases h; exact ok164
  · cases h; exact ok165
  · cases h; exact ok166
  · cases h; exact ok167
  · cases h; exact ok168
  · cases h; exact ok169
  · cases h; exact ok171
  · cases h; exact ok172
  · cases h; exact ok173
  · cases h; exact ok174
  · cases h; exact ok176
  · cases h; exact ok177
  · cases h; exact ok178
  · cases h; exact ok179
  · cases h; exact ok180
  · cases h; exact ok181
  · cases h; exact ok183
  · cases h; exact ok184
  · cases h; exact ok185
  · cases h; exact ok186
  · cases h; exact ok187
  · cases h; exact ok191
  · cases h; exact ok192
  · cases h; exact ok193
  · cases h; exact ok195
  · cases h; exact ok196
  · cases h; exact ok197
  · cases h; exact ok202
  · cases h; exact ok203
  · cases h; exact ok206
  · cases h; exact ok209
  · cases h; exact ok210
  · cases h; exact ok211
  · cases h; exact ok215
  · cases h; exact ok227
  · cases h; exact ok228
  · cases h; exact ok230
  · cases h; exact ok232
  · cases h; exact ok233
  · cases h; exact ok235
  · cases h; exact ok237
  · cases h; exact ok238
  · cases h; exact ok239
  · cases h; exact ok240
  · cases h; exact ok241
  · cases h; exact ok243
  · cases h; exact ok244
  · cases h; exact ok245
  · cases h; exact ok246
  · cases h; exact ok250
  · cases h; exact ok252
  · cases h; exact ok255
  · cases h; exact ok265
  · cases h; exact ok268
  · cases h; exact ok270
  · cases h; exact ok275
  · cases h; exact ok281
  · cases h; exact ok282
  · cases h; exact ok283
  · cases h; exact ok285
  · cases h; exact ok287
  · cases h; exact ok292
  · cases h; exact ok308
  · cases h; exact ok309
  · cases h; exact ok319
  · cases h; exact ok326
  · cases h; exact ok328
  · cases h; exact ok330
  · cases h
def tidy : Nat → Bool := fun f => match f with
  | 6 => true
  | 11 => true
  | 15 => true
  | 16 => true
  | 17 => true
  | 19 => true
  | 22 => true
  | 23 => true
  | 26 => true
  | 30 => true
  | 55 => true
  | 56 => true
  | 57 => true
  | 58 => true
  | 59 => true
  | 60 => true
  | 62 => true
  | 63 => true
  | 64 => true
  | 65 => true
  | 66 => true
  | 85 => true
  | 86 => true
  | 102 => true
  | 106 => true
  | 108 => true
  | 112 => true
  | 116 => true
  | 117 => true
  | 118 => true
  | 121 => true
  | 122 => true
  | 124 => true
  | 127 => true
  | 128 => true
  | 134 => true
  | 137 => true
  | 138 => true
  | 150 => true
  | 151 => true
  | 152 => true
  | 164 => true
  | 166 => true
  | 168 => true
  | 169 => true
  | 171 => true
  | 172 => true
  | 173 => true
  | 174 => true
  | 176 => true
  | 178 => true
  | 179 => true
  | 191 => true
  | 192 => true
  | 193 => true
  | 195 => true
  | 196 => true
  | 202 => true
  | 203 => true
  | 215 => true
  | 227 => true
  | 230 => true
  | 232 => true
  | 233 => true
  | 235 => true
  | 237 => true
  | 238 => true
  | 239 => true
  | 243 => true
  | 244 => true
  | 245 => true
  | 246 => true
  | 250 => true
  | 252 => true
  | 265 => true
  | 268 => true
  | 275 => true
  | 283 => true
  | 285 => true
  | 287 => true
  | 292 => true
  | 309 => true
  | 319 => true
  | 328 => true
  | 330 => true
  | _ => false
noncomputable def forks (f : Nat) : Option (List V → Heap → Option (Out × Heap)) := match Nat.beq f 149 with | true => some (bodyAny [v149x0, v149x1] 1000) | false => none
theorem forks_ok : ∀ f g, forks f = some g → CallsOk Tryz.prog G (fun f' args h => if f' = f then g args h else none) := by
  intro f g h
  unfold forks at h
  split at h
  · rename_i hb
    have hf := Nat.eq_of_beq_eq_true hb
    subst hf
    cases h
    exact any_ok Tryz.func149 (by decide) vok149 1000
  cases h
noncomputable def D : OCtx := { code := code, tidy := tidy, orc := forks }
theorem fine : DFine (ctxOf Tryz.prog G D.tidy D.orc) D := dfine codesOk
theorem ctxOk : CodeOk Tryz.prog G (ctxOf Tryz.prog G D.tidy D.orc) := ctxOf_ok forks_ok
end Go.Proofs.YtfbikhkmamdjmaaGreatDoor.CodesW
