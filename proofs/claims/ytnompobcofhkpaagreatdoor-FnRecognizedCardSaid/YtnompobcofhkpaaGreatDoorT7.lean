/- Texts that belong together. -/
import Derived.LaidSub
import Derived.MakeChecks
import Derived.Stop.LaidErr
import Derived.Test.YtnompobcofhkpaaGreatDoorZp
import Derived.Test.YtnompobcofhkpaaGreatDoorT3
set_option linter.unusedSimpArgs false
set_option linter.unusedVariables false
set_option maxRecDepth 100000
namespace Go.Gov
open Go.ChangeShapes Go.WideShapes Go.ChangeAt Go.RowKit
theorem rI {P : Program} {L : List (Nat × List Value)} {f : FuncId} {args : List AV} {b : Bool} {vals : Array Value} {w : World} (h : PureG P L f args (bl b) []) (hv : Jt w L) (hl : vals.size = args.length)
    (hr:∀ m (h:m<args.length),Rd w ((g0 w).tr []) (g0 w).G args[m] (vals.getD m undef) []):
    Calls P f vals w fun e w' => e = .returned (.bool b)∧Below w.heap.size w w' ∧ ∀ a,a.block<w.heap.size→w'.frozen? a=w.frozen? a:=
 (h w vals hv hl fun m hm=>by have:=hr m hm;rwa [show (g0 w).tr []=fun _=>none by funext o;simp [Gh.tr]] at this).mono fun e w' ⟨v,g', av,H', he,hm,hx,hext,hk,_⟩=>by
  subst hk
  cases hx
  exact ⟨he,⟨hm.stp.os,hm.stp.tape.1,hm.stp.output,hm.stp.size,fun k hk=>hext k hk⟩,hm.stp.fz⟩
end Go.Gov
namespace Go.Proofs.YtnompobcofhkpaaGreatDoor
open Go.Gov Go.ChangeShapes Go.WideShapes Go.ChangeAt Go.RowKit
theorem oR {w:World}{n:String}{g:Nat}{cs:Array Value}(hg:Tryz.prog.globalNamed n=some g)(h:w.var? Tryz.prog n=some cs):∃ ty z,w.heap[g]? = some (.cells cs ty z):=by
 unfold World.var? at h
 rw [hg,Option.bind_some] at h
 split at h
 ·rename_i cs' ty z h2
  obtain rfl:=Option.some.inj h
  exact ⟨ty,z,h2⟩
 ·cases h
theorem Aja (u:TypeId)(h:Tryz.prog.typeName? 3 u=some "*errors.errorString"):u=223:=
 typeName_ptr_named (nm := "errors.errorString") (by rw [show "*" ++ "errors.errorString" = "*errors.errorString" by decide];kernel_rfl) (by kernel_rfl) (by decide) u (by rw [show "*" ++ "errors.errorString" = "*errors.errorString" by decide];exact h)
abbrev Qz (s:List UInt8):DataW Unit:=.iface "*errors.errorString" (.ptr (.agg [.lit (.string s)]))
theorem dM {laid : List (String × DataW Unit)} {W : World} (hL : laidMetH Tryz.prog laid W) {n : String} {g : Nat} (s : List UInt8) (h2 : laid.filter (fun x => x.1 == n) = [(n, Qz s)]) (hg : Tryz.prog.globalNamed n = some g) (ht : (Tryz.prog.globals[g]?).map (·.type) = some 122) :
    ∃ tp p,∃ ty z,W.heap[g]? = some (.cells #[.iface tp p] ty z):=by
 have h:=hL.filter (fun x=>x.1 == n)
 rw [h2] at h
 have h:laidMet Tryz.prog [(n,Qz s)] W:=h
 obtain ⟨a,s', h3,_⟩:=laid_sentinel (ti:=122) (tp:=223) (te:=225) (ts:=9) h hg ht Tryz.underlying122 Aja Tryz.underlying223 Tryz.underlying225 rfl rfl Tryz.underlying9 (by kernel_rfl) (by kernel_rfl)
 exact ⟨_,_,oR hg h3⟩
theorem Alh {laid : List (String × DataW Unit)} {W : World} (hL : laidMetH Tryz.prog laid W) {s1 s2 : List UInt8}
    (h1:laid.filter (fun x=>x.1 == "internal/strconv.uint64pow10")=[("internal/strconv.uint64pow10", Go.Lib.tabData .u64 Go.Lib.pow10Tab)])
    (h2:laid.filter (fun x=>x.1 == "strconv.ErrSyntax")=[("strconv.ErrSyntax", Qz s1)]) (h3:laid.filter (fun x=>x.1 == "strconv.ErrRange")=[("strconv.ErrRange", Qz s2)]):∃ tp tq p q,Jt W (LV tp tq p q):=by
 have ht:=hL.filter (fun x=>x.1 == "internal/strconv.uint64pow10")
 rw [h1] at ht
 have ht:laidMet Tryz.prog [("internal/strconv.uint64pow10", Go.Lib.tabData .u64 Go.Lib.pow10Tab)] W:=ht
 have gT:Tryz.prog.globalNamed "internal/strconv.uint64pow10" = some 5:=by kernel_rfl
 have gS:Tryz.prog.globalNamed "strconv.ErrSyntax" = some 3:=by kernel_rfl
 have gR:Tryz.prog.globalNamed "strconv.ErrRange" = some 4:=by kernel_rfl
 have htab:=Go.Lib.tabIs_of_head (n:=20) gT (t:=216) (by kernel_rfl) Tryz.underlying216 (e:=58) Tryz.underlying58 (by kernel_rfl) (by kernel_rfl) ht
 obtain ⟨tp,p,e1⟩:=dM hL s1 h2 gS (by kernel_rfl)
 obtain ⟨tq,q,e2⟩:=dM hL s2 h3 gR (by kernel_rfl)
 refine ⟨tp,tq,p,q,fun x hx=>?_⟩
 unfold LV Tj Ra Q9 at hx
 rw [gT,gS,gR] at hx
 simp only [Option.getD_some,List.cons_append,List.nil_append,List.mem_cons,List.not_mem_nil,or_false] at hx
 rcases hx with rfl | rfl | rfl
 ·exact oR gT htab
 ·exact e1
 ·exact e2
end Go.Proofs.YtnompobcofhkpaaGreatDoor
