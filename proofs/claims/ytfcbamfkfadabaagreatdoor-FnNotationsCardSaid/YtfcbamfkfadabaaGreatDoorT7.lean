/- Texts that belong together. -/
import Derived.LaidSub
import Derived.MakeChecks
import Derived.Stop.LaidErr
import Derived.Test.YtfcbamfkfadabaaGreatDoorZp
import Derived.Test.YtfcbamfkfadabaaGreatDoorT3
set_option linter.unusedSimpArgs false
set_option linter.unusedVariables false
set_option maxRecDepth 100000
namespace Go.Gov
open Go.ChangeShapes Go.WideShapes Go.ChangeAt Go.RowKit
theorem below_ofG {P : Program} {L : List (Nat × List Value)} {f : FuncId} {args : List AV} {b : Bool} {vals : Array Value} {w : World} (h : PureG P L f args (bl b) []) (hv : VarsIn w L) (hl : vals.size = args.length)
    (hr:∀ m (h:m<args.length),Rd w ((g0 w).tr []) (g0 w).G args[m] (vals.getD m undef) []):
    Calls P f vals w fun e w' => e = .returned (.bool b)∧Below w.heap.size w w' ∧ ∀ a,a.block<w.heap.size→w'.frozen? a=w.frozen? a:=
 (h w vals hv hl fun m hm=>by have:=hr m hm;rwa [show (g0 w).tr []=fun _=>none by funext o;simp [Gh.tr]] at this).mono fun e w' ⟨v,g', av,H', he,hm,hx,hext,hk,_⟩=>by
  subst hk
  cases hx
  exact ⟨he,⟨hm.stp.os,hm.stp.tape.1,hm.stp.output,hm.stp.size,fun k hk=>hext k hk⟩,hm.stp.fz⟩
end Go.Gov
namespace Go.Proofs.YtfcbamfkfadabaaGreatDoor
open Go.Gov Go.ChangeShapes Go.WideShapes Go.ChangeAt Go.RowKit
theorem var_heap {w:World}{n:String}{g:Nat}{cs:Array Value}(hg:Tryz.prog.globalNamed n=some g)(h:w.var? Tryz.prog n=some cs):∃ ty z,w.heap[g]? = some (.cells cs ty z):=by
 unfold World.var? at h
 rw [hg,Option.bind_some] at h
 split at h
 ·rename_i cs' ty z h2
  obtain rfl:=Option.some.inj h
  exact ⟨ty,z,h2⟩
 ·cases h
theorem row_err (u:TypeId)(h:Tryz.prog.typeName? 3 u=some "*errors.errorString"):u=273:=
 typeName_ptr_named (nm := "errors.errorString") (by rw [show "*" ++ "errors.errorString" = "*errors.errorString" by decide];kernel_rfl) (by kernel_rfl) (by decide) u (by rw [show "*" ++ "errors.errorString" = "*errors.errorString" by decide];exact h)
abbrev errD (s:List UInt8):DataW Unit:=.iface "*errors.errorString" (.ptr (.agg [.lit (.string s)]))
theorem err_in {laid : List (String × DataW Unit)} {W : World} (hL : laidMetH Tryz.prog laid W) {n : String} {g : Nat} (s : List UInt8) (h2 : laid.filter (fun x => x.1 == n) = [(n, errD s)]) (hg : Tryz.prog.globalNamed n = some g) (ht : (Tryz.prog.globals[g]?).map (·.type) = some 142) :
    ∃ tp p,∃ ty z,W.heap[g]? = some (.cells #[.iface tp p] ty z):=by
 have h:=hL.filter (fun x=>x.1 == n)
 rw [h2] at h
 have h:laidMet Tryz.prog [(n,errD s)] W:=h
 obtain ⟨a,s', h3,_⟩:=laid_sentinel (ti:=142) (tp:=273) (te:=275) (ts:=9) h hg ht Tryz.underlying142 row_err Tryz.underlying273 Tryz.underlying275 rfl rfl Tryz.underlying9 (by kernel_rfl) (by kernel_rfl)
 exact ⟨_,_,var_heap hg h3⟩
theorem vars_in {laid : List (String × DataW Unit)} {W : World} (hL : laidMetH Tryz.prog laid W) {s1 s2 : List UInt8}
    (h1:laid.filter (fun x=>x.1 == "internal/strconv.uint64pow10")=[("internal/strconv.uint64pow10", Go.Lib.tabData .u64 Go.Lib.pow10Tab)])
    (h2:laid.filter (fun x=>x.1 == "strconv.ErrSyntax")=[("strconv.ErrSyntax", errD s1)]) (h3:laid.filter (fun x=>x.1 == "strconv.ErrRange")=[("strconv.ErrRange", errD s2)]):∃ tp tq p q,VarsIn W (LV tp tq p q):=by
 have ht:=hL.filter (fun x=>x.1 == "internal/strconv.uint64pow10")
 rw [h1] at ht
 have ht:laidMet Tryz.prog [("internal/strconv.uint64pow10", Go.Lib.tabData .u64 Go.Lib.pow10Tab)] W:=ht
 have gT:Tryz.prog.globalNamed "internal/strconv.uint64pow10" = some 6:=by kernel_rfl
 have gS:Tryz.prog.globalNamed "strconv.ErrSyntax" = some 4:=by kernel_rfl
 have gR:Tryz.prog.globalNamed "strconv.ErrRange" = some 5:=by kernel_rfl
 have htab:=Go.Lib.tabIs_of_head (n:=20) gT (t:=277) (by kernel_rfl) Tryz.underlying277 (e:=82) Tryz.underlying82 (by kernel_rfl) (by kernel_rfl) ht
 obtain ⟨tp,p,e1⟩:=err_in hL s1 h2 gS (by kernel_rfl)
 obtain ⟨tq,q,e2⟩:=err_in hL s2 h3 gR (by kernel_rfl)
 refine ⟨tp,tq,p,q,fun x hx=>?_⟩
 unfold LV tabV gSyn gRng at hx
 rw [gT,gS,gR] at hx
 simp only [Option.getD_some,List.cons_append,List.nil_append,List.mem_cons,List.not_mem_nil,or_false] at hx
 rcases hx with rfl | rfl | rfl
 ·exact var_heap gT htab
 ·exact e1
 ·exact e2
end Go.Proofs.YtfcbamfkfadabaaGreatDoor
