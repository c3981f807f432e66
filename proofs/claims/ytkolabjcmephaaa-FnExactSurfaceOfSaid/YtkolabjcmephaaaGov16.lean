/- The rules by which the walk evaluates, as one set. -/
import Derived.Test.YtkolabjcmephaaaGov19
import Derived.Attr
set_option linter.unusedSimpArgs false
set_option linter.unusedVariables false
namespace Go.Gov
theorem map_shr_ints (σ : Nat → Nat) (d : Nat) (xs : List Int) : (intsC xs).map (shr σ d) = intsC xs := by cases d <;> simp [intsC, shr]
theorem map_shr_bools (σ : Nat → Nat) (d : Nat) (xs : List Bool) : (boolsC xs).map (shr σ d) = boolsC xs := by cases d <;> simp [boolsC, shr]
theorem shr_oints (σ : Nat → Nat) (d : Nat) (xs : List Int) : shr σ d (oints xs) = oints xs := by
  cases d with
  | zero => rfl
  | succ d => simp only [oints, shr]; rw [map_shr_ints]
theorem map_shr_orows (σ : Nat → Nat) (d : Nat) (xss : List (List Int)) : (xss.map oints).map (shr σ d) = xss.map oints := by
  rw [List.map_map]; exact List.map_congr_left fun xs _ => shr_oints σ d xs
attribute [go_sem] EvOps EvT EvG EvGrd_some isQuiet qOk qVal putF ax
attribute [go_sem] st stOk get_put if_true if_false Option.map_some Option.map_none gcond
attribute [go_sem] binOk binV intOk intV isSh isEq cellsAt thenA
attribute [go_sem] blockA endQ retQ_none retQ_one retQ_two retQ_three mkF fget
attribute [go_sem] argsOk List.map_cons List.map_nil isExt evLoud loOf hiOf loOk
attribute [go_sem] slOk conOk conV true_and and_true Bool.false_eq_true Bool.true_eq_false beqT
attribute [go_sem] beqF condQ len_intsC len_boolsC List.length_map getD_intsC getD_boolsC getD_rows
attribute [go_sem] plain_intsC plain_boolsC plain_rows plain_val plain_slc plain_pto plain_sl plain_ref
attribute [go_sem] plain_any List.getD_cons_zero List.getD_cons_succ List.length_cons List.length_nil Int.toNat_natCast toNat_pred toNat_succ
attribute [go_sem] Nat.mul_one Nat.zero_add Nat.add_zero implies_true and_self cond_f cond_t decide_eq_true_eq
attribute [go_sem] decide_eq_false_iff_not Int.not_le Int.not_lt ge_iff_le gt_iff_lt imp_self cond_true cond_false
attribute [go_sem] Bool.and_self_left Bool.and_false Bool.false_and Bool.or_false Bool.or_true Bool.false_or Bool.true_or Bool.and_self
attribute [go_sem] Bool.or_self Bool.not_not false_implies true_implies gcond_bl Bool.not_true Bool.not_false cells_agg
attribute [go_sem] cells_i64 cells_bl cells_nil cells_str cells_slc cells_pto cells_sl cells_ref
attribute [go_sem] cells_clo one_int one_bl one_nil one_str one_slc one_pto one_sl
attribute [go_sem] one_ref one_clo splice_one splice_two splice_three mk_one rep_intsC rep_boolsC
attribute [go_sem] set_intsC set_boolsC all_plain_intsC all_one_intsC List.getElem?_cons_zero List.getElem?_cons_succ List.nil_append List.cons_append
attribute [go_sem] List.append_nil List.set_cons_zero List.set_cons_succ List.drop_zero List.take_succ_cons List.drop_succ_cons List.take_zero List.take_nil
attribute [go_sem] List.drop_nil Option.bind_some id_eq Option.isSome_some List.all_cons List.all_nil Bool.and_true Bool.true_and
attribute [go_sem] dstOf srcOf List.length_append List.length_take List.length_set List.length_replicate Nat.lt_add_one Nat.zero_lt_succ
attribute [go_sem] Nat.reduceLT Nat.reduceLeDiff Nat.reduceMul
end Go.Gov
