/- Every operation, by what it was compiled to. -/
import Derived.Test.YtkolabjcmephaaaGov7
set_option linter.unusedSimpArgs false
set_option linter.unusedVariables false
namespace Go.Gov
variable {P : Program} {N : Nat} {g : Gh} {F : Frame} {H : Heap} {a : Act} {w : World}

theorem compileOp_inv {o : Oper} {x : AOp} (hc : compileOp P o = some x) : compileOp0 P o = some x ∨ x = .bad := by
  unfold compileOp at hc
  cases h : compileOp0 P o with
  | none => rw [h] at hc; right; exact (Option.some.inj hc).symm
  | some y => rw [h] at hc; left; simpa using hc

theorem quiet_all {o : Oper} {x : AOp} (hc : compileOp P o = some x) (hq : isQuiet x = true) (hok : qOk x F H) (hR : R N g F H a w) : Quiet P a w g H o (qVal x F H) := by
  rcases compileOp_inv hc with hc | rfl
  rotate_left
  · exact hok.elim
  unfold compileOp0 at hc
  split at hc <;> rename_i hop
  · obtain rfl := Option.some.inj hc; exact q_mov hR (.inl hop)
  · obtain rfl := Option.some.inj hc; exact q_mov hR (.inr hop)
  · obtain rfl := Option.some.inj hc; exact q_pick hR hop hok
  · split at hc
    · obtain rfl := Option.some.inj hc; cases hq
    · cases hc
  · obtain rfl := Option.some.inj hc; cases hq
  · split at hc
    · rename_i d i hd hi
      by_cases hg : isAggT (some d) = true
      · rw [if_pos hg] at hc; obtain rfl := Option.some.inj hc; exact q_loads hR hop hd hi hg hok
      · rw [if_neg hg] at hc; obtain rfl := Option.some.inj hc; exact q_load hR hop hd (by simpa using hg) hok
    · cases hc
  · split at hc
    · obtain rfl := Option.some.inj hc; cases hq
    · cases hc
  · obtain rfl := Option.some.inj hc; exact q_bin hR hop hok
  · obtain rfl := Option.some.inj hc; exact q_not hR hop hok
  · obtain rfl := Option.some.inj hc; exact q_neg hR hop hok
  · split at hc
    · rename_i hs ht
      obtain rfl := Option.some.inj hc; exact q_conv hR hop hs ht hok
    · cases hc
  · split at hc
    · rename_i hf
      split at hc
      · rename_i i hi
        by_cases h0 : i.size = 0
        · rw [if_pos h0] at hc; cases hc
        · rw [if_neg h0] at hc; obtain rfl := Option.some.inj hc; exact q_fld hR hop hf hi h0 hok
      · cases hc
    · cases hc
  · split at hc
    · rename_i hk
      obtain rfl := Option.some.inj hc; exact q_idx hR hop hk hok
    · cases hc
  · split at hc
    · rename_i ht
      obtain rfl := Option.some.inj hc; exact q_sidx hR hop ht hok
    · cases hc
  · split at hc
    · split at hc
      · split at hc
        · obtain rfl := Option.some.inj hc; cases hq
        · cases hc
      · cases hc
    · cases hc
  · split at hc
    · split at hc
      · split at hc
        · obtain rfl := Option.some.inj hc; cases hq
        · cases hc
      · cases hc
    · cases hc
  · split at hc
    · rename_i ht
      obtain rfl := Option.some.inj hc; exact q_sslice hR hop ht hok
    · split at hc
      · rename_i hk
        obtain rfl := Option.some.inj hc; exact q_slice hR hop hk hok
      · cases hc
  · obtain rfl := Option.some.inj hc; exact q_ext hR hop hok
  · obtain rfl := Option.some.inj hc; exact q_fn hR hop
  · split at hc
    · obtain rfl := Option.some.inj hc; cases hq
    · cases hc
  · split at hc
    · rename_i ha hts
      split at hc
      · rename_i ht
        obtain rfl := Option.some.inj hc; exact q_slen hR hop ha hts ht hok
      · rename_i ht
        obtain rfl := Option.some.inj hc; exact q_len hR hop ha hts ht hok
      · cases hc
    · cases hc
  · split at hc
    · split at hc
      · split at hc
        · split at hc
          · obtain rfl := Option.some.inj hc; cases hq
          · cases hc
        · cases hc
      · cases hc
    · cases hc
  · split at hc
    · split at hc
      · cases hc
      · obtain rfl := Option.some.inj hc; cases hq
    · cases hc
  · obtain rfl := Option.some.inj hc; cases hq
  · split at hc
    · rename_i ha
      obtain rfl := Option.some.inj hc; exact q_mnb hR hop ha hok
    · cases hc
  · split at hc
    · split at hc
      · obtain rfl := Option.some.inj hc; cases hq
      · cases hc
    · cases hc
  · obtain rfl := Option.some.inj hc; exact q_nck hR hop hok
  · split at hc
    · rename_i fs z ht hz
      split at hc
      · rename_i hall
        rw [Option.map_eq_some_iff] at hc
        obtain ⟨pl, hpl, rfl⟩ := hc
        exact q_bld hR hop ht hz hall hpl hok
      · cases hc
    · cases hc
  · split at hc
    · rename_i hf
      split at hc
      · rename_i d i hd hi
        by_cases hg : isAggT (some d) = true
        · rw [if_pos hg] at hc; obtain rfl := Option.some.inj hc; exact q_fldvs hR hop hf hd hi hg hok
        · rw [if_neg hg] at hc; obtain rfl := Option.some.inj hc; exact q_fldv hR hop hf hd (by simpa using hg) hok
      · cases hc
    · cases hc
  · cases hc

def isCall : AOp → Bool
  | .call .. | .callv .. => true
  | _ => false

theorem loud_all {o : Oper} {x : AOp} {K : AV → Heap → Prop} (hc : compileOp P o = some x) (hq : isQuiet x = false) (hcall : isCall x = false) (hE : evLoud x F H K) (hR : R N g F H a w) : Loud P a w g H o (isExt x) K := by
  rcases compileOp_inv hc with hc | rfl
  rotate_left
  · cases hq
  unfold compileOp0 at hc
  split at hc <;> rename_i hop
  · obtain rfl := Option.some.inj hc; cases hq
  · obtain rfl := Option.some.inj hc; cases hq
  · obtain rfl := Option.some.inj hc; cases hq
  · split at hc
    · rename_i z hz
      obtain rfl := Option.some.inj hc; exact l_alloc hR hop hz hE
    · cases hc
  · obtain rfl := Option.some.inj hc; exact l_box hR hop hE
  · split at hc
    · rename_i d i hd hi
      by_cases hg : isAggT (some d) = true
      · rw [if_pos hg] at hc; obtain rfl := Option.some.inj hc; cases hq
      · rw [if_neg hg] at hc; obtain rfl := Option.some.inj hc; cases hq
    · cases hc
  · split at hc
    · rename_i i hi
      obtain rfl := Option.some.inj hc; exact l_store hR hop hi hE
    · cases hc
  · obtain rfl := Option.some.inj hc; cases hq
  · obtain rfl := Option.some.inj hc; cases hq
  · obtain rfl := Option.some.inj hc; cases hq
  · split at hc
    · obtain rfl := Option.some.inj hc; cases hq
    · cases hc
  · split at hc
    · split at hc
      · split at hc
        · cases hc
        · obtain rfl := Option.some.inj hc; cases hq
      · cases hc
    · cases hc
  · split at hc
    · obtain rfl := Option.some.inj hc; cases hq
    · cases hc
  · split at hc
    · obtain rfl := Option.some.inj hc; cases hq
    · cases hc
  · rename_i t l c
    by_cases hlc : l = c
    · rw [if_pos hlc] at hc
      split at hc
      · rename_i k z hk hz
        by_cases hzk : z.length = k
        · rw [if_pos hzk] at hc; obtain rfl := Option.some.inj hc; exact l_mk hR hop (by rw [hlc]) hk hz hzk hE
        · rw [if_neg hzk] at hc; cases hc
      · cases hc
    · rw [if_neg hlc] at hc; cases hc
  · rename_i t k1 n1 k2 n2
    by_cases hlc : k1 = k2 ∧ n1 = n2
    · rw [if_pos hlc] at hc
      split at hc
      · rename_i k z hk hz
        by_cases hzk : z.length = k
        · rw [if_pos hzk] at hc; obtain rfl := Option.some.inj hc; exact l_mk (l := .const (.int k1 n1)) hR hop (by rw [hlc.1, hlc.2]) hk hz hzk hE
        · rw [if_neg hzk] at hc; cases hc
      · cases hc
    · rw [if_neg hlc] at hc; cases hc
  · split at hc
    · obtain rfl := Option.some.inj hc; cases hq
    · split at hc
      · obtain rfl := Option.some.inj hc; cases hq
      · cases hc
  · obtain rfl := Option.some.inj hc; cases hq
  · obtain rfl := Option.some.inj hc; cases hq
  · split at hc
    · rename_i hk hz
      obtain rfl := Option.some.inj hc; exact l_bsl hR hop hk (by rw [hz]; rfl) hE
    · cases hc
  · split at hc
    · split at hc
      · obtain rfl := Option.some.inj hc; cases hq
      · obtain rfl := Option.some.inj hc; cases hq
      · cases hc
    · cases hc
  · split at hc
    · rename_i s x t u ha hts
      by_cases htu : t = u
      · rw [if_pos htu] at hc
        subst htu
        split at hc
        · rename_i k z hk hz
          by_cases hzk : z.length = k ∧ 0 < k
          · rw [if_pos hzk] at hc; obtain rfl := Option.some.inj hc; exact l_app hR hop ha hts hk hz hzk.1 hE
          · rw [if_neg hzk] at hc; cases hc
        · cases hc
      · rw [if_neg htu] at hc; cases hc
    · cases hc
  · split at hc
    · split at hc
      · cases hc
      · obtain rfl := Option.some.inj hc; cases hcall
    · cases hc
  · obtain rfl := Option.some.inj hc; cases hcall
  · split at hc
    · obtain rfl := Option.some.inj hc; cases hq
    · cases hc
  · split at hc
    · rename_i ha hts
      split at hc
      · rename_i hk
        obtain rfl := Option.some.inj hc; exact l_cpy hR hop ha hts hk hE
      · cases hc
    · cases hc
  · obtain rfl := Option.some.inj hc; cases hq
  · split at hc
    · split at hc
      · rw [Option.map_eq_some_iff] at hc
        obtain ⟨pl, hpl, rfl⟩ := hc
        cases hq
      · cases hc
    · cases hc
  · split at hc
    · split at hc
      · rename_i d i hd hi
        by_cases hg : isAggT (some d) = true
        · rw [if_pos hg] at hc; obtain rfl := Option.some.inj hc; cases hq
        · rw [if_neg hg] at hc; obtain rfl := Option.some.inj hc; cases hq
      · cases hc
    · cases hc
  · cases hc

end Go.Gov
