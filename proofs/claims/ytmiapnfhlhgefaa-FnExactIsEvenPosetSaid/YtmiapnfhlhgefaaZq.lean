/- Texts that belong together. -/
import Derived.Test.YtmiapnfhlhgefaaZf
import Derived.Test.YtmiapnfhlhgefaaZj
set_option linter.unusedSimpArgs false
set_option linter.unusedVariables false
set_option maxRecDepth 100000
namespace Go.Proofs.Ytmiapnfhlhgefaa
open Go.Gov

theorem grow_c (n : Nat) (hn : n ≤ 1099511627776) : Pure Try.prog 79 [nilS, i64 n] (.sl 0 1 0 0) [some []] := by
  intro g w vals hp hl1 hr
  have h0 := hr 0 (by simp)
  have h1 := hr 1 (by simp)
  simp only [List.getElem_cons_zero, List.getElem_cons_succ] at h0 h1
  have hv : vals = #[.slice none 0 0, .int .i64 n] := by
    refine Array.ext (by simpa using hl1) fun i h2 h3 => ?_
    have e0 := h0.val_inv.1
    have e1 := h1.val_inv.1
    simp only [List.length_cons, List.length_nil] at hl1
    match i, h3 with
    | 0, _ => simpa [h2] using e0
    | 1, _ => simpa [h2] using e1
  subst hv
  have hsl : ∀ (g' : Gh) (w' : World) (l : Go.Gov.Loc) (v : Value), g'.ρ 0 = l → SlAt l 1 0 0 v → v.oneCell' = true → Rd w' (g'.tr [some []]) g'.G (.sl 0 1 0 0) v [] := fun g' w' l v hl hS h1 => by
    have e1 : g'.tr [some ([] : List AV)] 0 = some (some (l, 0)) := by rw [Gh.tr_some (cs := []) rfl, hl]; rfl
    refine .sl (by rw [e1]; rfl) h1 fun l' hl' => ?_
    rw [e1] at hl'
    obtain rfl := Option.some.inj (Option.some.inj hl')
    exact ⟨by dsimp only; omega, hS⟩
  rcases Nat.eq_zero_or_pos n with rfl | hpos
  · refine (Any8.slices_Grow_room Try.growL none 0 0 0 w (by omega) (by omega) (by omega) (by omega)).mono ?_
    rintro e w' ⟨rfl, rfl⟩
    have hm2 := nil_obj hp
    exact ⟨_, _, _, _, rfl, hm2, hsl _ _ none _ (by simp [Gh.add]) ⟨rfl, none, rfl⟩ rfl, fun _ _ _ => rfl, rfl, rfl⟩
  · have hinfo : (Try.prog.info? (Try.growL_ren.t 25)).bind (fun i => i.zero.map fun z => (i.size, i.bytes, z.cells.toList)) = some (1, 8, [.int .i64 0]) := by kernel_rfl
    simp only [Option.bind_eq_some_iff, Option.map_eq_some_iff, Prod.mk.injEq] at hinfo
    obtain ⟨i0, hi, z, hz, hsz, hby, hzc⟩ := hinfo
    have hzs : z.cells.size = 1 := by rw [← Array.length_toList, hzc]; rfl
    refine (Any8.slices_Grow_grow Try.growL i0 z hi hz (by omega) none 0 0 n [] w (by omega) (by omega) (by rw [hby]; omega) (by omega) (by simp) (fun _ => rfl) (by simp)).mono ?_
    rintro e w' ⟨rfl, rfl⟩
    obtain ⟨ha1, ha2, ha3⟩ := alloc_drew w (.cells (([] : List Value).toArray ++ Builtin.zeroCells z.cells (0 + n - 0) ++ Builtin.zeroCells z.cells (grownCap w (0 + n) 0 (Try.growL_ren.t 25) - (0 + n))) (Try.growL_ren.t 25))
    obtain ⟨g', hm', hρ⟩ := new_plain hp ha3 (by omega) rfl rfl rfl (fun a => frozen_alloc w.drew _ _ a) (Nat.le_refl _) (cs := []) (fun _ => undef) ha2 (by simp) (fun m hm => by simp at hm) (fun m hm => by simp at hm)
    refine ⟨_, g', _, _, rfl, hm', hsl g' _ _ _ hρ ⟨grownCap w (0 + n) 0 (Try.growL_ren.t 25), by omega, grownCap_le_maxLen w (0 + n) 0 _ (by unfold maxLen; omega), ?_, .inl (by simp)⟩ rfl, fun _ k hk => ha3 k hk, rfl, rfl⟩
    have hge := grownCap_ge w (0 + n) 0 (Try.growL_ren.t 25)
    simp only [Array.size_append, List.size_toArray, List.length_nil, size_zeroCells, hzs]
    omega

theorem take_len (xs : List Int) : (intsC xs).take xs.length = intsC xs := List.take_of_length_le (by simp [intsC])
theorem concat_c (xss : List (List Int)) (hl : xss.length ≤ 1048576) (ht : tot xss ≤ 1099511627776) : Pure Try.prog 54 [mat xss] (.sl 0 1 0 xss.flatten.length) [some (intsC xss.flatten)] := by
  refine pureVg [0] ok54 rfl ?_; unfold c54
  (repeat first | simp only [go_sem, ↓reduceIte, Nat.reduceEqDiff, Nat.reduceAdd, reduceCtorEq] | with_reducible refine V_W ?_ | (with_reducible refine And.intro ?_ ?_; focus first | assumption | omega | decide | grind) | (with_reducible refine Br.mk ?_ ?_; focus (intros; omega)) | decide)
  refine V_loop (α := Nat) (S := fun k => ([(0, mat xss), (9, mat xss), (10, i64 xss.length), (11, i64 k), (3, i64 (tot (xss.take k)))], [])) (C := fun k => k ≤ xss.length) (μ := fun k => xss.length - k) 0 (by omega) (Ref.frame (by simp [sub, fget, tot])) ?_
  intro k hk
  have h1 := tot_take_le xss k
  (repeat first | simp only [go_sem, ↓reduceIte, Nat.reduceEqDiff, Nat.reduceAdd, reduceCtorEq] | with_reducible refine V_W ?_ | (with_reducible refine And.intro ?_ ?_; focus first | assumption | omega | decide | grind) | (with_reducible refine Br.mk ?_ ?_; focus (intros; omega)) | decide)
  refine ⟨fun hc => ?_, fun hc => ?_⟩
  · have h2 := tot_take xss k (by omega)
    have h3 := tot_take_le xss (k + 1)
    (repeat first | simp only [go_sem, ↓reduceIte, Nat.reduceEqDiff, Nat.reduceAdd, reduceCtorEq] | with_reducible refine V_W ?_ | (with_reducible refine And.intro ?_ ?_; focus first | assumption | omega | decide | grind) | (with_reducible refine Br.mk ?_ ?_; focus (intros; omega)) | decide)
    refine fun hc2 => ?_
    (repeat first | simp only [go_sem, ↓reduceIte, Nat.reduceEqDiff, Nat.reduceAdd, reduceCtorEq] | with_reducible refine V_W ?_ | (with_reducible refine And.intro ?_ ?_; focus first | assumption | omega | decide | grind) | (with_reducible refine Br.mk ?_ ?_; focus (intros; omega)) | decide)
    exact ⟨k + 1, by omega, by omega, Ref.frame (by simp [sub, fget, h2])⟩
  · obtain rfl : k = xss.length := by omega
    rw [List.take_length]
    (repeat first | simp only [go_sem, ↓reduceIte, Nat.reduceEqDiff, Nat.reduceAdd, reduceCtorEq] | with_reducible refine V_W ?_ | (with_reducible refine And.intro ?_ ?_; focus first | assumption | omega | decide | grind) | (with_reducible refine Br.mk ?_ ?_; focus (intros; omega)) | decide)
    refine pureC (grow_c (tot xss) ht) (by simp only [go_sem, ↓reduceIte, Nat.reduceEqDiff, Nat.reduceAdd, reduceCtorEq] <;> rfl) (by first | rfl | simp only [go_sem, ↓reduceIte, Nat.reduceEqDiff, Nat.reduceAdd, reduceCtorEq]) ?_
    (repeat first | simp only [go_sem, ↓reduceIte, Nat.reduceEqDiff, Nat.reduceAdd, reduceCtorEq] | with_reducible refine V_W ?_ | (with_reducible refine And.intro ?_ ?_; focus first | assumption | omega | decide | grind) | (with_reducible refine Br.mk ?_ ?_; focus (intros; omega)) | decide)
    refine V_loop (α := Nat) (S := fun k => ([(25, mat xss), (26, i64 xss.length), (27, i64 k), (6, .sl 0 1 0 (xss.take k).flatten.length)], [some (intsC (xss.take k).flatten)])) (C := fun k => k ≤ xss.length) (μ := fun k => xss.length - k) 0 (by omega) (Ref.to (by simp [intsC]) (by simp [sub, fget])) ?_
    intro k hk
    have hf : (xss.take k).flatten.length = tot (xss.take k) := by simp [tot, List.length_flatten]
    have h1 := tot_take_le xss k
    (repeat first | simp only [go_sem, ↓reduceIte, Nat.reduceEqDiff, Nat.reduceAdd, reduceCtorEq] | with_reducible refine V_W ?_ | (with_reducible refine And.intro ?_ ?_; focus first | assumption | omega | decide | grind) | (with_reducible refine Br.mk ?_ ?_; focus (intros; omega)) | decide)
    refine ⟨fun hc => ?_, fun hc => ?_⟩
    · have h2 := tot_take xss k (by omega)
      have h3 := tot_take_le xss (k + 1)
      have he : (xss.take (k + 1)).flatten = (xss.take k).flatten ++ xss.getD k [] := by
        rw [List.take_succ_eq_append_getElem (by omega), List.flatten_append]
        simp [show k < xss.length by omega]
      (repeat first | simp only [go_sem, ↓reduceIte, Nat.reduceEqDiff, Nat.reduceAdd, reduceCtorEq] | with_reducible refine V_W ?_ | (with_reducible refine And.intro ?_ ?_; focus first | assumption | omega | decide | grind) | (with_reducible refine Br.mk ?_ ?_; focus (intros; omega)) | decide)
      refine ⟨k + 1, by omega, by omega, ?_⟩
      rw [he]
      refine Ref.gc [1] rfl ?_ (by simp [sub, fget, go_sem, ↓reduceIte, Nat.reduceEqDiff, Nat.reduceAdd, reduceCtorEq])
      (try simp only [go_sem, ↓reduceIte, Nat.reduceEqDiff, Nat.reduceAdd, reduceCtorEq, take_len, app_intsC])
    · obtain rfl : k = xss.length := by omega
      (repeat first | simp only [go_sem, ↓reduceIte, Nat.reduceEqDiff, Nat.reduceAdd, reduceCtorEq] | with_reducible refine V_W ?_ | (with_reducible refine And.intro ?_ ?_; focus first | assumption | omega | decide | grind) | (with_reducible refine Br.mk ?_ ?_; focus (intros; omega)) | decide)
      (try simp only [go_sem, ↓reduceIte, Nat.reduceEqDiff, Nat.reduceAdd, reduceCtorEq, List.take_length, and_self])

end Go.Proofs.Ytmiapnfhlhgefaa
