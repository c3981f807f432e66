/- All tracked objects frozen for good ahead of a call: what the call gives may lean on them. -/
import Derived.Test.YtkolabjcmephaaaGov19
set_option linter.unusedSimpArgs false
set_option linter.unusedVariables false
namespace Go.Gov
variable {P : Program} {N : Nat} {g : Gh} {F : Frame} {H : Heap} {a : Act} {w : World} {M : List Nat} {n0 : Nat}

def deadH (H : Heap) : Heap := H.map fun _ => none
theorem deadH_get {o : Nat} {cs : List AV} (h : (deadH H)[o]? = some (some cs)) : False := by simp [deadH] at h
theorem dead_tr {g g' : Gh} {o : Nat} {d : Option LocN} (h : g.tr H o = some d) : g'.tr (deadH H) o = some none := by
  have hl := tr_lt h
  simp [Gh.tr, deadH, hl]
theorem dead_mv (hp : HeapR g H w) : Mv g H w ⟨g.ρ, g.ob, fun b => g.G b ∨ g.owns H b⟩ (deadH H) w :=
  ⟨⟨fun o cs h => (deadH_get h).elim, fun o cs h => (deadH_get h).elim, fun o o' cs cs' h => (deadH_get h).elim, fun o cs h => (deadH_get h).elim, fun b hb => hb.elim (hp.low b) fun ⟨o, cs, ho, h1⟩ => (hp.obj o cs ho).all_lt b h1⟩,
    ⟨rfl, rfl, rfl, Nat.le_refl _, fun _ _ _ => rfl, fun b ⟨o, cs, ho, _⟩ => (deadH_get ho).elim, fun _ h => .inl h, fun _ h => h.elim .inl fun h => .inr (.inl h), fun _ _ => rfl⟩,
    fun x v h => Rd.mono (fun _ h => .inl h) (fun _ _ => rfl) (fun _ _ h => .inr (dead_tr h)) h (by simp),
    fun o d h => .inr (dead_tr h)⟩

theorem CallsX.freeze {ext : Bool} {f : FuncId} {args' : List AV} {K : AV → Heap → Prop} (h : CallsX P ext f (args'.map (frz H 6)) (deadH H) K) : CallsX P ext f args' H K := by
  intro g w vals hp hl hr
  refine (h ⟨g.ρ, g.ob, fun b => g.G b ∨ g.owns H b⟩ w vals (dead_mv hp).hp (by simpa using hl) fun m hm => ?_).mono ?_
  · simp only [List.getElem_map]
    refine Rd.mono ?_ (fun _ _ => rfl) (fun o d h => by cases h) (frz_own hp 6 _ _ [] (hr m (by simpa using hm)) (by simp)) (by simp)
    exact fun _ h => h
  · rintro e w' ⟨v, g', av, H', he, hm, hx, hE, hk⟩
    exact ⟨v, g', av, H', he, (dead_mv hp).trans hm, hx, hE, hk⟩

theorem call_pureZ {ext : Bool} {f : FuncId} {args args' : List AV} {x : AV} {H0 : Heap} {K : AV → Heap → Prop} (h : Pure P f args x H0) (ha : (args'.map (frz H 6)).map (rnm fun _ => none) = args) (hK : K (rnm (shT H.length) x) (deadH H ++ rnmH H.length H0)) : CallsX P ext f args' H K := by
  refine CallsX.freeze (call_pureG h ha ?_)
  rwa [show (deadH H).length = H.length by simp [deadH]]

end Go.Gov
