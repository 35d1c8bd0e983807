/- A region that draws its order, by facts that the walk itself finds. -/
import Derived.Test.YtflbcabjefpojaaBaseC
namespace Go.Proofs.Ytflbcabjefpojaa
set_option linter.unusedSimpArgs false
set_option linter.unusedVariables false
open Go.RowKit Go.Shelf
section
variable {F : Fence} {n : Nat} {P : Program} {ops : Array Oper} {Q : Exit → Act → World → Prop}

/-- The value is this one. -/
def eqv (e : Value) : Value → World → Prop := fun v _ => v = e
def allv (Rl : List (Value → World → Prop)) (C : World → World → Prop) : Prop := AllStable C Rl
theorem stable_eqv {C : World → World → Prop} {e : Value} {Rl : List (Value → World → Prop)} (h : AllStable C Rl) : AllStable C (eqv e :: Rl) := ⟨fun _ _ _ _ h => h, h⟩

/-- 'wp_region_facts', the number of facts said apart. -/
theorem wp_region_vals {id : Nat} {a : Act} {w : World} (k : Nat) (hm : P.follows .mixedOrders = true) (Rl : List (Value → World → Prop)) (C : World → World → Prop) (hk : Rl.length = k)
    (hCr : ∀ x : World, C x x) (hCt : ∀ {x y z : World}, C x y → C y z → C x z) (hst : AllStable C Rl)
    (hfo : factsOk ops a.tmps.size = true) (ht : tailOk ops k = true) (hC0 : C w w.drew)
    (hsteps : StepsFrom F n P ops Rl C Q a w 0 (ops.toList.take k))
    (hend : ∀ w', C w w' → EndFrom (fun a' => wpListIn F n P ops Q (ops.toList.drop k) a' w') w' ops.toList Rl a) :
    (Code.region id ops true).wpIn F n P Q a w := by
  subst hk
  exact wp_region_facts hm Rl C hCr hCt hst hfo ht hC0 hsteps hend
theorem wp_region_textv {id : Nat} {a : Act} {w : World} (k : Nat) (Rl : List (Value → World → Prop)) (C : World → World → Prop) (hk : Rl.length = k)
    (hCr : ∀ x : World, C x x) (hCt : ∀ {x y z : World}, C x y → C y z → C x z) (hst : AllStable C Rl)
    (hfo : factsOk ops a.tmps.size = true)
    (hsteps : StepsFrom F n P ops Rl C Q a w 0 (ops.toList.take k))
    (hend : ∀ w', C w w' → EndFrom (fun a' => wpListIn F n P ops Q (ops.toList.drop k) a' w') w' ops.toList Rl a) :
    (Code.region id ops false).wpIn F n P Q a w := by
  subst hk
  exact wp_region_text Rl C hCr hCt hst hfo hsteps hend
end
end Go.Proofs.Ytflbcabjefpojaa
