/- The ends of a region's orders joined: nothing of the program. -/
import Derived.Test.YtmidcnfmphlneaaGreatQ7
namespace Go.Proofs.YtmidcnfmphlneaaGreat
open Go.RowKit
set_option linter.unusedSimpArgs false
set_option linter.unusedVariables false
def JQ (R : Act → World → Prop) : Exit → Act → World → Prop
  | .normal, a, w => R a w
  | _, _, _ => False
theorem ButB.callbut {B : Nat} {S S' : List Nat} {W0 W W1 : World} (h : ButB B S W0 W) (hb : ButS S' W W1) (hs : ∀ k, k ∈ S' → k ∈ S) : ButB B S W0 W1 :=
  ⟨h.le, hb.os.trans h.os, hb.tape.trans h.tape, hb.output.trans h.output, Nat.le_trans h.size hb.size, fun k hk hn => (hb.block k (by have := h.le; have := h.size; omega) fun hm => hn (hs k hm)).trans (h.block k hk hn)⟩
theorem JQ.mk {R : Act → World → Prop} {a : Act} {w : World} (h : R a w) : JQ R .normal a w := h
theorem JQ.region {P : Program} {c : Code} {Q : Exit → Act → World → Prop} {a : Act} {w : World} (R : Act → World → Prop) (h : c.wp P (JQ R) a w) (hq : ∀ a w, R a w → Q .normal a w) : c.wp P Q a w :=
  Code.wp_mono (fun e a w hj => by cases e <;> first | exact hq _ _ hj | exact hj.elim) h
theorem seq_join {P : Program} {r x y : Code} {Q : Exit → Act → World → Prop} {a : Act} {w : World} (R : Act → World → Prop) (h : ∀ K : Act → World → Prop, (∀ a w, x.wp P (JQ R) a w → K a w) → r.wp P (Exit.then K fun _ _ _ => False) a w) (hq : ∀ a w, R a w → y.wp P Q a w) : (Code.seq r (Code.seq x y)).wp P Q a w :=
  wp_seq (Code.wp_mono (fun e a w he => by
    cases e with
    | normal => exact wp_seq (Code.wp_mono (fun e a w hj => by cases e <;> first | exact hq _ _ hj | exact hj.elim) he)
    | _ => exact he.elim) (h _ fun _ _ h => h))
end Go.Proofs.YtmidcnfmphlneaaGreat
