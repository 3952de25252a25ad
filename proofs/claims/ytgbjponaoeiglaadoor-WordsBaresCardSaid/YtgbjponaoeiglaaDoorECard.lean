/- The engine's text of rows that list laid variables: the way from a law's contract to its row. -/
import Derived.Test.YtgbjponaoeiglaaDoorERow
import Derived.LaidMore
import Derived.Lay
import Derived.Handed
import Derived.LaidLaws
import Derived.ProofKit
import Derived.SevenTiedAt
import Derived.Stop.Joined
set_option linter.unusedVariables false
set_option linter.unusedSimpArgs false
namespace Go.Proofs.YtgbjponaoeiglaaDoor.E
open Go Go.RowKit Go.ChangeShapes Go.WideShapes
theorem row_lifted_laid {H : Type} {enc : TypeId × Value → H} {C : Checked} {os : Os} {f : FuncId} {fn : Func} {s : ChangeSpec} {conds : List PathCond} {tb : TypeId} {ts : List TypeId} {X : Type} {vals : X → List Value} {ok : World → X → Prop} {ll : List (String × DataW Unit)}
    (own : ownKnob C.prog.godebug = none) (started : os.Started) (noInit : C.prog.inits.idxOf? f = none) (hfn : C.prog.funcs[f]? = some fn)
    (witness : ∃ (w : World) (tape : Tape) (i : Input), w.os = os ∧ (w.forCall tape i).Shaped C.prog ∧ i.vars = [] ∧ Input.okWide C.prog (w.forCall tape i) .any w.heap.size f i ∧
      ((s.pre enc C.prog fn conds false (w.forCall tape i).memory i.args ∧ laidMetH C.prog ll (w.forCall tape i).memory) ∧ sizedMet enc C.prog fn (OpenSpec.ofChange s) false (w.forCall tape i).memory i.args) ∧ ({} : Assume).holds C.prog (lone (Frame.enter C.prog f i.args .normal) [] (w.forCall tape i)))
    (hts : fn.params.toList = ts) (hrs : fn.resultTypes = #[tb]) (hb : C.prog.underlying tb = some .bool) (hvars : s.vars = []) (laid : laidOutB C.prog = true)
    (hrd : ts.all (fun t => C.prog.readableRec t && decide (t < C.prog.types.size)) = true)
    (hs : ∀ ds : List (DataW H), ds.length = ts.length → s.fn H ds = { results := [.lit (.bool true)], args := ds })
    (hopen : ∀ W, OpensA C.prog W ts vals (ok W))
    (law : ∀ W x, ok W x → ∃ L, FnSpec C.prog f (vals x) L (fun v M => v = .bool true) ∧ ∀ A ∈ L, A.p noOwn (heapOf W)) :
    ReturnsInHanded {} C os f .any (fun w args => (s.pre enc C.prog fn conds false w args ∧ laidMetH C.prog ll w) ∧ sizedMet enc C.prog fn (OpenSpec.ofChange s) false w args) (s.post enc C.prog fn false true false false) := by
  refine returnsInHanded_of_change_and (X := fun w _ => laidMetH C.prog ll w) (fun _ _ _ hh h => h.of_heap hh) own started noInit hfn witness ?_
  intro W base args ds gs before hval hW hcnd hsz _ _
  have hW' := hW
  obtain ⟨p, q, hA, hV, rfl, _, _⟩ := hW
  rw [hvars] at hV
  obtain ⟨rfl, rfl⟩ := trodVars_none hV
  rw [hts] at hA
  rw [List.append_nil, hts] at hsz
  have hlen : ds.length = ts.length := trodAll_len hA
  have hw0 : ∀ n ∈ DataW.weightsEach C.prog ts ds, n ≤ reachBytes := by
    intro n hn
    have h1 : s.plain.varTypes C.prog = [] := by simp [DataSpec.varTypes, ChangeSpec.plain, hvars]
    rw [h1, List.append_nil] at hsz
    simpa using List.all_eq_true.1 hsz n hn
  obtain ⟨x, hx, hok⟩ := hopen W H enc base args.toList ds p (fun j t v ht hv => hval j t v (by rw [← hts] at ht; simpa using ht) (by simpa using hv)) hA hw0
  obtain ⟨L, hspec, hL⟩ := law W x hok
  obtain rfl : args = (vals x).toArray := by rw [← hx]
  refine (row_calls hspec hL).mono fun e W' ⟨v, M, he, hp, bel⟩ => ?_
  subst hp
  refine ⟨_, he, ds, [], _, [], p, [], hW', ?_, ?_, ?_, bel.frame _, fun h => by cases h⟩
  · rw [List.append_nil, hs ds hlen, hrs]
    exact trodAll_mk1 (shut_bool hb _)
  · rw [List.append_nil, hs ds hlen, hts]
    exact trodAll_below laid bel hrd hA
  · rw [List.append_nil, hs ds hlen, hvars]
    rfl
end Go.Proofs.YtgbjponaoeiglaaDoor.E
