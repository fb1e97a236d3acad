/-
  What the claim's law rests on, part 6 of 6: printed walks, externals, plain lemmas; conditions: none of its own.
-/
import Derived.ChangeSame
import Derived.Handed
import Derived.HandedShaped
import Derived.LaidSub
import Derived.Lib.LaidTab
import Derived.Lib.SmallJoins
import Derived.OpenShut
import Derived.ShapedOpen
import Derived.ShutString
import Derived.Test.YtedfgkjimnjdpaaDoorTb5
namespace Go.Proofs.YtedfgkjimnjdpaaDoor.X
open Go
set_option linter.unusedVariables false
section
variable {H : Type} {enc : TypeId × Value → H}
theorem handed_laid_shaped {a : Assume} {C : Checked} {os : Os} {f : FuncId} {fn : Func} {s : ChangeSpec} {conds : List PathCond} {apart fresh handsOn again : Bool} {X : World → Array Value → Prop}
  (hX : ∀ (w w' : World) (args : Array Value),w.heap = w'.heap → X w args → X w' args)
  (own : ownKnob C.prog.godebug = none) (started : os.Started) (noInit : C.prog.inits.idxOf? f = none) (hfn : C.prog.funcs[f]? = some fn)
  (witness : ∃ (w : World) (tape : Tape) (i : Input),w.os = os ∧ (w.forCall tape i).Shaped C.prog ∧ i.vars = [] ∧ Input.okWide C.prog (w.forCall tape i) .any w.heap.size f i ∧
   ((s.pre enc C.prog fn conds apart (w.forCall tape i).memory i.args ∧ X (w.forCall tape i).memory i.args) ∧ sizedMet enc C.prog fn (OpenSpec.ofChange s) apart (w.forCall tape i).memory i.args) ∧ a.holds C.prog (lone (Frame.enter C.prog f i.args .normal) [] (w.forCall tape i)))
  (contract : ∀ (W : World) (base : Nat) (args : Array Value) (ds gs : List (DataW H)) (before : List MemPlace),
   (∀ (j : Nat) t v,fn.params[j]? = some t → args[j]? = some v → Value.okWide C.prog W .any base t v) →
   DataW.Whole enc C.prog fn.params.toList s.vars apart W args.toList ds gs before →
   conds.all (PathCond.test C.prog ⟨fn.params.toList,ds,s.plain.varTypes C.prog,gs⟩) = true →
   (DataW.weightsEach C.prog (fn.params.toList ++ s.plain.varTypes C.prog) (ds ++ gs)).all (· ≤ reachBytes) = true → X W args → W.ShapedOpen C.prog →
   a.holds C.prog (lone (Frame.enter C.prog f args .normal) [] W) →
   Calls C.prog f args W fun e W' => ∃ v,e = .returned v ∧ s.post enc C.prog fn apart fresh handsOn again W args v W') :
  ReturnsInHanded a C os f .any (fun w args => (s.pre enc C.prog fn conds apart w args ∧ X w args) ∧ sizedMet enc C.prog fn (OpenSpec.ofChange s) apart w args) (s.post enc C.prog fn apart fresh handsOn again):=by
 refine returnsInHanded_of_calls own started noInit witness ?_
 intro w tape i _ hsh _ hok hpre hholds
 obtain ⟨_,_,_,fn',hfn',_,_,_,_,hval⟩:=hok
 have e : fn' = fn:=Option.some.inj (hfn'.symm.trans hfn)
 subst e
 obtain ⟨⟨⟨ds,gs,before,hw,hc⟩,hx⟩,hz⟩:=hpre
 have hw':=DataW.Whole.of_heap (w':=w.forCall tape i) (by rfl) hw
 refine (contract (w.forCall tape i) w.heap.size i.args ds gs before hval hw' hc (hz.weights hw) (hX _ _ _ (by rfl) hx) hsh hholds).mono fun e W' ⟨v,he,hp⟩ => ?_
 subst he
 exact ChangeSpec.post_blind hp
end
end Go.Proofs.YtedfgkjimnjdpaaDoor.X
namespace Go.Proofs.YtedfgkjimnjdpaaDoor.X
open Go.RowKit Go.ChangeShapes Go.WideShapes Go.ChangeAt
open Go.ChangeMaps (open_string shut_string)
set_option linter.unusedVariables false
set_option maxRecDepth 100000 in
theorem open_rcpt {H : Type} {enc : TypeId × Value → H} {w : World} {base : Nat} {spare : Nat → Bool} {held : Bool} {r : Reach} {b0 : Nat} {v : Value} {d : DataW H} {p : List MemPlace}
  (hv : Value.okWide Tryd.prog w r b0 39 v) (h : DataW.Trod enc Tryd.prog w base spare held 39 v d p) :
  ∃ (q : Int) (g : ByteArray) (s c : Int),v = .agg #[.int .i64 q,.string g,.int .i64 s,.int .i64 c] ∧ p = [] ∧ g.size ≤ maxLen ∧ (Lit.int .i64 q).wf = true ∧ (Lit.int .i64 s).wf = true ∧ (Lit.int .i64 c).wf = true ∧
   ∀ (w' : World) (base' : Nat) (spare' : Nat → Bool) (held' : Bool),DataW.Trod enc Tryd.prog w' base' spare' held' 39 (.agg #[.int .i64 q,.string g,.int .i64 s,.int .i64 c]) d []:=by
 obtain ⟨v0,v1,v2,v3,y0,y1,y2,y3,n,rfl,rfl,rfl,h0,h1,h2,h3⟩:=Joins.open_agg4 Tryd.underlying39 (by kernel_rfl) (by kernel_rfl) hv h
 obtain ⟨q,e0,rfl,w0⟩:=DataW.trod_int Tryd.underlying3 h0
 obtain ⟨g,e1,rfl,w1⟩:=DataW.trod_string Tryd.underlying9 h1
 obtain ⟨s,e2,rfl,w2⟩:=DataW.trod_int Tryd.underlying3 h2
 obtain ⟨c,e3,rfl,w3⟩:=DataW.trod_int Tryd.underlying3 h3
 simp only [List.cons.injEq,and_true] at e0 e1 e2 e3
 subst e0 e1 e2 e3
 refine ⟨q,g,s,c,rfl,rfl,w1,w0,w2,w3,fun w' base' spare' held' => ?_⟩
 exact Joins.shut_agg4 (y0:=(.lit (.int .i64 q),[])) (y1:=(.lit (.string g.data.toList),[])) (y2:=(.lit (.int .i64 s),[])) (y3:=(.lit (.int .i64 c),[])) Tryd.underlying39 (by kernel_rfl) (by kernel_rfl)
  ⟨1,by simp [DataW.trod,Tryd.underlying3,w0]⟩ ⟨1,by simp [DataW.trod,Tryd.underlying9,w1]⟩ ⟨1,by simp [DataW.trod,Tryd.underlying3,w2]⟩ ⟨1,by simp [DataW.trod,Tryd.underlying3,w3]⟩
theorem wf_u8 {n : Int} (h : (Lit.int .u8 n).wf = true) : 0 ≤ n ∧ n < 256:=by
 simp [Lit.wf,IntKind.min,IntKind.max,IntKind.signed,IntKind.bits] at h
 omega
end Go.Proofs.YtedfgkjimnjdpaaDoor.X
namespace Go.Proofs.YtedfgkjimnjdpaaDoor.X
open Go.RowKit Go.Proofs.YtedfgkjimnjdpaaDoorW.PrintWords
set_option linter.unusedVariables false
set_option linter.unusedSimpArgs false
theorem heap_of_var {P : Program} {W : World} {name : String} {g : Nat} {zero : Array Value} {t : TypeId} {arr : Array Value} (hsh : W.ShapedOpen P) (hlt : g < P.globals.size)
  (hrow : (((begin P (fun _ _ => 0) default).world).heap[g]?).bind Obj.row? = some (zero,t)) (hg : P.globalNamed name = some g) (hv : W.var? P name = some arr) : W.heap[g]? = some (.cells arr t (0,0)):=by
 obtain ⟨hs,_⟩:=hsh
 obtain ⟨cs',h1,_,_⟩:=hs g zero t hlt hrow
 unfold World.var? at hv
 rw [hg] at hv
 simp only [Option.bind_some,h1] at hv
 rw [h1]
 cases hv
 rfl
set_option maxRecDepth 100000 in
theorem GlobDg.of {W : World} {l : List (String × DataW Unit)} (hsh : W.ShapedOpen Tryd.prog) (hL : laidMet Tryd.prog l W)
  (h1 : l.filter (fun x => x.1 == "raceway/digest.rounds") = [("raceway/digest.rounds", Lib.tabData .u32 roundsL)]) : GlobDg W := by
 have s1 := hL.filter (fun x => x.1 == "raceway/digest.rounds")
 rw [h1] at s1
 have g1 : Tryd.prog.globalNamed "raceway/digest.rounds" = some 1 := by kernel_rfl
 have t1:=Lib.tabIs_of_head (t:=163) (e:=107) (n:=64) g1 (by kernel_rfl) (by kernel_rfl) (by kernel_rfl) (by kernel_rfl) (by kernel_rfl) s1
 exact heap_of_var (zero:=Array.replicate 64 (.int .u32 0)) (t:=163) hsh (of_decide_eq_true (by kernel_rfl)) (by kernel_rfl) g1 t1
set_option maxRecDepth 100000 in
theorem GlobCr.of {W : World} {l : List (String × DataW Unit)} (hsh : W.ShapedOpen Tryd.prog) (hL : laidMet Tryd.prog l W)
  (h1 : l.filter (fun x => x.1 == "raceway/crc.half") = [("raceway/crc.half", Lib.tabData .u32 halfL)]) : GlobCr W := by
 have s1 := hL.filter (fun x => x.1 == "raceway/crc.half")
 rw [h1] at s1
 have g1 : Tryd.prog.globalNamed "raceway/crc.half" = some 0 := by kernel_rfl
 have t1:=Lib.tabIs_of_head (t:=147) (e:=107) (n:=16) g1 (by kernel_rfl) (by kernel_rfl) (by kernel_rfl) (by kernel_rfl) (by kernel_rfl) s1
 exact heap_of_var (zero:=Array.replicate 16 (.int .u32 0)) (t:=147) hsh (of_decide_eq_true (by kernel_rfl)) (by kernel_rfl) g1 t1
end Go.Proofs.YtedfgkjimnjdpaaDoor.X
