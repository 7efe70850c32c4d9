import Derived.Test.YtjopoheligmmoaaGreatDoorM17
section
/- Draws are counted up: no step of the machine takes one back. -/
set_option linter.unusedVariables false
set_option linter.unusedSimpArgs false
namespace Go.cp
open Go.RowKit
def Result.wd {α:Type}:Result α->World
 | .ok _ w=>w
 | .halt _ w=>w
theorem GS {α:Type}:∀(q:Ask α) (w:World),w.drawn<=(w.ask q).2.drawn
 | .done a,w=>Nat.le_refl _
 | .ask what range k,w=>by
  rw[World.ask]
  split
  ·exact GS _ w
  ·exact Nat.le_trans (Nat.le_succ _) (GS _ { w with drawn:=w.drawn+1 })
theorem J0 (w:World) (c:Sys):w.drawn<=(w.sys c).2.drawn:=by
 unfold World.sys
 have:=GS (Kernel.perform c w.os) w
 split
 ·exact Nat.le_refl _
 ·rename_i h
  rw[h] at this
  exact this
theorem xN (w:World) (a:Addr) (n:Nat):(w.freeze a n).drawn=w.drawn:=by
 unfold World.freeze
 split<;>rfl
theorem PV {p:Program} {w w':World} {x:Addr} {u:TypeId} {a:Addr} {v:Value} {b:Bool} {l:List Addr} (h:w.viewStore p x u a v b= .ok (w',l)):w'.drawn=w.drawn:=by
 unfold World.viewStore at h
 simp only[bind,Except.bind,pure,Except.pure,throw,throwThe,MonadExceptOf.throw] at h
 repeat' (split at h)
 all_goals first
  |(cases h;rfl)
  |cases h
theorem NL {p:Program} {w w':World} {a:Addr} {v:Value} {b:Bool} {l:List Addr} (h:w.farStore p a v b= .ok (w',l)):w'.drawn=w.drawn:=by
 unfold World.farStore at h
 split at h
 ·split at h
  ·rename_i r hr
   cases h
   exact PV hr
  ·cases h
 ·cases h
theorem AW {α:Type} (p:Program) (s:Sem α):∀(w:World) (es:Array Event),w.drawn<=(Result.wd (s.runT p w es).1).drawn:=by
 induction s with
 |pure a=>intro w es;exact Nat.le_refl _
 |load m a k ih=>
  intro w es
  rw[Sem.runT]
  split
  ·exact ih _ _ _
  ·split
   ·exact ih _ _ _
   ·exact Nat.le_refl _
 |store m a v k ih=>
  intro w es
  cases v<;>rw[Sem.runT]<;>try exact Nat.le_refl _
  all_goals first
   |(intro _ h;cases h;done)
   |(split
     ·split
      ·exact Nat.le_refl _
      ·refine Nat.le_trans (Nat.le_of_eq ?_) (ih _ _)
       rfl
     ·split
      ·rename_i h;rw[<-NL h];exact ih _ _
      ·exact Nat.le_refl _)
 |new o k ih=>intro w es;rw[Sem.runT];exact ih _ { w with heap:=w.heap.push o } _
 |shape r k ih=>intro w es;rw[Sem.runT];exact ih _ _ _
 |freeze a n k ih=>intro w es;rw[Sem.runT,<-xN w a n];exact ih _ _
 |frozen a k ih=>intro w es;rw[Sem.runT];exact ih _ _ _
 |getObj r k ih=>
  intro w es
  rw[Sem.runT]
  split
  ·exact Nat.le_refl _
  ·exact ih _ _ _
  ·exact Nat.le_refl _
 |setObj r o k ih=>
  intro w es
  rw[Sem.runT]
  split
  ·exact Nat.le_refl _
  ·exact ih { w with heap:=w.heap.setIfInBounds r o } _
  ·exact Nat.le_refl _
 |choose q k ih=>
  intro w es
  rw[Sem.runT]
  split
  ·exact ih _ _ _
  ·exact Nat.le_trans (Nat.le_succ _) (ih _ { w with drawn:=w.drawn+1 } _)
 |sys c k ih=>
  intro w es
  rw[Sem.runT]
  exact Nat.le_trans (J0 w c) (ih _ _ _)
 |program k ih=>intro w es;rw[Sem.runT];exact ih _ _ _
 |mark m k ih=>intro w es;rw[Sem.runT];exact ih _ _
 |halt h=>intro w es;exact Nat.le_refl _
theorem JS {α:Type} (p:Program) (s:Sem α):∀(w:World),w.drawn<=(Result.wd (s.run p w)).drawn:=by
 induction s with
 |pure a=>intro w;exact Nat.le_refl _
 |load m a k ih=>
  intro w
  rw[Sem.run]
  split
  ·exact ih _ _
  ·split
   ·exact ih _ _
   ·exact Nat.le_refl _
 |store m a v k ih=>
  intro w
  cases v<;>rw[Sem.run]<;>try exact Nat.le_refl _
  all_goals first
   |(intro _ h;cases h;done)
   |(split
     ·split
      ·exact Nat.le_refl _
      ·refine Nat.le_trans (Nat.le_of_eq ?_) (ih _)
       rfl
     ·split
      ·rename_i h;rw[<-NL h];exact ih _
      ·exact Nat.le_refl _)
 |new o k ih=>intro w;rw[Sem.run];exact ih _ { w with heap:=w.heap.push o }
 |shape r k ih=>intro w;rw[Sem.run];exact ih _ _
 |freeze a n k ih=>intro w;rw[Sem.run,<-xN w a n];exact ih _
 |frozen a k ih=>intro w;rw[Sem.run];exact ih _ _
 |getObj r k ih=>
  intro w
  rw[Sem.run]
  split
  ·exact Nat.le_refl _
  ·exact ih _ _
  ·exact Nat.le_refl _
 |setObj r o k ih=>
  intro w
  rw[Sem.run]
  split
  ·exact Nat.le_refl _
  ·exact ih { w with heap:=w.heap.setIfInBounds r o }
  ·exact Nat.le_refl _
 |choose q k ih=>
  intro w
  rw[Sem.run]
  split
  ·exact ih _ _
  ·exact Nat.le_trans (Nat.le_succ _) (ih _ { w with drawn:=w.drawn+1 })
 |sys c k ih=>
  intro w
  rw[Sem.run]
  exact Nat.le_trans (J0 w c) (ih _ _)
 |program k ih=>intro w;rw[Sem.run];exact ih _ _
 |mark m k ih=>intro w;rw[Sem.run];exact ih _
 |halt h=>intro w;exact Nat.le_refl _
theorem gE {α:Type} {p:Program} {s:Sem α} {w w':World} {a:α} (h:s.run p w= .ok a w'):w.drawn<=w'.drawn:=by
 have:=JS p s w
 rw[h] at this;exact this
theorem run_halt {α:Type} {p:Program} {s:Sem α} {w w':World} {a:Halt} (h:s.run p w= .halt a w'):w.drawn<=w'.drawn:=by
 have:=JS p s w
 rw[h] at this;exact this
def GStep.wd:GStep->World
 | .go _ w _=>w
 | .comm _ _ _ _ w _=>w
 | .spawn _ _ w _=>w
 | .count _ w _=>w
 | .timer _ _ w _=>w
 | .alone _ _ w _=>w
 | .newcoro _ _ _ w _=>w
 | .coroswitch _ _ _ w _=>w
 | .collect _ w _=>w
 | .watch _ w _=>w
 | .ended _ w _=>w
theorem mQ (es:Array Event) (s:GStep):GStep.wd (s.after es)=GStep.wd s:=by cases s<;>rfl
theorem BJ {w w':World} {c:Sys} {r:SysRet} (h:w.sys c=(r,w')):w.drawn<=w'.drawn:=by
 have:=J0 w c
 rw[h] at this;exact this
theorem DK (w:World) (fd:Nat) (text:ByteArray) (o:Outcome):w.drawn<=(GStep.wd (endWith w fd text o)).drawn:=by
 unfold endWith
 dsimp only
 split
 ·rename_i h
  split<;>exact BJ h
 ·rename_i h;exact BJ h
 ·rename_i h;exact BJ h
theorem wM (fr:Frame) (m:String) (w:World):GStep.wd (endThrow fr m w)=w:=rfl
theorem CQ (p:Program) (fr:Frame) (v:Value) (w:World):GStep.wd (endPrinting p fr v w)=w:=by
 unfold endPrinting
 dsimp only
 split<;>rfl
theorem B9 (p:Program) (fr:Frame) (callers:List Frame) (dying:Option Dying) (m:String) (w:World):w.drawn<=(GStep.wd (endFatal p fr callers dying m w)).drawn:=by
 unfold endFatal
 dsimp only
 split
 ·rename_i h;exact gE h
 ·rename_i h;exact run_halt h
 ·rename_i h;exact run_halt h
theorem runT_eq {α:Type} {p:Program} {s:Sem α} {w:World} {es es':Array Event} {r:Result α} (h:s.runT p w es=(r,es')):w.drawn<=(Result.wd r).drawn:=by
 have:=AW p s w es
 rw[h] at this;exact this
theorem F5 (p:Program) (fr:Frame) (d:Dying) (f:Fatal) (w:World):w.drawn<=(GStep.wd (writeOn p fr d f w)).drawn:=by
 unfold writeOn
 dsimp only
 split
 ·exact Nat.le_refl _
 ·split
  all_goals (rename_i h;exact runT_eq h)
theorem QR (p:Program) (fr:Frame) (d:Dying) (w:World):w.drawn<=(GStep.wd (die p fr d w)).drawn:=by
 unfold die
 split
 ·exact F5 _ _ _ _ _
 ·split
  ·split
   ·exact Nat.le_refl _
   ·exact DK _ _ _ _
  ·dsimp only
   split
   ·exact Nat.le_refl _
   ·split
    ·rename_i h;exact gE h
    ·rename_i h;exact run_halt h
   ·rw[mQ]
    generalize hr:Sem.runT p _ w #[]=x
    obtain⟨r,es⟩:=x
    have:=runT_eq hr
    dsimp only
    split
    all_goals first
     |exact this
     |(rw[CQ];exact this)
     |exact Nat.le_refl _
   ·exact Nat.le_refl _
theorem LA (p:Program) (fr:Frame) (callers:List Frame) (dying:Option Dying) (g:Nat) (w:World):w.drawn<=(GStep.wd (early p fr callers dying g w)).drawn:=by
 unfold early
 dsimp only
 repeat' split
 all_goals first
  |exact Nat.le_refl _
  |(have:=gE ‹Sem.run _ _ _=Result.ok _ _›;exact this)
  |(have:=run_halt ‹Sem.run _ _ _=Result.halt _ _›;exact this)
theorem nR (p:Program) (main:Bool) (fr:Frame) (callers:List Frame) (dying:Option Dying) (v:Value) (w:World):GStep.wd (doReturn p main fr callers dying v w)=w:=by
 unfold doReturn
 repeat' split
 all_goals rfl
theorem rO (p:Program) (fr:Frame) (callers:List Frame) (dying:Option Dying) (d:Deferred) (w:World):w.drawn<=(GStep.wd (callDeferred p fr callers dying d w)).drawn:=by
 unfold callDeferred
 generalize hr:Sem.runT p _ w #[]=x
 obtain⟨r,es⟩:=x
 have:=runT_eq hr
 dsimp only
 repeat' (first|rw[mQ]|split)
 all_goals first
  |exact this
  |exact Nat.le_refl _
  |exact Nat.le_trans this (B9 _ _ _ _ _ _)
theorem J4 (p:Program) (main:Bool) (fr:Frame) (callers:List Frame) (dying:Option Dying) (w:World):w.drawn<=(GStep.wd (unwind p main fr callers dying w)).drawn:=by
 unfold unwind
 split
 ·generalize hr:Sem.runT p _ w #[]=x
  obtain⟨r,es⟩:=x
  have:=runT_eq hr
  dsimp only
  rw[mQ]
  split<;>exact this
 ·exact rO _ _ _ _ _ _
 ·split
  ·exact Nat.le_refl _
  ·split
   ·exact Nat.le_refl _
   ·split
    ·exact Nat.le_refl _
    ·split
     ·split
      ·exact Nat.le_refl _
      ·split
       ·rename_i h;exact gE h
       ·rename_i h;exact run_halt h
       ·rename_i h;exact run_halt h
     ·split
      ·rw[CQ];exact Nat.le_refl _
      ·exact Nat.le_refl _
  ·split
   ·rw[nR];exact Nat.le_refl _
   ·generalize hr:Sem.runT p _ w #[]=x
    obtain⟨r,es⟩:=x
    have:=runT_eq hr
    dsimp only
    rw[mQ]
    split
    ·rw[nR];exact this
    ·exact this
    ·exact this
theorem qh (p:Program) (fr:Frame) (callers:List Frame) (dying:Option Dying) (s:Sem Next) (w:World) (main:Bool) (listen:Bool):w.drawn<=(GStep.wd (stepG.apply p listen fr callers dying s w)).drawn:=by
 unfold stepG.apply
 have key:∀x:Result Next×Array Event,(if listen=true then s.runT p w #[] else(s.run p w,#[]))=x->w.drawn<=(Result.wd x.1).drawn:=by
  rintro⟨r,es⟩ hx
  split at hx
  ·exact runT_eq hx
  ·cases hx;exact JS p s w
 generalize hr:(if listen=true then s.runT p w #[] else(s.run p w,#[]))=x
 have:=key x hr
 obtain⟨r,es⟩:=x
 dsimp only at this ⊢
 rw[mQ]
 repeat' split
 all_goals first
  |exact this
  |exact Nat.le_trans this (B9 _ _ _ _ _ _)
  |exact Nat.le_trans this (LA _ _ _ _ _ _)
  |(rw[wM];exact this)
theorem PB (p:Program) (fr:Frame) (callers:List Frame) (dying:Option Dying) (w:World) (listen:Bool):w.drawn<=(GStep.wd (stepG.oper p listen fr callers dying w)).drawn:=by
 unfold stepG.oper
 split
 ·exact Nat.le_refl _
 ·split
  ·exact qh _ _ _ _ _ _ true _
  ·exact qh _ _ _ _ _ _ true _
theorem MG {α:Type} {p:Program} {s:Sem α} {w w':World} {a:α} {es:Array Event} (h:(s.runT p w es).1= .ok a w'):w.drawn<=w'.drawn:=by
 have:=AW p s w es
 rw[h] at this;exact this
theorem FG {α:Type} {p:Program} {s:Sem α} {w w':World} {a:Halt} {es:Array Event} (h:(s.runT p w es).1= .halt a w'):w.drawn<=w'.drawn:=by
 have:=AW p s w es
 rw[h] at this;exact this
theorem OJ {α:Type} {n:Nat} {o:Option α} {a:GStep} {f:α->GStep} (h1:n<=(GStep.wd a).drawn) (h2:∀x,n<=(GStep.wd (f x)).drawn):n<=(GStep.wd (o.elim a f)).drawn:=by
 cases o
 ·exact h1
 ·exact h2 _
set_option maxHeartbeats 8000000 in
theorem OL (p:Program) (main:Bool) (fr:Frame) (callers:List Frame) (dying:Option Dying) (w:World) (listen:Bool):w.drawn<=(GStep.wd (stepG.exec p main listen fr callers dying w)).drawn:=by
 unfold stepG.exec
 dsimp only
 split
 all_goals repeat' (first|exact Nat.le_refl _|exact qh _ _ _ _ _ _ true _|exact PB _ _ _ _ _ _|(refine OJ ?_ ?_)|(intro _)|rw[mQ]|split)
 all_goals first
  |exact Nat.le_refl _
  |(have:=gE ‹Sem.run _ _ _=Result.ok _ _›;exact this)
  |(have:=run_halt ‹Sem.run _ _ _=Result.halt _ _›;exact this)
  |(have:=MG ‹(Sem.runT _ _ _ _).fst=Result.ok _ _›;first|exact this|(rw[nR];exact this)|exact Nat.le_trans this (qh _ _ _ _ _ _ true _))
  |(have:=FG ‹(Sem.runT _ _ _ _).fst=Result.halt _ _›;exact this)
theorem MR (p:Program) (main:Bool) (g:Goroutine) (w:World) (listen:Bool):w.drawn<=(GStep.wd (stepG p main g w listen)).drawn:=by
 unfold stepG
 dsimp only
 split
 ·exact QR _ _ _ _
 ·exact OL _ _ _ _ _ _ _
 ·exact J4 _ _ _ _ _ _
def NI (n:Nat):Stepped->Prop
 | .next m=>n<=m.world.drawn
 |_=>True
theorem I7 (p:Program) (gs:Array Goroutine) (rest:Rest) (w:World):NI w.drawn (look p gs rest w):=by
 unfold look
 dsimp only
 repeat' split
 all_goals first
  |trivial
  |(have:=gE ‹Sem.run _ _ _=Result.ok _ _›;exact this)
theorem FZ {rest:Rest} {cases:Array CommCase} {w w':World} (h:waitingAt rest cases w=some w'):w'.drawn=w.drawn:=by
 unfold waitingAt at h
 repeat' split at h
 all_goals (cases h;try rfl)
theorem lh {n k:Nat} {s:Stepped} (h:n<=k) (hs:NI k s):NI n s:=by
 cases s
 case next m=>exact Nat.le_trans h hs
 all_goals trivial
set_option maxHeartbeats 4000000 in
theorem tJ (p:Program) (rest:Rest) (gs:Array Goroutine) (i:Nat) (g:Goroutine) (cases:Array CommCase) (blocking:Bool) (shape:CommShape) (w:World):NI w.drawn (communicate p rest gs i g cases blocking shape w).1:=by
 unfold communicate
 dsimp only
 split
 ·trivial
 ·split
  ·split
   ·split
    ·have:=FZ ‹waitingAt _ _ _=some _›;exact Nat.le_of_eq this.symm
    ·trivial
   ·exact Nat.le_refl _
  ·split
   ·trivial
   ·have h1:=gE ‹Sem.run _ _ _=Result.ok _ _›
    refine lh h1 ?_
    repeat' split
    all_goals first
     |trivial
     |exact Nat.le_refl _
     |(have:=gE ‹Sem.run _ _ _=Result.ok _ _›;exact this)
     |(have:=run_halt ‹Sem.run _ _ _=Result.halt _ _›;exact this)
theorem K9 (w:World) (c:Nat):(drain w c).2.drawn=w.drawn:=by
 unfold drain
 split<;>rfl
theorem yH (m:Machine) (k:Nat) (t:Timer) (a b:Nat):(retime m k t a b).2.world.drawn=m.world.drawn:=by
 unfold retime
 dsimp only
 split
 ·exact K9 _ _
 ·rfl
theorem CL {m m':Machine} {var:Addr} {f:Nat->Timer->Value×Machine} {n:Nat} {v:Value} (hf:∀k t,(f k t).2.world.drawn=n) (h:timerOp.named m var f= .ok (v,m')):m'.world.drawn=n:=by
 unfold timerOp.named at h
 split at h
 ·have:=hf
  rename_i k _
  have h2:=hf k (m.rest.timers.getD k default)
  simp only[Except.ok.injEq] at h
  rw[h] at h2
  exact h2
 ·cases h
theorem JG {m m':Machine} {var:Addr} (h:timerOp.opened m var=some m'):m'.world.drawn=m.world.drawn:=by
 unfold timerOp.opened at h
 repeat' split at h
 all_goals (cases h;try rfl)
theorem M1 {m m':Machine} {op:TimerOp} {v:Value} (h:timerOp m op= .ok (v,m')):m'.world.drawn=m.world.drawn:=by
 unfold timerOp at h
 split at h
 ·split at h
  ·cases h;rfl
  ·split at h
   ·split at h
    ·cases h
    ·cases h;rfl
   ·cases h
 ·exact CL (fun k t=>yH _ _ _ _ _) h
 ·split at h
  ·rename_i ho
   rw[<-JG ho]
   exact CL (fun k t=>yH _ _ _ _ _) h
  ·cases h
 ·cases h;rfl
theorem MJ (p:Program) (m:Machine) (k:Nat):NI m.world.drawn (serve p m k):=by
 unfold serve
 dsimp only
 repeat' split
 all_goals first
  |trivial
  |exact Nat.le_refl _
theorem LW (p:Program) (m:Machine) (i:Nat) (listen:Bool):NI m.world.drawn (Go.runT p m i listen).1:=by
 unfold Go.runT
 dsimp only
 generalize hg:m.gs.swapAt! i _=x
 obtain⟨g,gs⟩:=x
 dsimp only
 have h0:=MR p (i==0) g m.world listen
 generalize hs:stepG p (i==0) g m.world listen=s at h0
 cases s<;>dsimp only[GStep.wd] at h0 ⊢
 case go=>exact h0
 case comm=>exact lh h0 (tJ _ _ _ _ _ _ _ _ _)
 case spawn=>exact h0
 case count=>split<;>first|trivial|exact h0
 case alone=>exact h0
 case collect=>exact lh h0 (I7 _ _ _ _)
 case watch=>exact h0
 case newcoro=>exact h0
 case coroswitch=>
  repeat' split
  all_goals first
   |trivial
   |exact h0
   |(rename_i ht;have:=congrArg GStep.wd ht;rw[wM] at this;dsimp only[GStep.wd] at this;subst this;exact h0)
 case timer=>
  repeat' split
  all_goals first
   |trivial
   |(have:=M1 ‹timerOp _ _=Except.ok _›;exact Nat.le_trans h0 (Nat.le_of_eq this.symm))
   |(rename_i ht;have:=congrArg GStep.wd ht;rw[wM] at this;dsimp only[GStep.wd] at this;subst this;exact h0)
 case ended=>trivial
def P7 (n:Nat):Move->Prop
 | .goroutine m _=>n<=m.world.drawn
 | .machine s _=>NI n s
theorem jP {n k:Nat} {s:Move} (h:n<=k) (hs:P7 k s):P7 n s:=by
 cases s
 case goroutine m i=>exact Nat.le_trans h hs
 case machine m i=>exact lh h hs
theorem vN (p:Program) (m:Machine):P7 m.world.drawn (askOn p m):=by
 have pick:∀(m:Machine) (rs:List Nat),P7 m.world.drawn (match(choose (.sched rs.length)).run p m.world with
  | .halt _ w=> .machine (.ended (.stuck "sched" "") w)
  | .ok k world=>
   if rs.length<=1 then .goroutine { m with world } (rs.getD k 0) else
   match(choose (.extern "sched.slice" 65536)).run p world with
   | .halt _ w=> .machine (.ended (.stuck "sched.slice" "") w)
   | .ok n world=> .goroutine { m with world,rest:={ m.rest with slice:=if n=0 then none else some (rs.getD k 0,n) } } (rs.getD k 0)):=by
  intro m rs
  split
  ·trivial
  ·have h1:=gE ‹Sem.run _ _ _=Result.ok _ _›
   refine jP h1 ?_
   split
   ·exact Nat.le_refl _
   ·split
    ·trivial
    ·have h1:=gE ‹Sem.run _ _ _=Result.ok _ _›;exact h1
 unfold askOn
 dsimp only
 split
 ·trivial
 ·have h1:=gE ‹Sem.run _ _ _=Result.ok _ _›
  refine jP h1 ?_
  split
  ·exact MJ _ { m with world:=_ } _
  ·split
   ·split
    ·exact Nat.le_refl _
    ·split
     ·exact Nat.le_refl _
     ·split<;>trivial
   ·split
    ·exact pick { m with world:=_ } _
    ·split
     ·trivial
     ·have h1:=gE ‹Sem.run _ _ _=Result.ok _ _›
      refine jP h1 ?_
      exact pick { m with world:=_ } _
     ·have h1:=gE ‹Sem.run _ _ _=Result.ok _ _›
      exact h1
     ·have h1:=gE ‹Sem.run _ _ _=Result.ok _ _›
      refine jP h1 ?_
      exact pick (Machine.advanceTo { m with world:=_ } _) _
theorem GQ (p:Program) (m:Machine):P7 m.world.drawn (Go.ask p m):=by
 unfold Go.ask
 split
 ·split
  ·trivial
  ·have h1:=gE ‹Sem.run _ _ _=Result.ok _ _›
   refine jP h1 ?_
   have h2:=I7 p m.gs m.rest ‹World›
   split
   ·rename_i hl
    rw[hl] at h2
    exact jP h2 (vN _ _)
   ·exact h2
  ·have h1:=gE ‹Sem.run _ _ _=Result.ok _ _›
   refine jP h1 ?_
   exact vN p { m with world:=_ }
 ·exact vN _ _
theorem O8 (p:Program) (m:Machine):P7 m.world.drawn (Go.move p m):=by
 unfold Go.move
 split
 ·split
  ·exact Nat.le_refl _
  ·trivial
 ·split
  ·split
   ·exact Nat.le_refl _
   ·exact GQ p { m with rest:=_ }
  ·exact GQ _ _
theorem PO {p:Program} {m m':Machine} (h:step p m= .next m'):m.world.drawn<=m'.world.drawn:=by
 have:NI m.world.drawn (step p m):=by
  unfold step stepT
  have h1:=O8 p m
  split
  ·rename_i hm
   rw[hm] at h1
   exact lh h1 (LW _ _ _ _)
  ·rename_i hm
   rw[hm] at h1
   exact h1
 rw[h] at this
 exact this
theorem JR {p:Program}:∀{n:Nat} {m m':Machine},runN p n m= .next m'->m.world.drawn<=m'.world.drawn
 |0,m,m',h=>by cases h;exact Nat.le_refl _
 |n+1,m,m',h=>by
  rw[runN] at h
  split at h
  ·rename_i h1
   exact Nat.le_trans (PO h1) (JR h)
  ·rename_i h1
   exact(h1 _ h).elim
theorem MU {p:Program} {m m':Machine} (h:Steps p m m'):m.world.drawn<=m'.world.drawn:=by
 obtain⟨n,h⟩:=h
 exact JR h
theorem KW {P:Program} {f:FuncId} {args:Array Value} {w:World} {R:Ending->World->Prop} (h:Calls P f args w R):Calls P f args w fun e w'=>R e w'/\∀v,e= .returned v->w.drawn<=w'.drawn:=by
 intro cs
 obtain⟨e,w',fr,h1,h2,h3,h4⟩:=h cs
 refine⟨e,w',fr,⟨h1,fun v he=> ?_⟩,h2,h3,h4⟩
 subst he
 exact MU h2
end Go.cp
end
