/- Part 4 of the proof. No condition. -/
import Derived.Test.YtllemifiammnnaaGreatG03
import Derived.Test.YtllemifiammnnaaGreatG02
set_option linter.unusedVariables false
set_option linter.unusedSimpArgs false
set_option maxRecDepth 100000
set_option maxHeartbeats 4000000
namespace Go.Proofs.YtllemifiammnnaaGreat
namespace Y
open Go Go.RowKit Go.Sort
abbrev I(x:Int):AV:=.int .i64 x
theorem eqI{a b:Int}(h:a=b):AV.int .i64 a=AV.int .i64 b:=by rw [h]
theorem eqB{a b:Bool}(h:a=b):AV.bool a=AV.bool b:=by rw [h]
abbrev spV(s:W.Sp):AV:=.agg [.int .i64 s.lo,.int .i64 s.hi]
abbrev pcC(p:W.Piece):List AV:=[.int .i64 p.from_,.int .i64 p.grade]
abbrev pcsV(l:List W.Piece):AV:=.lst 2 l.length fun i=>pcC (l.getD i default)
abbrev isV(l:List Int):AV:=.lst 1 l.length fun i=>[.int .i64 (l.getD i 0)]
abbrev sgC(s:W.Seg):List AV:=[.int .i64 s.length,pcsV s.pieces,isV s.next]
abbrev gpC(g:W.Grp):List AV:=[.int .i64 g.id,.int .i64 g.seg,.int .i64 g.offset,.int .i64 g.acc,.int .i64 g.slack]
abbrev sgsV(l:List W.Seg):AV:=.lst 3 l.length fun i=>sgC (l.getD i default)
abbrev gpsV(l:List W.Grp):AV:=.lst 5 l.length fun i=>gpC (l.getD i default)
abbrev trkV(t:W.Trk):AV:=.agg [sgsV t.segs,gpsV t.grps]
def _root_.Go.Proofs.YtllemifiammnnaaGreat.W.gradeCheck(l:List W.Piece)(n:Int):Int:=if W.piecesOk l n then 0 else 11
theorem gradeCheck_no{l:List W.Piece}{n:Int}(h:W.piecesOk l n=false):11=W.gradeCheck l n:=by unfold W.gradeCheck;rw [h];rfl
theorem gradeCheck_yes{l:List W.Piece}{n:Int}(h:W.piecesOk l n=true):0=W.gradeCheck l n:=by unfold W.gradeCheck;rw [h];rfl
def PieceOk(l:List W.Piece)(n:Int)(j:Nat):Prop:=-1048576≤(l.getD j default).grade∧(l.getD j default).grade≤1048576∧(l.getD j default).from_<n∧(0<j→(l.getD (j-1) default).from_<(l.getD j default).from_)
theorem piecesOk_no{l:List W.Piece}{n:Int}{k:Nat}(hk:k<l.length)(h:¬ PieceOk l n k):W.piecesOk l n=false:=by
 unfold W.piecesOk
 rw [Bool.and_eq_false_iff]
 right
 rw [List.all_eq_false]
 exact⟨k,List.mem_range.2 hk,by rw [decide_eq_false (by exact h)];decide⟩
theorem piecesOk_yes{l:List W.Piece}{n:Int}(h0:0<l.length)(h1:l.length≤64)(h2:(l.getD 0 default).from_=0)(h:∀ j,j<l.length→PieceOk l n j):W.piecesOk l n=true:=by
 unfold W.piecesOk
 rw [decide_eq_true ⟨h0,h1,h2⟩,Bool.true_and,List.all_eq_true]
 exact fun j hj=>decide_eq_true (h j (List.mem_range.1 hj))
theorem upto_succ{p:Nat→Prop}{k:Nat}(h:∀ j,j<k→p j)(hk:p k):∀ j,j<k+1→p j:=fun j hj=>by
 rcases Nat.lt_or_ge j k with h1|h1
 ·exact h j h1
 ·obtain rfl:j=k:=by omega
  exact hk
theorem gradeCheck(l:List W.Piece)(n:Int)(hl:l.length≤1000000000)(hn:W.I64 n):Ret Tryz.prog 157 [pcsV l,I n] (·=I (W.gradeCheck l n)):=by
 refine enterO tabOk (N:=59) (gs:=[]) (args:=[_,_]) Tryz.func157 rfl rfl rfl (nLe rfl) (fun E hE=>?_)
 rcases Nat.eq_zero_or_pos l.length with h0|h0
 ·conv=>whnf
  repeat' ((first|refine Br.pt (by omega) ?_|refine Br.ot rfl ?_|refine FinAt.val rfl ?_);conv=>whnf)
  exact eqI (gradeCheck_no (by unfold W.piecesOk;rw [decide_eq_false (by omega)];rfl))
 ·conv=>whnf
  repeat' (first|((first|refine Br.pt (by assumption) ?_|refine Br.pf (by assumption) ?_|refine Br.pf (by omega) ?_|refine Br.ot rfl ?_|refine Ob.mk (by omega) ?_|refine Ix.of 0 rfl ?_|refine FinAt.val rfl ?_);conv=>whnf)|((first|refine Br.d (fun h=>?_) (fun h=>?_)|refine Br.n (fun h=>?_) (fun h=>?_))<;>conv=>whnf))
  ·exact eqI (gradeCheck_no (by unfold W.piecesOk;rw [decide_eq_false (by omega)];rfl))
  ·exact eqI (gradeCheck_no (by unfold W.piecesOk;rw [decide_eq_false (by omega)];rfl))
  ·refine LoopAt.rule tabOk [(0,_),(1,_),(22,_),(23,_)] (fun (k:Nat)=>[(24,.int .i64 k)]) (fun (k:Nat)=>[]) (fun (k:Nat)=>k≤l.length∧∀ j,j<k→PieceOk l n j) (fun (k:Nat)=>l.length-k) 0 (by trivial) ⟨by omega,fun j hj=>by omega⟩ (by trivial) (by trivial) (fun _=>⟨rfl,rfl,rfl,by simp [hE]⟩) (fun k hk=>?_)
   obtain⟨hk,hi⟩:=hk
   by_cases hlt:k<l.length
   ·conv=>whnf
    repeat' (first|((first|refine Ix.of (k-1) (by omega) ?_|refine Br.pt (by assumption) ?_|refine Br.pf (by assumption) ?_|refine Br.pt (by omega) ?_|refine Br.ot rfl ?_|refine Br.of rfl ?_|refine Ob.mk (by omega) ?_|refine Ob.mk (by unfold W.I64 at *;omega) ?_|refine Drw.loose (by kernel_rfl) ?_|refine Ix.nat _ ?_|refine FinAt.val rfl ?_);conv=>whnf)|((refine Br.d (fun h=>?_) (fun h=>?_))<;>conv=>whnf))
    all_goals first|exact eqI (gradeCheck_no (piecesOk_no hlt (by unfold PieceOk;omega)))|exact⟨k+1,⟨by omega,upto_succ hi ⟨by omega,by omega,by omega,by omega⟩⟩,by omega,(by trivial),(by trivial),(by trivial)⟩
   ·conv=>whnf
    repeat' ((first|refine Br.pf (by omega) ?_|refine FinAt.val rfl ?_);conv=>whnf)
    obtain rfl:k=l.length:=by omega
    exact eqI (gradeCheck_yes (piecesOk_yes h0 (by omega) (by omega) hi))
theorem gradeBounds(l:List W.Piece)(x y:Int)(hl:l.length≤1000000000):Ret Tryz.prog 85 [pcsV l,.agg [I x,I y]] (·=.tup [spV (W.bounds l ⟨x,y⟩).1,.bool (W.bounds l ⟨x,y⟩).2]):=by
 refine enterO tabOk (N:=66) (gs:=[]) (args:=[_,_]) Tryz.func85 rfl rfl rfl (nLe rfl) (fun E hE=>?_)
 conv=>whnf
 refine LoopAt.rule tabOk [(0,_),(3,_),(4,_),(6,_),(12,_),(13,_)] (fun (i:Nat×Int×Int×Bool)=>[(14,.int .i64 i.1),(7,.bool i.2.2.2)]) (fun (i:Nat×Int×Int×Bool)=>[.blk [.int .i64 x,.int .i64 y],.blk [.int .i64 0,.int .i64 0],.blk [.int .i64 i.2.1,.int .i64 i.2.2.1]]) (fun (i:Nat×Int×Int×Bool)=>i.1≤l.length∧((⟨i.2.1,i.2.2.1⟩,i.2.2.2):W.Sp×Bool)=W.it (W.boundsStep l ⟨x,y⟩) (⟨0,0⟩,false) i.1) (fun (i:Nat×Int×Int×Bool)=>l.length-i.1) (0,0,0,false) (by trivial) ⟨by omega,rfl⟩ (by trivial) (by trivial) (fun _=>⟨rfl,rfl,rfl,by simp [hE]⟩) (fun i hk=>?_)
 obtain⟨k,lo,hi,fd⟩:=i
 obtain⟨hk,hs⟩:=hk
 dsimp only at hk hs ⊢
 have fin:∀ {st:W.Sp×Bool},st=W.boundsStep l ⟨x,y⟩ k (⟨lo,hi⟩,fd)→st=W.it (W.boundsStep l ⟨x,y⟩) (⟨0,0⟩,false) (k+1):=fun h=>by rw [h,hs];rfl
 by_cases hlt:k<l.length
 ·conv=>whnf
  repeat' (first|((first|refine Ix.of (k+1) (by omega) ?_|refine Br.pt (by assumption) ?_|refine Br.pf (by assumption) ?_|refine Br.pt (by omega) ?_|refine Br.ot rfl ?_|refine Br.of rfl ?_|refine CallS.q (spAt _) rfl ?_|refine CallS.q (spRight _ _) rfl ?_|refine CallX.pu (spAt _) rfl rfl ?_|refine CallX.pu (spHull _ _ _ _) rfl rfl ?_|refine Ob.mk (by omega) ?_|refine Ob.mk (by unfold W.I64 at *;omega) ?_|refine Drw.loose (by kernel_rfl) ?_|refine Ix.nat _ ?_);conv=>whnf)|((first|refine Br.d (fun h=>?_) (fun h=>?_)|refine Br.n (fun h=>?_) (fun h=>?_)|refine Br.mk (fun h=>?_) (fun h=>?_))<;>conv=>whnf))
  all_goals
   refine⟨(k+1,_,_,_),⟨by dsimp only;omega,fin ?_⟩,by dsimp only;omega,(by trivial),(by trivial),(by trivial)⟩
   unfold W.boundsStep
   simp only [W.Sp.right]
   first|(rw [if_pos (by omega)];done)|(rw [if_neg (by omega)];simp_all;done)|skip
 ·conv=>whnf
  repeat' ((first|refine Br.pf (by omega) ?_|refine FinAt.val rfl ?_);conv=>whnf)
  obtain rfl:k=l.length:=by omega
  unfold W.bounds
  rw [← hs]
  rfl
def tmpOf:Operand→List Nat
 |.tmp t=>[t]
 |_=>[]
def useTs(all:List Oper)(o:Oper):List Nat :=
 (match o.guard with
 |none=>[]
 |some (j,_)=>match nth all j with
  |some oj=>match oj.dst with
   |some d=>[d]
   |none=>[]
  |none=>[])++o.op.operands.toList.flatMap tmpOf
def rst(tm:Tm):List Nat→Tm
 |[]=>[]
 |t::l=>match look tm t with
  |some v=>(t,v)::rst tm l
  |none=>rst tm l
structure CallD(P:Program)(f:Nat)(vs:List AV)(own:Ow)(K:AV→Prop):Prop where
 out:∃ r,K r∧∀ N E tm S ids a n,Sim N E tm own S ids a n→∀ Vs,all2 (R S n ids) vs Vs→Calls P f ⟨Vs⟩ n fun e n'=>∃ V S',e=.returned V∧R S' n' ids r V∧Past n n'∧(∀ b,S b→S' b)∧(∀ b,S' b→b<n.heap.size→S b)∧(∀ b,S' b→b<n'.heap.size)
def stepD(T:Tab)(P:Program)(tm:Tm)(own:Ow)(o:Oper)(K:AV→Prop):Prop :=
 match o.op with
 |.call ⟨.value x,⟨args⟩,_⟩=>ev tm x fun
  |.fn f fi ca=>evs tm args fun vs=>bif Nat.ble T.f0 f&&Nat.ble f T.f1 then CallD P f (fi++vs++ca) own K else False
  |_=>False
 |_=>stepQ T P tm own o K
def WD(T:Tab)(P:Program)(N:Nat)(all:List Oper)(own:Ow):List Oper→(Tm→Prop)→Tm→Prop
 |[],K,tm=>K tm
 |o::l,K,tm=>gd all (rst tm (useTs all o)) o (stepD T P (rst tm (useTs all o)) own o fun v=>put N tm o.dst v fun tm=>WD T P N all own l K tm) (put N tm o.dst (.raw undef) fun tm=>WD T P N all own l K tm)
def OneOk(P:Program)(all:List Oper)(own:Ow)(o:Oper)(tmr:Tm)(v:AV):Prop:=∀ N E S ids a n,Sim N E tmr own S ids a n →
 (Region.wanted o (yielded all.toArray a.tmps)=true∧∀ Q,o.wp P a n (fun a' n'=>∃ V S',a'=a.put o.dst V∧R S' n' ids v V∧Past n n'∧(∀ b,S b→S' b)∧(∀ b,S' b→b<n.heap.size→S b)∧(∀ b,S' b→b<n'.heap.size)) Q) ∨
 (Region.wanted o (yielded all.toArray a.tmps)=false∧v=.raw undef)
theorem QY.wp2{P:Program}{o:Oper}{a:Act}{n:World}{u:Value}{S:Nat→Prop}{ids:List Loc}{v:AV}(h:QY P o a n u)(hs:∀ b,S b→b<n.heap.size)(hv:R S n ids v u)(Q:Exit→Act→World→Prop) :
  o.wp P a n (fun a' n'=>∃ V S',a'=a.put o.dst V∧R S' n' ids v V∧Past n n'∧(∀ b,S b→S' b)∧(∀ b,S' b→b<n.heap.size→S b)∧(∀ b,S' b→b<n'.heap.size)) Q :=
 h.wp fun n' hp=>⟨u,S,rfl,hv.kp (.past hp),hp,fun _ h=>h,fun _ h _=>h,fun b hb=>Nat.lt_of_lt_of_le (hs b hb) hp.size⟩
theorem stepD_sound{P:Program}{T:Tab}(hT:TabOk P T){o:Oper}{K:AV→Prop}{tm:Tm}{own:Ow}(h:stepD T P tm own o K):∃ v,K v∧∀ N E S ids a n,Sim N E tm own S ids a n→∀ Q,o.wp P a n (fun a' n'=>∃ V S',a'=a.put o.dst V∧R S' n' ids v V∧Past n n'∧(∀ b,S b→S' b)∧(∀ b,S' b→b<n.heap.size→S b)∧(∀ b,S' b→b<n'.heap.size)) Q:=by
 unfold stepD at h
 split at h
 ·rename_i x args ts ho
  obtain⟨v,h1,h2⟩:=ev_sound h
  split at h1
  ·rename_i f fi ca
   obtain⟨vs,h3,h4⟩:=evs_sound h1
   cases hb:(Nat.ble T.f0 f&&Nat.ble f T.f1) with
   |false=>rw [hb] at h3;exact absurd h3 (by simp)
   |true =>
    rw [hb] at h3
    have h5:CallD P f (fi++vs++ca) own K:=by simpa using h3
    obtain⟨r,h7,h8⟩:=h5.out
    refine⟨r,h7,fun N E S ids a n hs Q=>?_⟩
    obtain⟨va,vb,g1,g2,g3⟩:=(h2 S n ids a hs.sl).fn
    have hcf:=run_callFunc hT hb ⟨va++args.map a.eval++vb⟩ n
    have hcall:=h8 N E tm S ids a n hs _ (((R0L_R g2).app (h4 S n ids a hs.sl)).app (R0L_R g3))
    unfold Oper.wp execOp
    simp only [ho,resolve,g1,Deferred.ofValue]
    show Oper.upon P o a _ Q (Sem.run P (callFunc f (⟨va⟩++(⟨args⟩:Array Operand).map a.eval++⟨vb⟩)) n)
    rw [show (⟨va⟩++(⟨args⟩:Array Operand).map a.eval++⟨vb⟩:Array Value)=⟨va++args.map a.eval++vb⟩ by simp,hcf]
    exact hcall.mono fun e n' ⟨V,S',he,hk⟩=>by subst he;exact⟨V,S',rfl,hk⟩
  ·cases h1
 ·obtain⟨v,h1,h2⟩:=stepQ_sound hT h
  refine⟨v,h1,fun N E S ids a n hs Q=>?_⟩
  obtain⟨V,h3,h4⟩:=h2 N E S ids a n hs
  exact h4.wp2 hs.slt h3 Q
def Tr(G:Oper→Tm→AV→Prop)(N:Nat)(all:List Oper):List Oper→Tm→List AV→Tm→Prop
 |[],tm,vs,tm'=>vs=[]∧tm'=tm
 |o::l,tm,vs,tm'=>∃ v r d,vs=v::r∧o.dst=some d∧d<N∧G o (rst tm (useTs all o)) v∧Tr G N all l ((d,v)::tm) r tm'
theorem WD_tr{P:Program}{T:Tab}(hT:TabOk P T){N:Nat}{all:List Oper}{own:Ow}:∀ {l:List Oper} {K:Tm→Prop} {tm:Tm},(∀ o∈l,o.dst.isSome=true)→WD T P N all own l K tm→∃ vs tm',Tr (OneOk P all own) N all l tm vs tm'∧K tm'
 |[],K,tm,_,h=>⟨[],tm,⟨rfl,rfl⟩,h⟩
 |o::l,K,tm,hd,h=>by
  simp only [WD] at h
  obtain⟨d,hod⟩:=Option.isSome_iff_exists.1 (hd o List.mem_cons_self)
  have key:∀ {v:AV},OneOk P all own o (rst tm (useTs all o)) v→(put N tm o.dst v fun tm=>WD T P N all own l K tm)→∃ vs tm',Tr (OneOk P all own) N all (o::l) tm vs tm'∧K tm':=fun {v} hv hp=>by
   rw [hod] at hp
   simp only [put] at hp
   cases e:Nat.ble (d+1) N with
   |false=>rw [e] at hp;exact absurd hp (by simp)
   |true =>
    rw [e] at hp
    simp only [cond_true,fc_iff] at hp
    obtain⟨vs,tm',h1,h2⟩:=WD_tr hT (fun x hx=>hd x (List.mem_cons_of_mem _ hx)) hp
    exact⟨v::vs,tm',⟨v,vs,d,rfl,hod,nLe e,hv,h1⟩,h2⟩
  rcases gd_sound h with ⟨h1,h2⟩|⟨h1,h2⟩
  ·obtain⟨v,h3,h4⟩:=stepD_sound hT h1
   exact key (fun N E S ids a n hs=>.inl ⟨h2 S n ids a hs.sl,h4 N E S ids a n hs⟩) h3
  ·exact key (fun N E S ids a n hs=>.inr ⟨h2 S n ids a hs.sl,rfl⟩) h1
def rowM(ms:List Nat)(o:Oper):Nat:=o.after.toList.foldr (fun e acc=>bif Region.binds .any e then acc ||| (1 <<< e.on ||| ms.getD e.on 0) else acc) 0
def rowsM:List Oper→List Nat→List Nat
 |[],ms=>ms
 |o::l,ms=>rowsM l (ms++[rowM ms o])
def up2(all:List Oper)(t i:Nat):Bool:=((rowsM all []).getD t 0).testBit i
theorem rowM_bit{ms:List Nat}{i:Nat}:∀ {es:List Edge},(es.foldr (fun e acc=>bif Region.binds .any e then acc ||| (1 <<< e.on ||| ms.getD e.on 0) else acc) 0).testBit i=true→∃ e∈es,Region.binds .any e=true∧(e.on=i∨(ms.getD e.on 0).testBit i=true)
 |[],h=>by simp at h
 |e::es,h=>by
  rw [List.foldr_cons] at h
  cases hb:Region.binds .any e with
  |false =>
   rw [hb,cond_false] at h
   obtain⟨x,h1,h2⟩:=rowM_bit h
   exact⟨x,List.mem_cons_of_mem _ h1,h2⟩
  |true =>
   rw [hb,cond_true,Nat.testBit_or,Nat.testBit_or,Bool.or_eq_true,Bool.or_eq_true] at h
   rcases h with h|h|h
   ·obtain⟨x,h1,h2⟩:=rowM_bit h
    exact⟨x,List.mem_cons_of_mem _ h1,h2⟩
   ·refine⟨e,List.mem_cons_self,hb,.inl ?_⟩
    rw [Nat.testBit_shiftLeft] at h
    simp only [Bool.and_eq_true,decide_eq_true_eq] at h
    obtain⟨h1,h2⟩:=h
    have:i-e.on=0:=by
     by_cases h0:i-e.on=0
     ·exact h0
     ·rw [Nat.testBit_one_eq_true_iff_self_eq_zero] at h2;exact h2
    omega
   ·exact⟨e,List.mem_cons_self,hb,.inr h⟩
theorem rowsM_get{all:List Oper}:∀ {l:List Oper} {ms:List Nat},all.drop ms.length=l→(∀ t,t<ms.length→∃ o,all[t]?=some o∧ms.getD t 0=rowM (ms.take t) o)→∀ t,t<(rowsM l ms).length→∃ o,all[t]?=some o∧(rowsM l ms).getD t 0=rowM ((rowsM l ms).take t) o
 |[],ms,_,h,t,ht=>h t ht
 |o::l,ms,hd,h,t,ht=>by
  refine rowsM_get (all:=all) (l:=l) (ms:=ms++[rowM ms o]) ?_ ?_ t ht
  ·rw [List.length_append,List.length_singleton,← List.drop_drop,hd];rfl
  ·intro t ht
   rw [List.length_append,List.length_singleton] at ht
   rcases Nat.lt_or_ge t ms.length with h1|h1
   ·obtain⟨x,g1,g2⟩:=h t h1
    refine⟨x,g1,?_⟩
    rw [List.take_append_of_le_length (by omega),← g2]
    simp [List.getD,List.getElem?_append_left h1]
   ·obtain rfl:t=ms.length:=by omega
    refine⟨o,?_,?_⟩
    ·have:=congrArg (·[0]?) hd
     simpa using this
    ·rw [List.take_append_of_le_length (Nat.le_refl _),List.take_length]
     simp [List.getD]
theorem up2_go{all:List Oper}:∀ (f t i:Nat),t<f→up2 all t i=true→upB .any all.toArray f t i=true
 |0,_,_,h,_=>by omega
 |f+1,t,i,hlt,h=>by
  unfold up2 at h
  by_cases ht:t<(rowsM all []).length
  ·obtain⟨o,h1,h2⟩:=rowsM_get (all:=all) (l:=all) (ms:=[]) rfl (fun t ht=>by simp at ht) t ht
   rw [h2] at h
   obtain⟨e,g1,g2,g3⟩:=rowM_bit h
   rw [upB,List.getElem?_toArray,h1]
   simp only [Array.any_eq_true',Bool.and_eq_true,Bool.or_eq_true]
   refine⟨e,by simpa using g1,g2,?_⟩
   rcases g3 with g3|g3
   ·exact .inl (by simpa using g3)
   ·refine .inr ?_
    by_cases he:e.on<t
    ·refine up2_go f e.on i (by omega) ?_
     unfold up2
     rw [← g3]
     simp [List.getD,List.getElem?_take,he]
    ·rw [List.getD_eq_getElem?_getD,List.getElem?_eq_none (by simp;omega)] at g3
     simp at g3
  ·rw [List.getD_eq_getElem?_getD,List.getElem?_eq_none (by omega)] at h
   simp at h
theorem rowsM_len:∀ (l:List Oper) (ms:List Nat),(rowsM l ms).length=ms.length+l.length
 |[],ms=>rfl
 |o::l,ms=>by rw [rowsM,rowsM_len];simp;omega
theorem up2_up{all:List Oper}{t i:Nat}(h:up2 all t i=true):upB .any all.toArray all.length t i=true:=by
 refine up2_go _ t i ?_ h
 refine Classical.byContradiction fun hn=>?_
 unfold up2 at h
 rw [List.getD_eq_getElem?_getD,List.getElem?_eq_none (by rw [rowsM_len];simp;omega)] at h
 simp at h
def useB(all:List Oper)(ks:List Nat):Bool :=
 (List.range ks.length).all fun p=>match all[ks.getD p 0]? with
  |some o=>(useTs all o).all fun t=>(List.range all.length).all fun j=>match all[j]? with
   |some oj=>!(oj.dst==some t)||((ks.take p).contains j&&up2 all (ks.getD p 0) j)
   |none=>true
  |none=>false
def backB(all:List Oper)(ks:List Nat):Bool :=
 (List.range ks.length).all fun p=>match all[ks.getD p 0]? with
  |some o=>o.after.all fun e=>!(Region.binds .any e)||(ks.take p).contains e.on
  |none=>true
def distB(all:List Oper)(ks:List Nat):Bool :=
 ks.all fun i=>ks.all fun j=>decide (i=j)||(match all[i]?,all[j]? with
  |some oi,some oj=>oi.dst.isSome && !(oi.dst==oj.dst)
  |_,_=>true)
def upK2(all:List Oper)(ks:List Nat):Bool :=
 (List.range all.length).all fun t=>ks.contains t||ks.all fun i=>up2 all t i
def listedK(m:Nat)(ks:List Nat):Array Bool:=(Array.range m).map fun j=>ks.contains j
def restK(m:Nat)(ks:List Nat):List Nat:=(List.range m).filter fun j=>!ks.contains j
def opsK(all:List Oper)(ks:List Nat):List Oper:=ks.map fun k=>all.getD k default
def nodupB:List Nat→Bool
 |[]=>true
 |k::l=>!l.contains k&&nodupB l
def drawB(all:List Oper)(ks:List Nat):Bool :=
 Region.noSelect all.toArray&&ks.all (fun k=>decide (k<all.length))&&nodupB ks&&(opsK all ks).all (fun o=>o.dst.isSome)&&upK2 all ks&&useB all ks&&backB all ks&&distB all ks&&tailB .any all.toArray (restK all.length ks) (listedK all.length ks)
theorem nodupB_spec:∀ {l:List Nat},nodupB l=true→l.Nodup
 |[],_=>List.nodup_nil
 |k::l,h=>by
  simp only [nodupB,Bool.and_eq_true,Bool.not_eq_eq_eq_not,Bool.not_true] at h
  exact List.nodup_cons.2 ⟨by simpa using h.1,nodupB_spec h.2⟩
theorem rst_look{tm:Tm}:∀ {ts:List Nat} {t:Nat} {v:AV},look (rst tm ts) t=some v→t∈ts∧look tm t=some v
 |[],t,v,h=>by simp [rst,look] at h
 |q::ts,t,v,h=>by
  simp only [rst] at h
  cases e:look tm q with
  |none=>rw [e] at h;obtain⟨h1,h2⟩:=rst_look h;exact⟨List.mem_cons_of_mem _ h1,h2⟩
  |some u =>
   rw [e] at h
   rcases look_cons h with ⟨rfl,rfl⟩|h
   ·exact⟨List.mem_cons_self,e⟩
   ·obtain⟨h1,h2⟩:=rst_look h;exact⟨List.mem_cons_of_mem _ h1,h2⟩
theorem Tr.at_{G:Oper→Tm→AV→Prop}{N:Nat}{all:List Oper}:∀ {l:List Oper} {tm:Tm} {vs:List AV} {tm':Tm},Tr G N all l tm vs tm'→vs.length=l.length∧∀ (i:Nat) (o:Oper),l[i]?=some o→∃ (v:AV) (d:Nat) (tmi:Tm),vs[i]?=some v∧o.dst=some d∧d<N∧G o (rst tmi (useTs all o)) v ∧
  (∀ t u,look tmi t=some u→(∃ (j:Nat) (oj:Oper),j<i∧l[j]?=some oj∧oj.dst=some t∧vs[j]?=some u∧∀ j':Nat,j<j'→j'<i→∀ o':Oper,l[j']?=some o'→o'.dst≠some t)∨(look tm t=some u∧∀ (j:Nat) (oj:Oper),j<i→l[j]?=some oj→oj.dst≠some t))
 |[],tm,vs,tm',⟨h1,h2⟩=>by subst h1;exact⟨rfl,fun i o hi=>by simp at hi⟩
 |o::l,tm,vs,tm',⟨v,r,d,h1,h2,h3,h4,h5⟩=>by
  subst h1
  obtain⟨h6,h7⟩:=h5.at_
  refine⟨by simp [h6],fun i x hi=>?_⟩
  cases i with
  |zero =>
   simp only [List.getElem?_cons_zero,Option.some.injEq] at hi
   subst hi
   exact⟨v,d,tm,rfl,h2,h3,h4,fun t u hu=>.inr ⟨hu,fun j oj hj=>by omega⟩⟩
  |succ i =>
   obtain⟨v',d',tmi,g1,g2,g3,g4,g5⟩:=h7 i x (by simpa using hi)
   refine⟨v',d',tmi,by simpa using g1,g2,g3,g4,fun t u hu=>?_⟩
   rcases g5 t u hu with ⟨j,oj,q1,q2,q3,q4,q5⟩|⟨q1,q2⟩
   ·exact .inl ⟨j+1,oj,by omega,by simpa using q2,q3,by simpa using q4,fun j' hj1 hj2 o' ho'=>by
     obtain⟨k,rfl⟩:∃ k,j'=k+1:=⟨j'-1,by omega⟩
     exact q5 k (by omega) (by omega) o' (by simpa using ho')⟩
   ·rcases look_cons q1 with ⟨rfl,rfl⟩|q1
    ·exact .inl ⟨0,o,by omega,by simp,h2,by simp,fun j' hj1 hj2 o' ho'=>by
      obtain⟨k,rfl⟩:∃ k,j'=k+1:=⟨j'-1,by omega⟩
      exact q2 k o' (by omega) (by simpa using ho')⟩
    ·by_cases e:o.dst=some t
     ·
      rw [h2] at e
      obtain rfl:=Option.some.inj e
      exact .inl ⟨0,o,by omega,by simp,h2,by
       have:look ((d,v)::tm) d=some v:=by simp [look]
       have e2:look ((d,v)::tm) d=some u:=by assumption
       rw [this] at e2;simpa using e2,fun j' hj1 hj2 o' ho'=>by
        obtain⟨k,rfl⟩:∃ k,j'=k+1:=⟨j'-1,by omega⟩
        exact q2 k o' (by omega) (by simpa using ho')⟩
     ·exact .inr ⟨q1,fun j oj hj hoj=>by
       cases j with
       |zero=>simp only [List.getElem?_cons_zero,Option.some.injEq] at hoj;subst hoj;exact e
       |succ j=>exact q2 j oj (by omega) (by simpa using hoj)⟩
theorem Tr.end_{G:Oper→Tm→AV→Prop}{N:Nat}{all:List Oper}:∀ {l:List Oper} {tm:Tm} {vs:List AV} {tm':Tm},Tr G N all l tm vs tm'→∀ t u,look tm' t=some u→(∃ (j:Nat) (oj:Oper),j<l.length∧l[j]?=some oj∧oj.dst=some t∧vs[j]?=some u∧∀ j':Nat,j<j'→∀ o':Oper,l[j']?=some o'→o'.dst≠some t)∨(look tm t=some u∧∀ (j:Nat) (oj:Oper),l[j]?=some oj→oj.dst≠some t)
 |[],tm,vs,tm',⟨h1,h2⟩,t,u,hu=>by subst h2;exact .inr ⟨hu,fun j oj hj=>by simp at hj⟩
 |o::l,tm,vs,tm',⟨v,r,d,h1,h2,h3,h4,h5⟩,t,u,hu=>by
  subst h1
  rcases h5.end_ t u hu with ⟨j,oj,q1,q2,q3,q4,q5⟩|⟨q1,q2⟩
  ·exact .inl ⟨j+1,oj,by simp;omega,by simpa using q2,q3,by simpa using q4,fun j' hj1 o' ho'=>by
    obtain⟨k,rfl⟩:∃ k,j'=k+1:=⟨j'-1,by omega⟩
    exact q5 k (by omega) o' (by simpa using ho')⟩
  ·have hq:∀ j':Nat,0<j'→∀ o':Oper,(o::l)[j']?=some o'→o'.dst≠some t:=fun j' hj1 o' ho'=>by
    obtain⟨k,rfl⟩:∃ k,j'=k+1:=⟨j'-1,by omega⟩
    exact q2 k o' (by simpa using ho')
   by_cases e:d=t
   ·subst e
    have e1:look ((d,v)::tm) d=some v:=by simp [look]
    rw [e1] at q1
    exact .inl ⟨0,o,by simp,by simp,h2,by simpa using q1,hq⟩
   ·rcases look_cons q1 with ⟨e',_⟩|q1
    ·exact absurd e' e
    ·exact .inr ⟨q1,fun j oj hoj=>by
      cases j with
      |zero=>simp only [List.getElem?_cons_zero,Option.some.injEq] at hoj;subst hoj;rw [h2];exact fun e'=>e (Option.some.inj e')
      |succ j=>exact q2 j oj (by simpa using hoj)⟩
theorem useB_spec{all:List Oper}{ks:List Nat}(hu:useB all ks=true){p i:Nat}{o:Oper}(hi:ks[p]?=some i)(ho:all[i]?=some o){t:Nat}(ht:t∈useTs all o){j:Nat}{oj:Oper}(hj:all[j]?=some oj)(hd:oj.dst=some t):j∈ks.take p∧upB .any all.toArray all.length i j=true:=by
 have hg:ks.getD p 0=i:=by simp [List.getD,hi]
 have h1:=List.all_eq_true.1 hu p (List.mem_range.2 (List.getElem?_eq_some_iff.1 hi).1)
 simp only [hg,ho] at h1
 have h2:=List.all_eq_true.1 h1 t ht
 have h3:=List.all_eq_true.1 h2 j (List.mem_range.2 (List.getElem?_eq_some_iff.1 hj).1)
 simp only [hj,hd] at h3
 have h4:(ks.take p).contains j=true∧up2 all i j=true:=by simpa using h3
 exact⟨by simpa using h4.1,up2_up h4.2⟩
theorem distB_spec{all:List Oper}{ks:List Nat}(hu:distB all ks=true){i j:Nat}{oi oj:Oper}(hi:i∈ks)(hj:j∈ks)(hoi:all[i]?=some oi)(hoj:all[j]?=some oj){d:Nat}(h1:oi.dst=some d)(h2:oj.dst=some d):i=j:=by
 have h3:=List.all_eq_true.1 (List.all_eq_true.1 hu i hi) j hj
 simp only [hoi,hoj,h1,h2] at h3
 simpa using h3
theorem backB_spec{all:List Oper}{ks:List Nat}(hu:backB all ks=true){p i:Nat}{o:Oper}(hi:ks[p]?=some i)(ho:all[i]?=some o):∀ e∈o.after,Region.binds .any e=true→e.on∈ks.take p:=by
 have hg:ks.getD p 0=i:=by simp [List.getD,hi]
 have h1:=List.all_eq_true.1 hu p (List.mem_range.2 (List.getElem?_eq_some_iff.1 hi).1)
 simp only [hg,ho] at h1
 intro e he hb
 have h2:=Array.all_eq_true'.1 h1 e he
 simpa [hb] using h2
theorem upK2_wait{all:List Oper}{ks:List Nat}{listed:Array Bool}(hu:upK2 all ks=true)(inv:HInv .any all.toArray listed){i t:Nat}(hi:i∈ks)(hun:listed.getD i false=false)(hr:t∈Region.ready .any all.toArray listed):t∈ks:=by
 obtain⟨_,o,ho,_⟩:=mem_ready.1 hr
 have hlt:t<all.length:=by have:=(Array.getElem?_eq_some_iff.1 ho).1;simpa using this
 have h1:=List.all_eq_true.1 hu t (List.mem_range.2 hlt)
 simp only [Bool.or_eq_true] at h1
 rcases h1 with h1|h1
 ·simpa using h1
 ·have h2:=up_ready inv (up2_up (List.all_eq_true.1 h1 i hi)) hr
  rw [hun] at h2
  cases h2
theorem opsK_get{all:List Oper}{ks:List Nat}(hks:∀ k∈ks,k<all.length){p:Nat}{o:Oper}:(opsK all ks)[p]?=some o↔∃ k,ks[p]?=some k∧all[k]?=some o:=by
 unfold opsK
 rw [List.getElem?_map]
 cases e:ks[p]? with
 |none=>simp
 |some k =>
  have hk:=hks k (List.mem_of_getElem? e)
  simp [List.getD,hk]
structure DInv(N:Nat)(E:En)(all:List Oper)(ks:List Nat)(tm:Tm)(own:Ow)(vs:List AV)(listed:Array Bool)(a:Act)(n:World):Prop where
 hi:HInv .any all.toArray listed
 out:∀ j,¬ j∈ks→listed.getD j false=false
 st:∃ S ids,Sim N E [] own S ids a n∧(∀ t v,look tm t=some v→(∀ (j:Nat) (oj:Oper),j∈ks→all[j]?=some oj→oj.dst≠some t)→∃ V,a.tmps[t]?=some V∧R S n ids v V) ∧
  ∀ (p j:Nat) (oj:Oper) (d:Nat) (v:AV),ks[p]?=some j→listed.getD j false=true→all[j]?=some oj→oj.dst=some d→vs[p]?=some v→∃ V,a.tmps[d]?=some V∧R S n ids v V
theorem Sim.with{N:Nat}{E:En}{tm tm':Tm}{own:Ow}{S:Nat→Prop}{ids:List Loc}{a:Act}{n:World}(h:Sim N E tm own S ids a n)(hs:Sl S n ids tm' a):Sim N E tm' own S ids a n:={ h with sl:=hs }
theorem Sim.nil{N:Nat}{E:En}{tm:Tm}{own:Ow}{S:Nat→Prop}{ids:List Loc}{a:Act}{n:World}(h:Sim N E tm own S ids a n):Sim N E [] own S ids a n:=h.with fun t v hv=>by simp [look] at hv
theorem wpAny_draw{P:Program}{N:Nat}{E:En}{all:List Oper}{ks:List Nat}{tm tm':Tm}{own:Ow}{vs:List AV}{Q:Exit→Act→World→Prop}(hks:∀ k∈ks,k<all.length)(hnd:ks.Nodup)
  (hup:upK2 all ks=true) (huse:useB all ks=true) (hback:backB all ks=true) (hdist:distB all ks=true) (hTr:Tr (OneOk P all own) N all (opsK all ks) tm vs tm')
  (hend:∀ S ids a n,Sim N E tm' own S ids a n→wpAny P .any all.toArray Q (all.length-ks.length) (listedK all.length ks) a n) :
  ∀ (f:Nat) (listed:Array Bool) (a:Act) (n:World),DInv N E all ks tm own vs listed a n→(ks.filter fun j=>!listed.getD j false).length=f→wpAny P .any all.toArray Q (f+(all.length-ks.length)) listed a n
 |0,listed,a,n,hinv,hf=>by
  have hall:∀ j,j∈ks→listed.getD j false=true:=fun j hj=>by
   have:=List.length_eq_zero_iff.1 hf
   rw [List.filter_eq_nil_iff] at this
   simpa using this j hj
  have hl:listed=listedK all.length ks:=by
   apply Array.ext
   ·rw [hinv.hi.size];simp [listedK]
   ·intro j h1 h2
    have e1:listed.getD j false=listed[j]:=by simp [Array.getD,h1]
    have e2:(listedK all.length ks)[j]=ks.contains j:=by simp [listedK]
    rw [e2,← e1]
    by_cases hj:j∈ks
    ·rw [hall j hj];simp [hj]
    ·rw [hinv.out j hj];simp [hj]
  subst hl
  rw [Nat.zero_add]
  obtain⟨S,ids,h1,h2,h3⟩:=hinv.st
  refine hend S ids a n (h1.with fun t v hv=>?_)
  rcases hTr.end_ t v hv with ⟨p,oj,q1,q2,q3,q4,_⟩|⟨q1,q2⟩
  ·obtain⟨k,k1,k2⟩:=(opsK_get hks).1 q2
   exact h3 p k oj t v k1 (hall k (List.mem_of_getElem? k1)) k2 q3 q4
  ·exact h2 t v q1 fun j oj hj hoj=>by
    obtain⟨p,hp,e⟩:=List.getElem_of_mem hj
    exact q2 p oj ((opsK_get hks).2 ⟨j,by simp [hp,e],hoj⟩)
 |f+1,listed,a,n,hinv,hf=>by
  rw [show f+1+(all.length-ks.length)=(f+(all.length-ks.length))+1 by omega]
  obtain⟨i0,hi0,hu0⟩:∃ i,i∈ks∧listed.getD i false=false:=by
   have:(ks.filter fun j=>!listed.getD j false)≠[]:=fun e=>by rw [e] at hf;simp at hf
   obtain⟨i,hi⟩:=List.exists_mem_of_ne_nil _ this
   simp only [List.mem_filter,Bool.not_eq_eq_eq_not,Bool.not_true] at hi
   exact⟨i,hi.1,hi.2⟩
  have hsz:=hinv.hi.size
  have gD:∀ j,j<all.length→listed.getD j true=listed.getD j false:=fun j hj=>by simp [Array.getD,hsz,hj]
  have hready:∀ m,m≤ks.length→(∃ i,i∈ks.take m∧listed.getD i false=false)→∃ i,i∈Region.ready .any all.toArray listed:=by
   intro m
   induction m with
   |zero=>rintro _ ⟨i,hi,_⟩;simp at hi
   |succ m ih =>
    intro hm ⟨i,hi,hui⟩
    by_cases hex:∃ i,i∈ks.take m∧listed.getD i false=false
    ·exact ih (by omega) hex
    ·have him:ks[m]?=some i:=by
      rw [List.take_add_one] at hi
      rcases List.mem_append.1 hi with h|h
      ·exact absurd ⟨i,h,hui⟩ hex
      ·cases e:ks[m]? with
       |none=>rw [e] at h;simp at h
       |some q=>rw [e] at h;simp at h;rw [h]
     have hil:i<all.length:=hks i (List.mem_of_getElem? him)
     refine⟨i,mem_ready.2 ⟨by rw [gD i hil];exact hui,all[i],by simp [hil],fun e he hb=>?_⟩⟩
     have hlt:=backB_spec hback him (List.getElem?_eq_getElem hil) e he hb
     cases hg:listed.getD e.on false with
     |true=>rfl
     |false=>exact absurd ⟨e.on,hlt,hg⟩ hex
  refine⟨fun h0=>?_,fun i hi=>?_⟩
  ·obtain⟨i,hi⟩:=hready ks.length (Nat.le_refl _) ⟨i0,by rw [List.take_length];exact hi0,hu0⟩
   rw [h0] at hi;cases hi
  ·have hih:i∈ks:=upK2_wait hup hinv.hi hi0 hu0 hi
   obtain⟨p,hp,ep⟩:=List.getElem_of_mem hih
   have hip:ks[p]?=some i:=by simp [hp,ep]
   obtain⟨hun,o,ho',hdeps⟩:=mem_ready.1 hi
   have hil:i<all.length:=hks i hih
   have ho:all[i]?=some o:=by simpa using ho'
   have hun':listed.getD i false=false:=by rw [← gD i hil];exact hun
   obtain⟨hvl,hTa⟩:=hTr.at_
   obtain⟨v,d,tmi,g1,g2,g3,g4,g5⟩:=hTa p o ((opsK_get hks).2 ⟨i,hip,ho⟩)
   obtain⟨S,ids,h1,h2,h3⟩:=hinv.st
   have hsim:Sim N E (rst tmi (useTs all o)) own S ids a n:=h1.with fun t u hu=>by
    obtain⟨q1,q2⟩:=rst_look hu
    rcases g5 t u q2 with ⟨q,oj,p1,p2,p3,p4,_⟩|⟨p1,p2⟩
    ·obtain⟨j,k1,k2⟩:=(opsK_get hks).1 p2
     obtain⟨r1,r2⟩:=useB_spec huse hip ho q1 k2 p3
     exact h3 q j oj t u k1 (up_ready hinv.hi r2 hi) k2 p3 p4
    ·refine h2 t u p1 fun j oj hj hoj e=>?_
     obtain⟨r1,r2⟩:=useB_spec huse hip ho q1 hoj e
     obtain⟨q,hq,eq⟩:=List.getElem_of_mem r1
     rw [List.getElem_take] at eq
     have hql:q<p:=by simp at hq;omega
     exact p2 q oj hql ((opsK_get hks).2 ⟨j,by rw [← eq];exact List.getElem?_eq_getElem (by omega),hoj⟩) e
   have hlist:∀ j,(listed.setIfInBounds i true).getD j false=if j=i then true else listed.getD j false:=fun j=>by
    by_cases e:j=i
    ·subst e;simp [Array.getD,hsz,hil]
    ·rw [getD_set_ne false (fun e'=>e e'.symm),if_neg e]
   have hcount:(ks.filter fun j=>!(listed.setIfInBounds i true).getD j false).length=f:=by
    have e1:(ks.filter fun j=>!(listed.setIfInBounds i true).getD j false)=(ks.filter fun j=>!listed.getD j false).erase i:=by
     rw [List.Nodup.erase_eq_filter (hnd.filter _),List.filter_filter]
     refine List.filter_congr fun j _=>?_
     rw [hlist]
     by_cases e:j=i
     ·subst e;simp
     ·simp [e]
    rw [e1,List.length_erase_of_mem (List.mem_filter.2 ⟨hih,by rw [hun'];rfl⟩),hf];rfl
   have hnext:∀ V S' n',R S' n' ids v V→Past n n'→(∀ b,S b→S' b)→(∀ b,S' b→b<n.heap.size→S b)→(∀ b,S' b→b<n'.heap.size)→DInv N E all ks tm own vs (listed.setIfInBounds i true) (a.put (some d) V) n':=fun V S' n' hV hp k1 k2 k3=>by
    have hkp:Kp S S' n n':=⟨hp.size,k1,fun b hb _=>hp.block b hb⟩
    have hget:∀ t,t≠d→(a.put (some d) V).tmps[t]?=a.tmps[t]?:=fun t ht=>by
     simp only [Act.put];rw [Array.getElem?_setIfInBounds_ne (fun e=>ht e.symm)]
    refine⟨hinv.hi.set hi,fun j hj=>by rw [hlist,if_neg ((fun e=>hj (by rw [e];exact hih)))];exact hinv.out j hj,S',ids,?_,fun t u hu hno=>?_,fun q j oj d' u hj hl hoj hd' hu=>?_⟩
    ·have h4:=(h1.grow hp k1 k2 k3)
     exact { h4 with size:=by simp [Act.put,h4.size],defers:=h4.defers,sl:=fun t v hv=>by simp [look] at hv }
    ·obtain⟨U,q1,q2⟩:=h2 t u hu hno
     have hne:t≠d:=fun e=>hno i o hih ho (by rw [g2,e])
     exact⟨U,by rw [hget t hne];exact q1,q2.kp hkp⟩
    ·rw [hlist] at hl
     by_cases e:j=i
     ·subst e
      have hqp:q=p:=(List.getElem?_inj (List.getElem?_eq_some_iff.1 hj).1 hnd).1 (hj.trans hip.symm)
      subst hqp
      obtain rfl:o=oj:=Option.some.inj (ho.symm.trans hoj)
      obtain rfl:d=d':=Option.some.inj (g2.symm.trans hd')
      obtain rfl:v=u:=Option.some.inj (g1.symm.trans hu)
      exact⟨V,by simp [Act.put,h1.size,g3],hV⟩
     ·rw [if_neg e] at hl
      obtain⟨U,q1,q2⟩:=h3 q j oj d' u hj hl hoj hd' hu
      have hne:d'≠d:=fun e'=>e (distB_spec hdist (List.mem_of_getElem? hj) hih hoj ho (by rw [hd',e']) g2)
      exact⟨U,by rw [hget d' hne];exact q1,q2.kp hkp⟩
   unfold wpOp
   simp only [ho']
   rcases g4 N E S ids a n hsim with ⟨w1,w2⟩|⟨w1,w2⟩
   ·rw [if_pos w1]
    refine .inl (Oper.wp_mono (fun a' n' ⟨V,S',e,k0,k1,k2,k3,k4⟩=>?_) (w2 Q))
    subst e
    rw [g2]
    exact wpAny_draw hks hnd hup huse hback hdist hTr hend f _ _ _ (hnext V S' n' k0 k1 k2 k3 k4) hcount
   ·rw [if_neg (by rw [w1];simp)]
    subst w2
    rw [g2]
    exact wpAny_draw hks hnd hup huse hback hdist hTr hend f _ _ _ (hnext undef S n rfl (Below.refl _ _) (fun _ h=>h) (fun _ h _=>h) h1.slt) hcount
theorem restK_map(all:List Oper)(ks:List Nat):(restK all.length ks).map (fun k=>all.toArray[k]?)=(opsK all (restK all.length ks)).map some:=by
 unfold opsK
 rw [List.map_map]
 refine List.map_congr_left fun k hk=>?_
 have:k<all.length:=List.mem_range.1 (List.mem_filter.1 hk).1
 simp [List.getD,this]
theorem filter_two{α:Type}(p:α→Bool)(l:List α):(l.filter fun x=>!p x).length+(l.filter p).length=l.length:=by
 induction l with
 |nil=>rfl
 |cons a t ih =>
  rw [List.filter_cons,List.filter_cons]
  cases p a<;>simp<;>omega
theorem restK_len(m:Nat)(ks:List Nat)(hks:∀ k∈ks,k<m)(hnd:ks.Nodup):(restK m ks).length=m-ks.length:=by
 have h1:(restK m ks).length+((List.range m).filter fun j=>ks.contains j).length=m:=by
  have:=filter_two (fun j=>ks.contains j) (List.range m)
  rw [List.length_range] at this
  unfold restK
  omega
 have h2:((List.range m).filter fun j=>ks.contains j).length=ks.length:=by
  apply List.Perm.length_eq
  rw [List.perm_ext_iff_of_nodup (List.nodup_range.filter _) hnd]
  intro k
  simp only [List.mem_filter,List.mem_range,List.contains_iff_mem]
  exact⟨fun h=>h.2,fun h=>⟨hks k h,h⟩⟩
 omega
theorem Drw.callK{T:Tab}{P:Program}(hT:TabOk P T){N:Nat}{E:En}{id:Nat}{l:List Oper}{K:Exit→Tm→Ow→Prop}{tm:Tm}{own:Ow}(ks:List Nat)(hB:drawB l ks=true)
  (hk:WD T P N l own (opsK l ks) (fun tm=>WO T P N E l (opsK l (restK l.length ks)) (K .normal) tm own) tm):Drw T P N E (.region id ⟨l⟩ true) l K tm own:=by
 refine .sem ⟨fun S ids a n hs Q hQ hpan=>?_⟩
 simp only [drawB,Bool.and_eq_true] at hB
 obtain⟨⟨⟨⟨⟨⟨⟨⟨b1,b2⟩,b2'⟩,b3⟩,b4⟩,b5⟩,b6⟩,b7⟩,b8⟩:=hB
 have hks:∀ k∈ks,k<l.length:=fun k hk=>by simpa using List.all_eq_true.1 b2 k hk
 have hnd:=nodupB_spec b2'
 obtain⟨vs,tm',h1,h2⟩:=WD_tr hT (fun o ho=>List.all_eq_true.1 b3 o ho) hk
 refine wp_region_any hT.mixed ?_
 have hp:Past n { n with drawn:=n.drawn+1 }:=Past.draw n
 have hs':=hs.past hp
 have hf:(ks.filter fun j=>!(Array.replicate l.length false).getD j false).length=ks.length:=by
  rw [List.filter_eq_self.2 (fun j hj=>by simp [Array.getD])]
 have hrl:=restK_len l.length ks hks hnd
 have:=wpAny_draw (P:=P) (N:=N) (E:=E) (all:=l) (ks:=ks) (Q:=Q) hks hnd b4 b5 b6 b7 h1 (fun S ids a n hs=>by
   have:=wpAny_of_tail (P:=P) (md:=.any) (Q:=Q) (ops:=l.toArray) b1 hpan (opsK l (restK l.length ks)) (restK l.length ks) (listedK l.length ks) a n (restK_map l ks) b8 (WO_sound hT h2 (fun a n h=>hQ _ _ _ h) hs)
   have e:(opsK l (restK l.length ks)).length=l.length-ks.length:=by unfold opsK;rw [List.length_map,hrl]
   rw [e] at this
   exact this) ks.length (Array.replicate l.length false) a _ ⟨⟨by simp,fun j oj _ hl=>by simp [Array.getD] at hl⟩,fun j hj=>by simp [Array.getD],S,ids,hs'.nil,fun t v hv _=>hs'.sl t v hv,fun p j oj d v _ hl=>by simp [Array.getD] at hl⟩ hf
 have hle:ks.length≤l.length:=by
  have:=hnd.length_le_of_subset (l₂:=List.range l.length) (fun k hk=>List.mem_range.2 (hks k hk))
  simpa using this
 rw [show ks.length+(l.length-ks.length)=l.length by omega] at this
 simpa using this
theorem Drw.call{T:Tab}{P:Program}(hT:TabOk P T){N:Nat}{E:En}{id:Nat}{l:List Oper}{K:Exit→Tm→Ow→Prop}{tm:Tm}{own:Ow}(h:Nat)(hB:drawB l (List.range h)=true)
  (hk:WD T P N l own (opsK l (List.range h)) (fun tm=>WO T P N E l (opsK l (restK l.length (List.range h))) (K .normal) tm own) tm):Drw T P N E (.region id ⟨l⟩ true) l K tm own:=.callK hT _ hB hk
theorem CallD.pu{P:Program}{f:Nat}{vs:List AV}{own:Ow}{K:AV→Prop}{r:AV}(h:Ret P f vs (·=r))(hp:puL vs=true)(hK:K r):CallD P f vs own K:=by
 refine⟨r,hK,fun N E tm S ids a n hs Vs hV=>?_⟩
 refine(h S n [] Vs (Gs.nil _ _) hs.slt ((PL_iff.1 ((RL_pu hp).1 hV)).imp fun _ _ h=>P1_R h)).mono fun e w' ⟨r',V,gs',bs',S',h1,h2,h3,h4,h5,h5',h5'',h6,h7,h8,h9⟩=>?_
 subst h2
 exact⟨V,S',h1,P1_R h3,Fr.past h9,h6,h7,h8⟩
structure DInvA(N:Nat)(E:En)(all:List Oper)(ks:List Nat)(ia:Nat)(z:List AV)(tm:Tm)(own:Ow)(vs:List AV)(listed:Array Bool)(a:Act)(n:World):Prop where
 hi:HInv .any all.toArray listed
 out:∀ j,¬ j∈ks→listed.getD j false=false
 st:∃ S ids,Sim N E [] (if listed.getD ia false=true then own++[.blk z] else own) S ids a n∧(∀ t v,look tm t=some v→(∀ (j:Nat) (oj:Oper),j∈ks→all[j]?=some oj→oj.dst≠some t)→∃ V,a.tmps[t]?=some V∧R S n ids v V) ∧
  ∀ (p j:Nat) (oj:Oper) (d:Nat) (v:AV),ks[p]?=some j→listed.getD j false=true→all[j]?=some oj→oj.dst=some d→vs[p]?=some v→∃ V,a.tmps[d]?=some V∧R S n ids v V
def isAll(o:Oper):Bool:=match o.op with
 |.alloc _=>true
 |_=>false
def GoA(P:Program)(all:List Oper)(own:Ow)(o:Oper)(tmr:Tm)(v:AV):Prop:=(isAll o=true∧v=.own own.length 0)∨(isAll o=false∧okT own.length tmr=true∧OneOk P all own o tmr v)
def WDA(T:Tab)(P:Program)(N:Nat)(all:List Oper)(own:Ow):List Oper→(Tm→Prop)→Tm→Prop
 |[],K,tm=>K tm
 |o::l,K,tm=>match o.op with
  |.alloc _=>lit own.length fun n=>put N tm o.dst (.own n 0) fun tm=>WDA T P N all own l K tm
  |_=>bif okT own.length (rst tm (useTs all o)) then gd all (rst tm (useTs all o)) o (stepD T P (rst tm (useTs all o)) own o fun v=>put N tm o.dst v fun tm=>WDA T P N all own l K tm) (put N tm o.dst (.raw undef) fun tm=>WDA T P N all own l K tm) else False
theorem WDA_tr{P:Program}{T:Tab}(hT:TabOk P T){N:Nat}{all:List Oper}{own:Ow}:∀ {l:List Oper} {K:Tm→Prop} {tm:Tm},(∀ o∈l,o.dst.isSome=true)→WDA T P N all own l K tm→∃ vs tm',Tr (GoA P all own) N all l tm vs tm'∧K tm'
 |[],K,tm,_,h=>⟨[],tm,⟨rfl,rfl⟩,h⟩
 |o::l,K,tm,hd,h=>by
  simp only [WDA] at h
  obtain⟨d,hod⟩:=Option.isSome_iff_exists.1 (hd o List.mem_cons_self)
  have key:∀ {v:AV},GoA P all own o (rst tm (useTs all o)) v→(put N tm o.dst v fun tm=>WDA T P N all own l K tm)→∃ vs tm',Tr (GoA P all own) N all (o::l) tm vs tm'∧K tm':=fun {v} hv hp=>by
   rw [hod] at hp
   simp only [put] at hp
   cases e:Nat.ble (d+1) N with
   |false=>rw [e] at hp;exact absurd hp (by simp)
   |true =>
    rw [e] at hp
    simp only [cond_true,fc_iff] at hp
    obtain⟨vs,tm',h1,h2⟩:=WDA_tr hT (fun x hx=>hd x (List.mem_cons_of_mem _ hx)) hp
    exact⟨v::vs,tm',⟨v,vs,d,rfl,hod,nLe e,hv,h1⟩,h2⟩
  split at h
  ·rename_i ta ho
   rw [lit_iff] at h
   exact key (.inl ⟨by simp [isAll,ho],rfl⟩) h
  ·rename_i hno
   have hna:isAll o=false:=by
    unfold isAll
    split
    ·rename_i t ht;exact absurd ht (hno t)
    ·rfl
   cases hb:okT own.length (rst tm (useTs all o)) with
   |false=>rw [hb] at h;exact absurd h (by simp)
   |true =>
    rw [hb] at h
    simp only [cond_true] at h
    rcases gd_sound h with ⟨h1,h2⟩|⟨h1,h2⟩
    ·obtain⟨v,h3,h4⟩:=stepD_sound hT h1
     exact key (.inr ⟨hna,hb,fun N E S ids a n hs=>.inl ⟨h2 S n ids a hs.sl,h4 N E S ids a n hs⟩⟩) h3
    ·exact key (.inr ⟨hna,hb,fun N E S ids a n hs=>.inr ⟨h2 S n ids a hs.sl,rfl⟩⟩) h1
theorem Pre.app:∀ (l r:Ow),Pre l (l++r)
 |[],_=>trivial
 |x::l,r=>⟨rfl,Pre.app l r⟩
def allB(T:Tab)(all:List Oper)(ks:List Nat)(ia:Nat):Bool:=match all[ia]? with
 |some oa=>match oa.op with
  |.alloc t=>oa.guard.isNone&&ks.contains ia&&(match look T.zr t with|some _=>true|none=>false)&&ks.all fun j=>match all[j]? with
   |some oj=>!(isAll oj)||decide (j=ia)
   |none=>true
  |_=>false
 |none=>false
def zrAt(T:Tab)(all:List Oper)(ia:Nat):List Value:=match all[ia]? with
 |some oa=>match oa.op with
  |.alloc t=>(look T.zr t).getD []
  |_=>[]
 |none=>[]
abbrev confV(c:W.Conf):AV:=.agg [I c.pulses,I c.circLo,I c.circHi,I c.radBase,I c.radPart,I c.accErr,I c.maxSpeed,I c.maxAccel,I c.antenna,I c.still,I c.stillSpeed,I c.roll,I c.timeout,I c.brake]
abbrev rtC(r:W.Rt):List AV:=[I r.n,I (r.seg.getD 0 0),I (r.seg.getD 1 0),I (r.seg.getD 2 0),I (r.seg.getD 3 0),I (r.seg.getD 4 0),I (r.seg.getD 5 0),I (r.seg.getD 6 0),I (r.seg.getD 7 0),I (r.seg.getD 8 0),I (r.seg.getD 9 0),I (r.seg.getD 10 0),I (r.seg.getD 11 0)]
abbrev rtV(r:W.Rt):AV:=.agg (rtC r)
abbrev rtsV(l:List W.Rt):AV:=.lst 13 l.length fun i=>rtC (l.getD i ⟨0,[]⟩)
abbrev setV(s:W.RSet):AV:=.agg [I s.from_,rtsV s.list]
theorem begin_(a b:Int):Ret Tryz.prog 148 [I a,I b] (·=setV (W.begin_ a b)):=by
 refine enterO tabOk (N:=14) (gs:=[]) (args:=[_,_]) Tryz.func148 rfl rfl rfl (nLe rfl) (fun E hE=>?_)
 conv=>whnf
 repeat' ((first|refine Ob.mk (by omega) ?_|refine Ix.of 0 rfl ?_|refine Pc.lit ?_|refine BsN.mark ?_);conv=>whnf)
 refine FinAt.gen (ars:=[setV (W.begin_ a b)]) [2] ?_ (by repeat (first|exact Als.nil _|refine Als.cons rfl rfl ?_)) rfl
 (repeat' (first|exact Rv.pu rfl|exact RvL.nil|refine RvL.cons ?_ ?_|refine Rv.agg ?_|exact Rv.emp|refine Rv.fn ?_ ?_|(refine Rv.sl (by simp) rfl (by decide) ?_)|(refine Rv.ownP (by simp) rfl ?_)|(refine Rv.gro (by simp) rfl ?_ ?_)))
 intro j hj
 obtain rfl:j=0:=by omega
 exact⟨nLe rfl,RvL.pu rfl⟩
theorem passage(a b c d:Int)(ha:W.I64 a)(hb:W.I64 b)(hc:W.I64 c)(hd:W.I64 d):Ret Tryz.prog 146 [.agg [I a,I b],.agg [I c,I d]] (·=.tup [spV (W.passage ⟨a,b⟩ ⟨c,d⟩).1,.bool (W.passage ⟨a,b⟩ ⟨c,d⟩).2]):=by
 refine enterO tabOk (N:=17) (gs:=[]) (args:=[_,_]) Tryz.func146 rfl rfl rfl (nLe rfl) (fun E hE=>?_)
 conv=>whnf
 repeat' ((first|refine CallS.q (spAdd _ _ _ _ (by first|assumption|omega|(unfold W.I64 at *;omega)) (by first|assumption|omega|(unfold W.I64 at *;omega)) (by first|assumption|omega|(unfold W.I64 at *;omega)) (by first|assumption|omega|(unfold W.I64 at *;omega))) rfl ?_|refine FinAt.val rfl ?_);conv=>whnf)
 rfl
theorem window(c:W.Conf)(g:W.Grp)(h:W.I64 (g.acc+c.antenna))(h2:W.I64 (g.acc+c.antenna+g.slack)):Ret Tryz.prog 188 [confV c,.agg (gpC g)] (·=I (W.window c g)):=by
 refine enterO tabOk (N:=13) (gs:=[]) (args:=[_,_]) Tryz.func188 rfl rfl rfl (nLe rfl) (fun E hE=>?_)
 conv=>whnf
 repeat' ((first|refine Ob.mk (by omega) ?_|refine FinAt.val rfl ?_);conv=>whnf)
 rfl
theorem reach(c:W.Conf)(g:W.Grp)(h:W.I64 (g.acc+c.antenna))(h2:W.I64 (g.acc+c.antenna+c.maxSpeed)):Ret Tryz.prog 83 [confV c,.agg (gpC g)] (·=I (W.Conf.reach c g)):=by
 refine enterO tabOk (N:=13) (gs:=[]) (args:=[_,_]) Tryz.func83 rfl rfl rfl (nLe rfl) (fun E hE=>?_)
 conv=>whnf
 repeat' ((first|refine Ob.mk (by omega) ?_|refine FinAt.val rfl ?_);conv=>whnf)
 rfl
theorem pulse(c:W.Conf)(h1:W.I64 c.circHi)(h2:W.I64 c.pulses):Ret Tryz.prog 169 [confV c] (·=I (W.divQ c.circHi 1 c.pulses true).1):=by
 refine enterO tabOk (N:=14) (gs:=[]) (args:=[_]) Tryz.func169 rfl rfl rfl (nLe rfl) (fun E hE=>?_)
 conv=>whnf
 repeat' ((first|refine CallS.q (rCeil _ _ _ (by first|assumption|omega|(unfold W.I64 at *;omega)) (by first|assumption|omega|(unfold W.I64 at *;omega)) (by first|assumption|omega|(unfold W.I64 at *;omega))) rfl ?_|refine FinAt.val rfl ?_);conv=>whnf)
 rfl
abbrev plV(p:W.Place):AV:=.agg [.bool p.on,I p.group,I p.pos.lo,I p.pos.hi,I p.est,I p.set.from_,rtsV p.set.list]
theorem reset(c:W.Conf)(t:W.Trk)(g:Nat)(x y:Int)(hg:g<t.grps.length)(h1:0≤(t.grps.getD g default).acc∧(t.grps.getD g default).acc≤1048576)(h2:0≤c.antenna∧c.antenna≤1048576)(hx:-16777216≤x∧x≤16777216)(hy:-16777216≤y∧y≤16777216) :
  Ret Tryz.prog 101 [confV c,trkV t,I (g:Int),.agg [I x,I y]] (·=plV (W.resetAt c (t.grps.getD g default) g ⟨x,y⟩)):=by
 refine enterO tabOk (N:=44) (gs:=[]) (args:=[_,_,_,_]) Tryz.func101 rfl rfl rfl (nLe rfl) (fun E hE=>?_)
 conv=>whnf
 repeat' ((first|refine Drw.call tabOk 10 (by kernel_rfl) ?_|refine Ix.of g rfl ?_|refine CallD.pu (begin_ _ _) rfl ?_|refine CallD.pu (spMid _ _ (by first|assumption|omega|(unfold W.I64 at *;omega)) (by first|assumption|omega|(unfold W.I64 at *;omega))) rfl ?_|refine Ob.mk (by omega) ?_|refine Ob.mk (by unfold W.I64 at *;omega) ?_|refine FinAt.val rfl ?_);conv=>whnf)
 rfl
theorem apInt:Ap Tryz.prog 28 3 1:=⟨.int .i64 0,8,by kernel_rfl,by kernel_rfl,rfl,by decide,by decide⟩
theorem getD_range{f:Nat→List AV}{n j:Nat}(h:j<n):([]++(List.range n).map f).getD j []=f j:=by simp [List.getD,h]
theorem clone(f:Nat→List AV)(n:Nat)(h0:0<n)(hn:n≤100000000)(hf:∀ i,i<n→(f i).all nagA=true):Ret Tryz.prog 152 [.lst 1 n f] (·=.lst 1 n f):=by
 refine enterO tabOk (N:=8) (gs:=[]) (args:=[_]) Tryz.func152 rfl rfl rfl (nLe rfl) (fun E hE=>?_)
 conv=>whnf
 repeat' ((first|refine QAt.eqNil (e:=3) rfl rfl rfl h0 (by kernel_rfl) ?_|refine BsN.sem (OpAt.bs0 tabOk rfl rfl rfl ?_)|refine OpAt.appG apInt rfl [] rfl rfl rfl rfl (by simp) (.nil _) (by simp) (Xs.lst h0 hf) h0 (by omega) ?_|refine Br.of rfl ?_);conv=>whnf)
 refine FinAt.gen (ars:=[.lst 1 n f]) [0] ?_ ?_ rfl
 rotate_left
 ·exact(by repeat (first|exact Als.nil _|refine Als.cons rfl rfl ?_))
 refine RvL.cons (show Rv [OB.buf 3 1 ([]++(List.range n).map f)] [0] (.gro 0 (0+n)) (.lst 1 n f) from ?_) RvL.nil
 rw [Nat.zero_add]
 exact Rv.gro (by simp) rfl (by simp) (fun j hj=>PLe.of (getD_range hj))
abbrev pathV(r:W.Rt):AV:=isV r.path
theorem path_len{r:W.Rt}(hs:r.seg.length=12)(h0:1≤r.n)(h1:r.n≤12):r.path.length=r.n.toNat:=by
 unfold W.Rt.path
 rw [List.length_take,hs];omega
theorem path_getD{r:W.Rt}(hs:r.seg.length=12){j:Nat}(hj:j<(min (max r.n 0) 12).toNat):r.path.getD j 0=r.seg.getD j 0:=by
 unfold W.Rt.path
 simp only [List.getD,List.getElem?_take,if_pos hj]
theorem path(r:W.Rt)(hs:r.seg.length=12)(h0:1≤r.n)(h1:r.n≤12):Ret Tryz.prog 107 [rtV r] (·=pathV r):=by
 have hk:r.path.length=(min (max r.n 0) 12).toNat:=by rw [path_len hs h0 h1];omega
 have hb:(min (max r.n 0) 12).toNat≤12:=by omega
 have hb0:0<(min (max r.n 0) 12).toNat:=by omega
 have hg:∀ j,j<(min (max r.n 0) 12).toNat→r.path.getD j 0=r.seg.getD j 0:=fun j hj=>path_getD hs hj
 have e:pathV r=.lst 1 (min (max r.n 0) 12).toNat fun i=>[I (r.path.getD i 0)]:=by show AV.lst 1 r.path.length _=_;rw [hk]
 rw [e]
 refine enterO tabOk (N:=10) (gs:=[]) (args:=[_]) Tryz.func107 rfl rfl rfl (nLe rfl) (fun E hE=>?_)
 conv=>whnf
 repeat' ((first|refine Ob.mk (by simp only [Option.getD_some,Option.getD_none];omega) ?_|refine Ix.tn (by omega) ?_);conv=>whnf)
 refine CallS.call (CallN.ret (ars:=[.lst 1 (min (max r.n 0) 12).toNat fun i=>[I (r.path.getD i 0)]]) [0] (RvL.cons (Rv.sl (by simp) rfl (by simp only [Option.getD_some,Option.getD_none];omega) ?_) RvL.nil) (by repeat (first|exact Als.nil _|refine Als.cons rfl rfl ?_)) (by simp [hE]) (clone _ _ hb0 (by omega) (fun _ _=>rfl)) (fun r' hr=>?_))
 ·intro j hj
  have hj:j<(min (max r.n 0) 12).toNat:=hj
  refine⟨by show 1+(j+1)*1≤13;omega,?_⟩
  rw [hg j hj]
  rcases(show j=0∨j=1∨j=2∨j=3∨j=4∨j=5∨j=6∨j=7∨j=8∨j=9∨j=10∨j=11 by omega) with rfl|rfl|rfl|rfl|rfl|rfl|rfl|rfl|rfl|rfl|rfl|rfl<;>exact RvL.pu rfl
 ·subst hr
  conv=>whnf
  repeat' ((refine FinAt.val rfl ?_);conv=>whnf)
  rfl
def pre(t:W.Trk)(from_:Int)(p:List Int)(k:Nat):Int:=(p.take k).foldl (fun e i=>e+t.len i) (-from_)
theorem pre_zero(t:W.Trk)(f:Int)(p:List Int):pre t f p 0=-f:=rfl
theorem pre_succ{t:W.Trk}{f:Int}{p:List Int}{k:Nat}(h:k<p.length):pre t f p (k+1)=pre t f p k+t.len (p.getD k 0):=by
 unfold pre
 rw [List.take_succ_eq_append_getElem h,List.foldl_append]
 simp [List.getD,h]
theorem pre_all(t:W.Trk)(f:Int)(p:List Int):pre t f p p.length=W.endOf t f p:=by unfold pre W.endOf;rw [List.take_length]
def TLen(t:W.Trk):Prop:=∀ i,i<t.segs.length→1≤(t.segs.getD i default).length∧(t.segs.getD i default).length≤1099511627776
def POk(t:W.Trk)(p:List Int):Prop:=∀ i,i<p.length→0≤p.getD i 0∧p.getD i 0<t.segs.length
theorem len_ok{t:W.Trk}{p:List Int}(ht:TLen t)(hp:POk t p){k:Nat}(h:k<p.length):1≤t.len (p.getD k 0)∧t.len (p.getD k 0)≤1099511627776:=by
 have h1:=hp k h
 exact ht (p.getD k 0).toNat (by omega)
theorem pre_le{t:W.Trk}{f:Int}{p:List Int}(ht:TLen t)(hp:POk t p):∀ k,k≤p.length→-f≤pre t f p k∧pre t f p k≤-f+k*1099511627776
 |0,_=>by rw [pre_zero];omega
 |k+1,h=>by
  have h1:=pre_le (f:=f) ht hp k (by omega)
  have h2:=len_ok ht hp (k:=k) (by omega)
  rw [pre_succ (by omega)]
  omega
structure ROk(t:W.Trk)(r:W.Rt):Prop where
 len:r.seg.length=12
 lo:1≤r.n
 hi:r.n≤12
 p:POk t r.path
theorem end_(t:W.Trk)(s:W.RSet)(r:W.Rt)(ht:TLen t)(hf:0≤s.from_∧s.from_≤1099511627776)(hr:ROk t r):Ret Tryz.prog 154 [setV s,trkV t,rtV r] (·=I (W.RSet.end_ s t r)):=by
 refine enterO tabOk (N:=30) (gs:=[]) (args:=[_,_,_]) Tryz.func154 rfl rfl rfl (nLe rfl) (fun E hE=>?_)
 have hl:=path_len hr.len hr.lo hr.hi
 have hln:r.path.length≤12:=by have:=hr.hi;omega
 conv=>whnf
 repeat' ((first|refine CallS.q (path r hr.len hr.lo hr.hi) rfl ?_|refine Ob.mk (by unfold W.I64 at *;omega) ?_);conv=>whnf)
 refine LoopAt.rule tabOk [(4,_),(6,_),(14,_),(15,_)] (fun (i:Nat×Int)=>[(16,.int .i64 i.1),(7,.int .i64 i.2)]) (fun (i:Nat×Int)=>[.blk [I s.from_,rtsV s.list],.blk [sgsV t.segs,gpsV t.grps],.blk (rtC r)]) (fun (i:Nat×Int)=>i.1≤r.path.length∧i.2=pre t s.from_ r.path i.1) (fun (i:Nat×Int)=>r.path.length-i.1) (0,-s.from_) (by trivial) ⟨by omega,rfl⟩ (by trivial) (by trivial) (fun _=>⟨rfl,rfl,rfl,by simp [hE]⟩) (fun i hk=>?_)
 obtain⟨k,e⟩:=i
 obtain⟨hk,he⟩:=hk
 dsimp only at hk he ⊢
 have hb:=pre_le (f:=s.from_) ht hr.p k hk
 by_cases hlt:k<r.path.length
 ·have h1:=hr.p k hlt
  have h2:=len_ok ht hr.p hlt
  have hn:=pre_succ (t:=t) (f:=s.from_) hlt
  have hlen:t.len (r.path.getD k 0)=(t.segs.getD (r.path.getD k 0).toNat default).length:=rfl
  conv=>whnf
  repeat' ((first|refine Br.pt (by omega) ?_|refine Ob.mk (by omega) ?_|refine Ob.mk (by unfold W.I64 at *;omega) ?_|refine Ix.nat _ ?_|refine Ix.tn (by omega) ?_);conv=>whnf)
  refine⟨(k+1,_),⟨?_,?_⟩,?_,(by trivial),(by trivial),(by trivial)⟩
  ·dsimp only;omega
  ·dsimp only;rw [hn,hlen,he]
  ·dsimp only;omega
 ·conv=>whnf
  repeat' ((first|refine Br.pf (by omega) ?_|refine FinAt.val rfl ?_);conv=>whnf)
  obtain rfl:k=r.path.length:=by omega
  exact eqI (by rw [he,pre_all];rfl)
theorem within(a b c:Int):Ret Tryz.prog 159 [I a,I b,I c] (·=.bool (decide (W.within a b c))):=by
 refine enterO tabOk (N:=15) (gs:=[]) (args:=[_,_,_]) Tryz.func159 rfl rfl rfl (nLe rfl) (fun E hE=>?_)
 conv=>whnf
 repeat' (first|((first|refine Br.pt (by assumption) ?_|refine Br.pf (by assumption) ?_|refine FinAt.val rfl ?_);conv=>whnf)|((refine Br.d (fun h=>?_) (fun h=>?_))<;>conv=>whnf))
 all_goals exact eqB (by first|(rw [decide_eq_decide];unfold W.within;omega)|(symm;rw [decide_eq_false_iff_not];unfold W.within;omega)|(symm;rw [decide_eq_true_iff];unfold W.within;omega))
abbrev confC(c:W.Conf):List AV:=[I c.pulses,I c.circLo,I c.circHi,I c.radBase,I c.radPart,I c.accErr,I c.maxSpeed,I c.maxAccel,I c.antenna,I c.still,I c.stillSpeed,I c.roll,I c.timeout,I c.brake]
structure ConfI(c:W.Conf):Prop where
 pulses:W.I64 c.pulses
 circLo:W.I64 c.circLo
 circHi:W.I64 c.circHi
 radBase:W.I64 c.radBase
 radPart:W.I64 c.radPart
 accErr:W.I64 c.accErr
 maxSpeed:W.I64 c.maxSpeed
 maxAccel:W.I64 c.maxAccel
 antenna:W.I64 c.antenna
 still:W.I64 c.still
 stillSpeed:W.I64 c.stillSpeed
 roll:W.I64 c.roll
 timeout:W.I64 c.timeout
 brake:W.I64 c.brake
def cr(c:W.Conf)(k:Nat):Prop:=match k with
 |0=>W.within c.pulses 1 1024
 |1=>W.within c.circLo 131072 8388608∧W.within c.circHi c.circLo 8388608
 |2=>16*(c.circHi-c.circLo)≤c.circLo
 |3=>W.within c.radBase 0 1048576∧W.within c.radPart 0 65536
 |4=>W.within c.accErr 0 1048576
 |5=>W.within c.maxSpeed 1 16777216∧W.within c.maxAccel 1 1048576
 |6=>c.maxSpeed*c.pulses≤32000*c.circLo
 |7=>W.within c.antenna 0 1048576
 |8=>W.within c.still 1 1000∧W.within c.timeout 1 1000
 |9=>W.within c.stillSpeed (max (W.up c.circHi c.pulses) (3*c.radBase)) 16777216
 |10=>W.within c.roll 0 1073741824
 |_=>W.within c.brake 1 1048576
theorem ceil1{a c:Int}(hc:0<c)(hc2:c≤1024)(ha:0≤a∧a≤8388608):(W.divQ a 1 c true).1=W.up a c:=by
 have h1:(-a)/c=-W.up a c:=by
  refine(Int.ediv_emod_unique (r:=c*W.up a c-a) hc).2 ⟨?_,?_,?_⟩ |>.1
  ·rw [Int.mul_neg];omega
  ·have:=Int.lt_mul_ediv_self_add (x:=a+c-1) hc
   unfold W.up
   omega
  ·have:=Int.mul_ediv_self_le (x:=a+c-1) (k:=c) (by omega)
   unfold W.up
   omega
 have h2:0≤W.up a c:=Int.ediv_nonneg (by omega) (by omega)
 have h3:W.up a c≤8389632:=by
  unfold W.up
  have:=Int.ediv_le_self (a:=a+c-1) c (by omega)
  omega
 unfold W.divQ
 rw [if_neg (by omega)]
 simp only [if_true,Int.mul_one]
 rw [Int.fdiv_eq_ediv_of_nonneg _ (by omega),h1,Int.neg_neg,if_pos (by unfold W.I64;omega)]
theorem rule0(c:W.Conf):Ret Tryz.prog 158 [.ptr (confC c)] (·=.bool (decide (W.within c.pulses 1 1024))):=by
 refine enterO tabOk (N:=5) (gs:=[]) (args:=[_]) Tryz.func158 rfl rfl rfl (nLe rfl) (fun E hE=>?_)
 conv=>whnf
 repeat' ((first|refine CallS.q (within _ _ _) rfl ?_|refine FinAt.val rfl ?_);conv=>whnf)
 rfl
theorem rule1(c:W.Conf):Ret Tryz.prog 160 [.ptr (confC c)] (·=.bool (decide (W.within c.circLo 131072 8388608∧W.within c.circHi c.circLo 8388608))):=by
 refine enterO tabOk (N:=12) (gs:=[]) (args:=[_]) Tryz.func160 rfl rfl rfl (nLe rfl) (fun E hE=>?_)
 conv=>whnf
 repeat' (first|((first|refine Br.pt (by assumption) ?_|refine Br.pf (by assumption) ?_|refine CallS.q (within _ _ _) rfl ?_|refine FinAt.val rfl ?_);conv=>whnf)|((refine Br.d (fun h=>?_) (fun h=>?_))<;>conv=>whnf))
 all_goals exact eqB (by simp_all)
theorem rule2(c:W.Conf)(h:W.within c.circLo 131072 8388608∧W.within c.circHi c.circLo 8388608):Ret Tryz.prog 161 [.ptr (confC c)] (·=.bool (decide (16*(c.circHi-c.circLo)≤c.circLo))):=by
 refine enterO tabOk (N:=11) (gs:=[]) (args:=[_]) Tryz.func161 rfl rfl rfl (nLe rfl) (fun E hE=>?_)
 unfold W.within at h
 conv=>whnf
 repeat' ((first|refine Ob.mk (by unfold W.I64 at *;omega) ?_|refine FinAt.val rfl ?_);conv=>whnf)
 rfl
theorem rule3(c:W.Conf):Ret Tryz.prog 162 [.ptr (confC c)] (·=.bool (decide (W.within c.radBase 0 1048576∧W.within c.radPart 0 65536))):=by
 refine enterO tabOk (N:=10) (gs:=[]) (args:=[_]) Tryz.func162 rfl rfl rfl (nLe rfl) (fun E hE=>?_)
 conv=>whnf
 repeat' (first|((first|refine Br.pt (by assumption) ?_|refine Br.pf (by assumption) ?_|refine CallS.q (within _ _ _) rfl ?_|refine FinAt.val rfl ?_);conv=>whnf)|((refine Br.d (fun h=>?_) (fun h=>?_))<;>conv=>whnf))
 all_goals exact eqB (by simp_all)
theorem rule4(c:W.Conf):Ret Tryz.prog 163 [.ptr (confC c)] (·=.bool (decide (W.within c.accErr 0 1048576))):=by
 refine enterO tabOk (N:=5) (gs:=[]) (args:=[_]) Tryz.func163 rfl rfl rfl (nLe rfl) (fun E hE=>?_)
 conv=>whnf
 repeat' ((first|refine CallS.q (within _ _ _) rfl ?_|refine FinAt.val rfl ?_);conv=>whnf)
 rfl
theorem rule5(c:W.Conf):Ret Tryz.prog 164 [.ptr (confC c)] (·=.bool (decide (W.within c.maxSpeed 1 16777216∧W.within c.maxAccel 1 1048576))):=by
 refine enterO tabOk (N:=10) (gs:=[]) (args:=[_]) Tryz.func164 rfl rfl rfl (nLe rfl) (fun E hE=>?_)
 conv=>whnf
 repeat' (first|((first|refine Br.pt (by assumption) ?_|refine Br.pf (by assumption) ?_|refine CallS.q (within _ _ _) rfl ?_|refine FinAt.val rfl ?_);conv=>whnf)|((refine Br.d (fun h=>?_) (fun h=>?_))<;>conv=>whnf))
 all_goals exact eqB (by simp_all)
theorem rule6(c:W.Conf)(h:W.I64 (c.maxSpeed*c.pulses))(h2:W.within c.circLo 131072 8388608):Ret Tryz.prog 165 [.ptr (confC c)] (·=.bool (decide (c.maxSpeed*c.pulses≤32000*c.circLo))):=by
 refine enterO tabOk (N:=11) (gs:=[]) (args:=[_]) Tryz.func165 rfl rfl rfl (nLe rfl) (fun E hE=>?_)
 unfold W.within at h2
 conv=>whnf
 repeat' ((first|refine Ob.mk (by omega) ?_|refine Ob.mk (by unfold W.I64 at *;omega) ?_|refine FinAt.val rfl ?_);conv=>whnf)
 rfl
theorem rule7(c:W.Conf):Ret Tryz.prog 166 [.ptr (confC c)] (·=.bool (decide (W.within c.antenna 0 1048576))):=by
 refine enterO tabOk (N:=5) (gs:=[]) (args:=[_]) Tryz.func166 rfl rfl rfl (nLe rfl) (fun E hE=>?_)
 conv=>whnf
 repeat' ((first|refine CallS.q (within _ _ _) rfl ?_|refine FinAt.val rfl ?_);conv=>whnf)
 rfl
theorem rule8(c:W.Conf):Ret Tryz.prog 167 [.ptr (confC c)] (·=.bool (decide (W.within c.still 1 1000∧W.within c.timeout 1 1000))):=by
 refine enterO tabOk (N:=10) (gs:=[]) (args:=[_]) Tryz.func167 rfl rfl rfl (nLe rfl) (fun E hE=>?_)
 conv=>whnf
 repeat' (first|((first|refine Br.pt (by assumption) ?_|refine Br.pf (by assumption) ?_|refine CallS.q (within _ _ _) rfl ?_|refine FinAt.val rfl ?_);conv=>whnf)|((refine Br.d (fun h=>?_) (fun h=>?_))<;>conv=>whnf))
 all_goals exact eqB (by simp_all)
theorem rule9(c:W.Conf)(h0:W.within c.pulses 1 1024)(h1:W.within c.circLo 131072 8388608∧W.within c.circHi c.circLo 8388608)(h3:W.within c.radBase 0 1048576):Ret Tryz.prog 168 [.ptr (confC c)] (·=.bool (decide (W.within c.stillSpeed (max (W.up c.circHi c.pulses) (3*c.radBase)) 16777216))):=by
 refine enterO tabOk (N:=11) (gs:=[]) (args:=[_]) Tryz.func168 rfl rfl rfl (nLe rfl) (fun E hE=>?_)
 unfold W.within at h0 h1 h3
 conv=>whnf
 repeat' ((first|refine CallX.pu (within _ _ _) rfl rfl ?_|refine CallX.pu (pulse c (by first|assumption|omega|(unfold W.I64 at *;omega)) (by first|assumption|omega|(unfold W.I64 at *;omega))) rfl rfl ?_|refine Ob.mk (by unfold W.I64 at *;omega) ?_|refine Drw.loose (by kernel_rfl) ?_|refine FinAt.val rfl ?_);conv=>whnf)
 rw [ceil1 (by omega) (by omega) (by omega)]
 rfl
theorem rule10(c:W.Conf):Ret Tryz.prog 170 [.ptr (confC c)] (·=.bool (decide (W.within c.roll 0 1073741824))):=by
 refine enterO tabOk (N:=5) (gs:=[]) (args:=[_]) Tryz.func170 rfl rfl rfl (nLe rfl) (fun E hE=>?_)
 conv=>whnf
 repeat' ((first|refine CallS.q (within _ _ _) rfl ?_|refine FinAt.val rfl ?_);conv=>whnf)
 rfl
theorem rule11(c:W.Conf):Ret Tryz.prog 171 [.ptr (confC c)] (·=.bool (decide (W.within c.brake 1 1048576))):=by
 refine enterO tabOk (N:=5) (gs:=[]) (args:=[_]) Tryz.func171 rfl rfl rfl (nLe rfl) (fun E hE=>?_)
 conv=>whnf
 repeat' ((first|refine CallS.q (within _ _ _) rfl ?_|refine FinAt.val rfl ?_);conv=>whnf)
 rfl
def ruleF:List Nat:=[158,160,161,162,163,164,165,166,167,168,170,171]
abbrev rulesV(c:W.Conf):AV:=.lst 1 12 fun i=>[.fn (ruleF.getD i 0) [] [.ptr (confC c)]]
theorem rules(c:W.Conf):Ret Tryz.prog 122 [confV c] (·=rulesV c):=by
 refine enterO tabOk (N:=16) (gs:=[]) (args:=[_]) Tryz.func122 rfl rfl rfl (nLe rfl) (fun E hE=>?_)
 conv=>whnf
 repeat' ((refine BsN.mark ?_);conv=>whnf)
 refine FinAt.gen (ars:=[rulesV c]) [0,1] ?_ (by repeat (first|exact Als.nil _|refine Als.cons rfl rfl ?_)) rfl
 refine RvL.cons (Rv.sl (by simp) rfl (by decide) ?_) RvL.nil
 intro j hj
 refine⟨by show 0+(j+1)*1≤12;omega,?_⟩
 have key:∀ f:Nat,RvL [OB.blk (confC c),OB.blk (ruleF.map fun f=>AV.fn f [] [.own 0 0])] [0,1] [AV.fn f [] [.own 0 0]] [AV.fn f [] [.ptr (confC c)]]:=fun f =>
  RvL.cons (Rv.fn RvL.nil (RvL.cons (Rv.ownP (by simp) rfl (RvL.pu rfl)) RvL.nil)) RvL.nil
 rcases(show j=0∨j=1∨j=2∨j=3∨j=4∨j=5∨j=6∨j=7∨j=8∨j=9∨j=10∨j=11 by omega) with rfl|rfl|rfl|rfl|rfl|rfl|rfl|rfl|rfl|rfl|rfl|rfl<;>exact key _
theorem wrong_at{c:W.Conf}{k:Nat}(hk:k<12)(h:∀ j,j<k→cr c j)(hn:¬ cr c k):c.wrong=(k:Int)+1:=by
 unfold W.Conf.wrong
 rcases(show k=0∨k=1∨k=2∨k=3∨k=4∨k=5∨k=6∨k=7∨k=8∨k=9∨k=10∨k=11 by omega) with rfl|rfl|rfl|rfl|rfl|rfl|rfl|rfl|rfl|rfl|rfl|rfl
 all_goals
  repeat (first|(rw [if_pos (by exact hn)];rfl)|rw [if_neg (by first|exact not_not_intro (h 0 (by omega))|exact not_not_intro (h 1 (by omega))|exact not_not_intro (h 2 (by omega))|exact not_not_intro (h 3 (by omega))|exact not_not_intro (h 4 (by omega))|exact not_not_intro (h 5 (by omega))|exact not_not_intro (h 6 (by omega))|exact not_not_intro (h 7 (by omega))|exact not_not_intro (h 8 (by omega))|exact not_not_intro (h 9 (by omega))|exact not_not_intro (h 10 (by omega)))])
theorem wrong_none{c:W.Conf}(h:∀ j,j<12→cr c j):c.wrong=0:=by
 unfold W.Conf.wrong
 repeat rw [if_neg (by first|exact not_not_intro (h 0 (by omega))|exact not_not_intro (h 1 (by omega))|exact not_not_intro (h 2 (by omega))|exact not_not_intro (h 3 (by omega))|exact not_not_intro (h 4 (by omega))|exact not_not_intro (h 5 (by omega))|exact not_not_intro (h 6 (by omega))|exact not_not_intro (h 7 (by omega))|exact not_not_intro (h 8 (by omega))|exact not_not_intro (h 9 (by omega))|exact not_not_intro (h 10 (by omega))|exact not_not_intro (h 11 (by omega)))]
theorem prod_i64{a b:Int}(ha:W.within a 1 16777216)(hb:W.within b 1 1024):W.I64 (a*b):=by
 obtain⟨a1,a2⟩:=ha
 obtain⟨b1,b2⟩:=hb
 have h1:a*b≤16777216*1024:=Int.mul_le_mul a2 b2 (by omega) (by omega)
 have h2:0≤a*b:=Int.mul_nonneg (by omega) (by omega)
 unfold W.I64;omega
def confCheck(c:W.Conf):Int:=if c.wrong=0 then 0 else 50
theorem confCheck_c(c:W.Conf)(hI:ConfI c):Ret Tryz.prog 82 [confV c] (·=.tup [I (confCheck c),I c.wrong]):=by
 refine enterO tabOk (N:=20) (gs:=[]) (args:=[_]) Tryz.func82 rfl rfl rfl (nLe rfl) (fun E hE=>?_)
 conv=>whnf
 repeat' ((refine CallS.q (rules c) rfl ?_);conv=>whnf)
 refine LoopAt.rule tabOk [(7,_),(8,_)] (fun (k:Nat)=>[(9,.int .i64 k)]) (fun (k:Nat)=>[.blk (confC c)]) (fun (k:Nat)=>k≤12∧∀ j,j<k→cr c j) (fun (k:Nat)=>12-k) 0 (by trivial) ⟨by omega,fun j hj=>by omega⟩ (by trivial) (by trivial) (fun _=>⟨rfl,rfl,rfl,by simp [hE]⟩) (fun k hk=>?_)
 obtain⟨hk,hi⟩:=hk
 have bad:∀ j:Nat,j<12→j=k→¬ cr c j→AV.tup [I 50,I ((j:Int)+1)]=.tup [I (confCheck c),I c.wrong]:=fun j hj e hn=>by
  subst e
  unfold confCheck
  rw [wrong_at hj hi hn,if_neg (by omega)]
 have nxt:k<12→cr c k→k+1≤12∧∀ j,j<k+1→cr c j:=fun h1 h2=>⟨by omega,upto_succ hi h2⟩
 by_cases hlt:k<12
 ·rcases(show k=0∨k=1∨k=2∨k=3∨k=4∨k=5∨k=6∨k=7∨k=8∨k=9∨k=10∨k=11 by omega) with rfl|rfl|rfl|rfl|rfl|rfl|rfl|rfl|rfl|rfl|rfl|rfl
  all_goals
   conv=>whnf
   repeat' (first|((first|refine Br.pt (by omega) ?_|refine CallS.q (rule0 c) rfl ?_|refine CallS.q (rule1 c) rfl ?_|refine CallS.q (rule2 c (hi 1 (by omega))) rfl ?_|refine CallS.q (rule3 c) rfl ?_|refine CallS.q (rule4 c) rfl ?_|refine CallS.q (rule5 c) rfl ?_|refine CallS.q (rule6 c (prod_i64 (hi 5 (by omega)).1 (hi 0 (by omega))) (hi 1 (by omega)).1) rfl ?_|refine CallS.q (rule7 c) rfl ?_|refine CallS.q (rule8 c) rfl ?_|refine CallS.q (rule9 c (hi 0 (by omega)) (hi 1 (by omega)) (hi 3 (by omega)).1) rfl ?_|refine CallS.q (rule10 c) rfl ?_|refine CallS.q (rule11 c) rfl ?_|refine Ob.mk (by omega) ?_|refine Ob.mk (by unfold W.I64 at *;omega) ?_|refine Ix.of 0 rfl ?_|refine Ix.of 1 rfl ?_|refine Ix.nat _ ?_|refine FinAt.val rfl ?_);conv=>whnf)|((refine Br.n (fun h=>?_) (fun h=>?_))<;>conv=>whnf))
   all_goals first|exact bad _ hlt rfl h|exact⟨_,nxt hlt h,by omega,(by trivial),(by trivial),(by trivial)⟩|skip
 ·obtain rfl:k=12:=by omega
  conv=>whnf
  repeat' ((first|refine Br.nf (by assumption) ?_|refine FinAt.val rfl ?_);conv=>whnf)
  show AV.tup [I 0,I 0]=_
  unfold confCheck
  rw [wrong_none hi,if_pos rfl]
def NextOk(n:Nat)(X:List Int)(j:Nat):Prop:=0≤X.getD j 0∧X.getD j 0<n∧(0<j→X.getD (j-1) 0<X.getD j 0)
theorem segOk_eq(n:Nat)(s:W.Seg):W.segOk n s=true↔((1≤s.length∧s.length≤1099511627776)∧W.piecesOk s.pieces s.length=true∧s.next.length≤2∧∀ j,j<s.next.length→NextOk n s.next j):=by
 unfold W.segOk
 rw [Bool.and_eq_true,Bool.and_eq_true,Bool.and_eq_true,decide_eq_true_iff,decide_eq_true_iff,List.all_eq_true]
 exact⟨fun ⟨⟨⟨h1,h2⟩,h3⟩,h4⟩=>⟨h1,h2,h3,fun j hj=>by have:=of_decide_eq_true (h4 j (List.mem_range.2 hj));exact this⟩,fun ⟨h1,h2,h3,h4⟩=>⟨⟨⟨h1,h2⟩,h3⟩,fun j hj=>decide_eq_true (by exact h4 j (List.mem_range.1 hj))⟩⟩
theorem gradeCheck_ne{l:List W.Piece}{n:Int}:W.gradeCheck l n=0↔W.piecesOk l n=true:=by unfold W.gradeCheck;split<;>simp_all
theorem firstBad_hit{n k:Nat}{p:Nat→Bool}(h:∀ j,j<k→p j=true)(hk:k<n)(hp:p k=false):W.firstBad n p=some k:=by
 unfold W.firstBad
 rw [List.find?_range_eq_some]
 exact⟨by simp [hp],List.mem_range.2 hk,fun j hj=>by simp [h j hj]⟩
theorem firstBad_none{n:Nat}{p:Nat→Bool}(h:∀ j,j<n→p j=true):W.firstBad n p=none:=by
 unfold W.firstBad
 rw [List.find?_range_eq_none]
 exact fun j hj=>by simp [h j hj]
theorem check_many{t:W.Trk}(h:t.segs.length=0∨200<t.segs.length∨400<t.grps.length):t.check=(13,0):=by unfold W.Trk.check;rw [if_pos h]
theorem check_seg{t:W.Trk}{k:Nat}(h:¬ (t.segs.length=0∨200<t.segs.length∨400<t.grps.length))(h1:∀ j,j<k→W.segOk t.segs.length (t.segs.getD j default)=true)(hk:k<t.segs.length)(h2:W.segOk t.segs.length (t.segs.getD k default)=false):t.check=(11,(k:Int)):=by
 unfold W.Trk.check;rw [if_neg h,firstBad_hit h1 hk h2]
theorem check_grp{t:W.Trk}{k:Nat}(h:¬ (t.segs.length=0∨200<t.segs.length∨400<t.grps.length))(h1:∀ j,j<t.segs.length→W.segOk t.segs.length (t.segs.getD j default)=true)(h3:∀ j,j<k→W.grpOk t j (t.grps.getD j default)=true)(hk:k<t.grps.length)(h2:W.grpOk t k (t.grps.getD k default)=false):t.check=(16,(k:Int)):=by
 unfold W.Trk.check;rw [if_neg h,firstBad_none h1,firstBad_hit h3 hk h2]
theorem check_ok{t:W.Trk}(h:¬ (t.segs.length=0∨200<t.segs.length∨400<t.grps.length))(h1:∀ j,j<t.segs.length→W.segOk t.segs.length (t.segs.getD j default)=true)(h3:∀ j,j<t.grps.length→W.grpOk t j (t.grps.getD j default)=true):t.check=(0,0):=by
 unfold W.Trk.check;rw [if_neg h,firstBad_none h1,firstBad_none h3]
def TrkI(t:W.Trk):Prop:=(∀ k,k<t.segs.length→W.I64 (t.segs.getD k default).length∧(t.segs.getD k default).pieces.length≤1000000000∧(t.segs.getD k default).next.length≤1000000000)∧t.segs.length≤1000000000∧t.grps.length≤1000000000
theorem segment(t:W.Trk)(s:W.Seg)(hn:W.I64 s.length)(ht:t.segs.length≤1000000000)(hp:s.pieces.length≤1000000000)(hx:s.next.length≤1000000000) :
  Ret Tryz.prog 120 [trkV t,.agg (sgC s)] (·=.bool (W.segOk t.segs.length s)):=by
 refine enterO tabOk (N:=61) (gs:=[]) (args:=[_,_]) Tryz.func120 rfl rfl rfl (nLe rfl) (fun E hE=>?_)
 have hno:¬ ((1≤s.length∧s.length≤1099511627776)∧W.piecesOk s.pieces s.length=true∧s.next.length≤2∧∀ j,j<s.next.length→NextOk t.segs.length s.next j)→AV.bool false=.bool (W.segOk t.segs.length s):=fun h=>eqB (Bool.eq_false_iff.2 fun h'=>h ((segOk_eq _ _).1 h')).symm
 conv=>whnf
 repeat' (first|((first|refine Br.pt (by assumption) ?_|refine Br.pf (by assumption) ?_|refine Br.nt (by assumption) ?_|refine Br.nf (by assumption) ?_|refine Br.ot rfl ?_|refine CallS.q (gradeCheck _ _ (by omega) (by first|assumption|omega|(unfold W.I64 at *;omega))) rfl ?_|refine FinAt.val rfl ?_);conv=>whnf)|((first|refine Br.d (fun h=>?_) (fun h=>?_)|refine Br.n (fun h=>?_) (fun h=>?_))<;>conv=>whnf))
 ·exact hno (by omega)
 ·exact hno (by omega)
 ·exact hno (fun h'=>by have:=gradeCheck_ne.2 h'.2.1;contradiction)
 ·exact hno (by omega)
 refine LoopAt.rule tabOk [(2,_),(3,_),(30,_),(31,_)] (fun (k:Nat)=>[(32,.int .i64 k)]) (fun (k:Nat)=>[.blk [sgsV t.segs,gpsV t.grps],.blk (sgC s)]) (fun (k:Nat)=>k≤s.next.length∧∀ j,j<k→NextOk t.segs.length s.next j) (fun (k:Nat)=>s.next.length-k) 0 (by trivial) ⟨by omega,fun j hj=>by omega⟩ (by trivial) (by trivial) (fun _=>⟨rfl,rfl,rfl,by simp [hE]⟩) (fun k hk=>?_)
 obtain⟨hk,hi⟩:=hk
 by_cases hlt:k<s.next.length
 ·conv=>whnf
  repeat' (first|((first|refine Ix.of (k-1) (by omega) ?_|refine Br.pt (by assumption) ?_|refine Br.pf (by assumption) ?_|refine Br.pt (by omega) ?_|refine Br.ot rfl ?_|refine Br.of rfl ?_|refine Ob.mk (by omega) ?_|refine Ob.mk (by unfold W.I64 at *;omega) ?_|refine Ix.nat _ ?_|refine FinAt.val rfl ?_);conv=>whnf)|((refine Br.d (fun h=>?_) (fun h=>?_))<;>conv=>whnf))
  all_goals first|exact hno (fun h'=>by have:=h'.2.2.2 k hlt;unfold NextOk at this;omega)|exact⟨k+1,⟨by omega,upto_succ hi ⟨by omega,by omega,by omega⟩⟩,by omega,(by trivial),(by trivial),(by trivial)⟩
 ·conv=>whnf
  repeat' ((first|refine Br.pf (by omega) ?_|refine FinAt.val rfl ?_);conv=>whnf)
  obtain rfl:k=s.next.length:=by omega
  exact eqB ((segOk_eq _ _).2 ⟨by omega,gradeCheck_ne.1 (by assumption),by omega,hi⟩).symm
theorem group(t:W.Trk)(i:Nat)(g:W.Grp)(ht:t.segs.length≤1000000000)(hg:i≤t.grps.length)(hg2:t.grps.length≤1000000000) :
  Ret Tryz.prog 121 [trkV t,I (i:Int),.agg (gpC g)] (·=.bool (W.grpOk t i g)):=by
 refine enterO tabOk (N:=81) (gs:=[]) (args:=[_,_,_]) Tryz.func121 rfl rfl rfl (nLe rfl) (fun E hE=>?_)
 have hs:∀ {b:Bool},(b=true↔((1≤g.id∧g.id≤65535∧(0<i→(t.grps.getD (i-1) default).id<g.id)∧0≤g.seg∧g.seg<t.segs.length)∧(0≤g.offset∧g.offset≤t.len g.seg∧0≤g.acc∧g.acc≤1048576∧0≤g.slack∧g.slack≤16777216)))→AV.bool b=.bool (W.grpOk t i g):=fun {b} h=>eqB (by
  rw [Bool.eq_iff_iff,h];unfold W.grpOk;rw [Bool.and_eq_true,decide_eq_true_iff,decide_eq_true_iff])
 have hl:t.len g.seg=(t.segs.getD g.seg.toNat default).length:=rfl
 rcases Nat.eq_zero_or_pos i with h0|h0
 ·conv=>whnf
  repeat' (first|((first|refine Br.pt (by assumption) ?_|refine Br.pf (by assumption) ?_|refine Br.pf (by omega) ?_|refine Br.ot rfl ?_|refine Br.of rfl ?_|refine Ob.mk (by omega) ?_|refine Drw.loose (by kernel_rfl) ?_|refine Ix.tn (by omega) ?_|refine FinAt.val rfl ?_);conv=>whnf)|((refine Br.d (fun h=>?_) (fun h=>?_))<;>conv=>whnf))
  all_goals refine hs ?_
  all_goals first|(simp only [decide_eq_true_eq];omega)|(simp only [Bool.false_eq_true,false_iff];omega)
 ·conv=>whnf
  repeat' (first|((first|refine Ix.of (i-1) (by omega) ?_|refine Br.pt (by assumption) ?_|refine Br.pf (by assumption) ?_|refine Br.pt (by omega) ?_|refine Br.ot rfl ?_|refine Br.of rfl ?_|refine Ob.mk (by omega) ?_|refine Ob.mk (by unfold W.I64 at *;omega) ?_|refine Drw.loose (by kernel_rfl) ?_|refine Ix.tn (by omega) ?_|refine FinAt.val rfl ?_);conv=>whnf)|((refine Br.d (fun h=>?_) (fun h=>?_))<;>conv=>whnf))
  all_goals refine hs ?_
  all_goals first|(simp only [decide_eq_true_eq];omega)|(simp only [Bool.false_eq_true,false_iff];omega)
theorem trkCheck(t:W.Trk)(hI:TrkI t):Ret Tryz.prog 81 [trkV t] (·=.tup [I t.check.1,I t.check.2]):=by
 refine enterO tabOk (N:=53) (gs:=[]) (args:=[_]) Tryz.func81 rfl rfl rfl (nLe rfl) (fun E hE=>?_)
 have fin:∀ {a b:Int},t.check=(a,b)→AV.tup [I a,I b]=.tup [I t.check.1,I t.check.2]:=fun h=>by rw [h]
 obtain⟨hI1,hI2,hI3⟩:=hI
 conv=>whnf
 repeat' (first|((first|refine Br.pt (by assumption) ?_|refine Br.pf (by assumption) ?_|refine Br.ot rfl ?_|refine FinAt.val rfl ?_);conv=>whnf)|((refine Br.d (fun h=>?_) (fun h=>?_))<;>conv=>whnf))
 ·exact fin (check_many (by omega))
 ·exact fin (check_many (by omega))
 ·exact fin (check_many (by omega))
 have hm:¬ (t.segs.length=0∨200<t.segs.length∨400<t.grps.length):=by omega
 refine LoopAt.rule tabOk [(1,_),(25,_),(26,_)] (fun (k:Nat)=>[(27,.int .i64 k)]) (fun (k:Nat)=>[.blk [sgsV t.segs,gpsV t.grps]]) (fun (k:Nat)=>k≤t.segs.length∧∀ j,j<k→W.segOk t.segs.length (t.segs.getD j default)=true) (fun (k:Nat)=>t.segs.length-k) 0 (by trivial) ⟨by omega,fun j hj=>by omega⟩ (by trivial) (by trivial) (fun _=>⟨rfl,rfl,rfl,by simp [hE]⟩) (fun k hk=>?_)
 obtain⟨hk,hi⟩:=hk
 by_cases hlt:k<t.segs.length
 ·obtain⟨q1,q2,q3⟩:=hI1 k hlt
  conv=>whnf
  repeat' (first|((first|refine Br.pt (by omega) ?_|refine CallS.q (segment t (t.segs.getD k default) (by first|assumption|omega|(unfold W.I64 at *;omega)) hI2 q2 q3) rfl ?_|refine Ob.mk (by omega) ?_|refine Ob.mk (by unfold W.I64 at *;omega) ?_|refine Ix.nat _ ?_|refine FinAt.val rfl ?_);conv=>whnf)|((refine Br.mk (fun h=>?_) (fun h=>?_))<;>conv=>whnf))
  ·exact fin (check_seg hm hi hlt (by simpa using h))
  ·exact⟨k+1,⟨by omega,upto_succ hi (by simpa using h)⟩,by omega,(by trivial),(by trivial),(by trivial)⟩
 obtain rfl:k=t.segs.length:=by omega
 conv=>whnf
 repeat' ((refine Br.pf (by omega) ?_);conv=>whnf)
 refine LoopAt.rule tabOk [(1,_),(39,_),(40,_)] (fun (k:Nat)=>[(41,.int .i64 k)]) (fun (k:Nat)=>[.blk [sgsV t.segs,gpsV t.grps]]) (fun (k:Nat)=>k≤t.grps.length∧∀ j,j<k→W.grpOk t j (t.grps.getD j default)=true) (fun (k:Nat)=>t.grps.length-k) 0 (by trivial) ⟨by omega,fun j hj=>by omega⟩ (by trivial) (by trivial) (fun _=>⟨rfl,rfl,rfl,by simp [hE]⟩) (fun k hk=>?_)
 obtain⟨hk,hi2⟩:=hk
 by_cases hlt:k<t.grps.length
 ·conv=>whnf
  repeat' (first|((first|refine Br.pt (by omega) ?_|refine CallS.q (group t k (t.grps.getD k default) hI2 (by omega) hI3) rfl ?_|refine Ob.mk (by omega) ?_|refine Ob.mk (by unfold W.I64 at *;omega) ?_|refine Ix.nat _ ?_|refine FinAt.val rfl ?_);conv=>whnf)|((refine Br.mk (fun h=>?_) (fun h=>?_))<;>conv=>whnf))
  ·exact fin (check_grp hm hi hi2 hlt (by simpa using h))
  ·exact⟨k+1,⟨by omega,upto_succ hi2 (by simpa using h)⟩,by omega,(by trivial),(by trivial),(by trivial)⟩
 ·obtain rfl:k=t.grps.length:=by omega
  conv=>whnf
  repeat' ((first|refine Br.pf (by omega) ?_|refine FinAt.val rfl ?_);conv=>whnf)
  exact fin (check_ok hm hi hi2)
structure TrkOk(t:W.Trk):Prop where
 n:1≤t.segs.length∧t.segs.length≤200
 g:t.grps.length≤400
 seg:∀ i,i<t.segs.length→W.segOk t.segs.length (t.segs.getD i default)=true
 grp:∀ i,i<t.grps.length→W.grpOk t i (t.grps.getD i default)=true
theorem firstBad_of{n:Nat}{p:Nat→Bool}(h:W.firstBad n p=none):∀ j,j<n→p j=true:=fun j hj=>by
 unfold W.firstBad at h
 rw [List.find?_range_eq_none] at h
 simpa using h j hj
theorem TrkOk.of{t:W.Trk}(h:t.check.1=0):TrkOk t:=by
 unfold W.Trk.check at h
 split at h
 ·cases h
 ·rename_i h1
  split at h
  ·cases h
  ·rename_i h2
   split at h
   ·cases h
   ·rename_i h3
    exact⟨by omega,by omega,firstBad_of h2,firstBad_of h3⟩
theorem TrkOk.check{t:W.Trk}(h:TrkOk t):t.check=(0,0):=check_ok (by have:=h.n;have:=h.g;omega) h.seg h.grp
theorem TrkOk.len{t:W.Trk}(h:TrkOk t):TLen t:=fun i hi=>((segOk_eq _ _).1 (h.seg i hi)).1
structure GrpOk(t:W.Trk)(g:W.Grp):Prop where
 id:1≤g.id∧g.id≤65535
 seg:0≤g.seg∧g.seg<t.segs.length
 offset:0≤g.offset∧g.offset≤t.len g.seg
 acc:0≤g.acc∧g.acc≤1048576
 slack:0≤g.slack∧g.slack≤16777216
theorem TrkOk.gr{t:W.Trk}(h:TrkOk t){i:Nat}(hi:i<t.grps.length):GrpOk t (t.grps.getD i default)∧(0<i→(t.grps.getD (i-1) default).id<(t.grps.getD i default).id):=by
 have:=h.grp i hi
 unfold W.grpOk at this
 rw [Bool.and_eq_true,decide_eq_true_iff,decide_eq_true_iff] at this
 obtain⟨⟨h1,h2,h3,h4,h5⟩,h6,h7,h8,h9,h10,h11⟩:=this
 exact⟨⟨⟨h1,h2⟩,⟨h4,h5⟩,⟨h6,h7⟩,⟨h8,h9⟩,⟨h10,h11⟩⟩,h3⟩
theorem TrkOk.rise{t:W.Trk}(h:TrkOk t):∀ (d i:Nat),i+d+1<t.grps.length→(t.grps.getD i default).id<(t.grps.getD (i+d+1) default).id
 |0,i,hi=>by have:=(h.gr hi).2 (by omega);simpa using this
 |d+1,i,hi=>by
  have h1:=h.rise d i (by omega)
  have h2:=(h.gr (i:=i+(d+1)+1) hi).2 (by omega)
  rw [show i+(d+1)+1-1=i+d+1 by omega] at h2
  omega
theorem TrkOk.lt{t:W.Trk}(h:TrkOk t){i j:Nat}(hij:i<j)(hj:j<t.grps.length):(t.grps.getD i default).id<(t.grps.getD j default).id:=by
 have:=h.rise (j-i-1) i (by omega)
 rwa [show i+(j-i-1)+1=j by omega] at this
def ConfOk(c:W.Conf):Prop:=∀ j,j<12→cr c j
theorem ConfOk.of{c:W.Conf}(h:c.wrong=0):ConfOk c:=by
 intro j hj
 refine Classical.byContradiction fun hn=>?_
 have:∀ m,m≤12→(∀ i,i<m→cr c i)∨∃ k,k<m∧(∀ i,i<k→cr c i)∧¬ cr c k:=by
  intro m
  induction m with
  |zero=>intro _;exact .inl fun i hi=>by omega
  |succ m ih =>
   intro hm
   rcases ih (by omega) with h1|⟨k,h1,h2⟩
   ·by_cases hc:cr c m
    ·exact .inl (upto_succ h1 hc)
    ·exact .inr ⟨m,by omega,h1,hc⟩
   ·exact .inr ⟨k,by omega,h2⟩
 rcases this 12 (Nat.le_refl _) with h1|⟨k,h1,h2,h3⟩
 ·exact hn (h1 j hj)
 ·have:=wrong_at h1 h2 h3
  omega
structure ConfB(c:W.Conf):Prop where
 pulses:1≤c.pulses∧c.pulses≤1024
 circLo:131072≤c.circLo∧c.circLo≤8388608
 circHi:c.circLo≤c.circHi∧c.circHi≤8388608
 part:16*(c.circHi-c.circLo)≤c.circLo
 radBase:0≤c.radBase∧c.radBase≤1048576
 radPart:0≤c.radPart∧c.radPart≤65536
 accErr:0≤c.accErr∧c.accErr≤1048576
 maxSpeed:1≤c.maxSpeed∧c.maxSpeed≤16777216
 maxAccel:1≤c.maxAccel∧c.maxAccel≤1048576
 counts:c.maxSpeed*c.pulses≤32000*c.circLo
 antenna:0≤c.antenna∧c.antenna≤1048576
 still:1≤c.still∧c.still≤1000
 timeout:1≤c.timeout∧c.timeout≤1000
 stillSpeed:max (W.up c.circHi c.pulses) (3*c.radBase)≤c.stillSpeed∧c.stillSpeed≤16777216
 roll:0≤c.roll∧c.roll≤1073741824
 brake:1≤c.brake∧c.brake≤1048576
theorem ConfOk.b{c:W.Conf}(h:ConfOk c):ConfB c :=
 ⟨h 0 (by omega),(h 1 (by omega)).1,(h 1 (by omega)).2,h 2 (by omega),(h 3 (by omega)).1,(h 3 (by omega)).2,h 4 (by omega),(h 5 (by omega)).1,(h 5 (by omega)).2,h 6 (by omega),h 7 (by omega),(h 8 (by omega)).1,(h 8 (by omega)).2,h 9 (by omega),h 10 (by omega),h 11 (by omega)⟩
theorem fits(c:W.Conf)(t:W.Trk)(hc:ConfI c)(hI:TrkI t):Ret Tryz.prog 47 [confV c,trkV t] (·=.tup [I (W.fits c t).1,I (W.fits c t).2]):=by
 refine enterO tabOk (N:=61) (gs:=[]) (args:=[_,_]) Tryz.func47 rfl rfl rfl (nLe rfl) (fun E hE=>?_)
 have fin:∀ {a b:Int},W.fits c t=(a,b)→AV.tup [I a,I b]=.tup [I (W.fits c t).1,I (W.fits c t).2]:=fun h=>by rw [h]
 by_cases hw:c.wrong=0
 ·have hcc:confCheck c=0:=by unfold confCheck;rw [if_pos hw]
  have hb:=(ConfOk.of hw).b
  by_cases ht:t.check.1=0
  ·have hok:=TrkOk.of ht
   have hn:=hok.n
   have hg:=hok.g
   conv=>whnf
   repeat' ((first|refine Br.nf (by assumption) ?_|refine CallS.q (confCheck_c c hc) rfl ?_|refine CallS.q (trkCheck t hI) rfl ?_);conv=>whnf)
   refine LoopAt.rule tabOk [(2,_),(3,_),(30,_),(31,_)] (fun (k:Nat)=>[(32,.int .i64 k)]) (fun (k:Nat)=>[.blk (confC c),.blk [sgsV t.segs,gpsV t.grps]]) (fun (k:Nat)=>k≤t.grps.length∧∀ j,j<k→decide (c.reach (t.grps.getD j default)≤(t.grps.getD j default).offset∧c.reach (t.grps.getD j default)≤t.len (t.grps.getD j default).seg-(t.grps.getD j default).offset)=true) (fun (k:Nat)=>t.grps.length-k) 0 (by trivial) ⟨by omega,fun j hj=>by omega⟩ (by trivial) (by trivial) (fun _=>⟨rfl,rfl,rfl,by simp [hE]⟩) (fun k hk=>?_)
   obtain⟨hk',hi⟩:=hk
   by_cases hlt:k<t.grps.length
   ·obtain⟨gr,_⟩:=hok.gr hlt
    obtain⟨g1,g2,g3,g4,g5⟩:=gr
    have hl:t.len (t.grps.getD k default).seg=(t.segs.getD (t.grps.getD k default).seg.toNat default).length:=rfl
    have hl2:=hok.len (t.grps.getD k default).seg.toNat (by omega)
    have h1:=hb.antenna
    have h2:=hb.maxSpeed
    have hr:c.reach (t.grps.getD k default)=(t.grps.getD k default).acc+c.antenna+c.maxSpeed:=rfl
    have bad:¬ (c.reach (t.grps.getD k default)≤(t.grps.getD k default).offset∧c.reach (t.grps.getD k default)≤t.len (t.grps.getD k default).seg-(t.grps.getD k default).offset)→W.fits c t=(11,(k:Int)):=fun hbad=>by
     unfold W.fits
     rw [if_neg (by omega),if_neg (by omega),firstBad_hit hi hlt (decide_eq_false hbad)]
    conv=>whnf
    repeat' (first|((first|refine Br.pt (by assumption) ?_|refine Br.pf (by assumption) ?_|refine Br.pt (by omega) ?_|refine Br.ot rfl ?_|refine CallS.q (reach c (t.grps.getD k default) (by unfold W.I64;omega) (by unfold W.I64;omega)) rfl ?_|refine Ob.mk (by omega) ?_|refine Ob.mk (by unfold W.I64 at *;omega) ?_|refine Drw.loose (by kernel_rfl) ?_|refine Ix.nat _ ?_|refine Ix.tn (by omega) ?_|refine FinAt.val rfl ?_);conv=>whnf)|((refine Br.d (fun h=>?_) (fun h=>?_))<;>conv=>whnf))
    all_goals first|exact fin (bad (by omega))|exact⟨k+1,⟨by omega,upto_succ hi (decide_eq_true (by omega))⟩,by omega,(by trivial),(by trivial),(by trivial)⟩
   ·obtain rfl:k=t.grps.length:=by omega
    conv=>whnf
    repeat' ((first|refine Br.pf (by omega) ?_|refine FinAt.val rfl ?_);conv=>whnf)
    exact fin (by unfold W.fits;rw [if_neg (by omega),if_neg (by omega),firstBad_none hi])
  ·conv=>whnf
   repeat' ((first|refine Br.nt (by assumption) ?_|refine Br.nf (by assumption) ?_|refine CallS.q (confCheck_c c hc) rfl ?_|refine CallS.q (trkCheck t hI) rfl ?_|refine FinAt.val rfl ?_);conv=>whnf)
   exact fin (by unfold W.fits;rw [if_neg (by omega),if_pos (by omega)])
 ·have hcc:confCheck c=50:=by unfold confCheck;rw [if_neg hw]
  conv=>whnf
  repeat' ((first|refine Br.nt (by omega) ?_|refine CallS.q (confCheck_c c hc) rfl ?_|refine FinAt.val rfl ?_);conv=>whnf)
  rw [hcc]
  exact fin (by unfold W.fits;rw [if_pos (by omega)])
theorem pieces_len{l:List W.Piece}{n:Int}(h:W.piecesOk l n=true):1≤l.length∧l.length≤64:=by
 unfold W.piecesOk at h
 rw [Bool.and_eq_true,decide_eq_true_iff] at h
 omega
theorem trkGrades(t:W.Trk)(ht:TrkOk t):Ret Tryz.prog 48 [trkV t] (·=spV t.grades):=by
 refine enterO tabOk (N:=38) (gs:=[]) (args:=[_]) Tryz.func48 rfl rfl rfl (nLe rfl) (fun E hE=>?_)
 have hn:=ht.n
 have hp:∀ i,i<t.segs.length→1≤(t.segs.getD i default).pieces.length∧(t.segs.getD i default).pieces.length≤64:=fun i hi=>pieces_len ((segOk_eq _ _).1 (ht.seg i hi)).2.1
 have hp0:=hp 0 (by omega)
 conv=>whnf
 repeat' ((first|refine CallS.q (spAt _) rfl ?_|refine Ob.mk (by omega) ?_|refine Ix.of 0 rfl ?_);conv=>whnf)
 refine LoopAt.rule tabOk [(2,_),(3,_),(18,_),(19,_)] (fun (i:Nat×W.Sp)=>[(20,.int .i64 i.1)]) (fun (i:Nat×W.Sp)=>[.blk [sgsV t.segs,gpsV t.grps],.blk [I 0,I 0],.blk [I i.2.lo,I i.2.hi]]) (fun (i:Nat×W.Sp)=>i.1≤t.segs.length∧i.2=W.it t.gradesStep ⟨((t.segs.getD 0 default).pieces.getD 0 default).grade,((t.segs.getD 0 default).pieces.getD 0 default).grade⟩ i.1) (fun (i:Nat×W.Sp)=>t.segs.length-i.1) (0,⟨((t.segs.getD 0 default).pieces.getD 0 default).grade,((t.segs.getD 0 default).pieces.getD 0 default).grade⟩) (by trivial) ⟨by omega,rfl⟩ (by trivial) (by trivial) (fun _=>⟨rfl,rfl,rfl,by simp [hE]⟩) (fun i hk=>?_)
 obtain⟨k,g⟩:=i
 obtain⟨hk,he⟩:=hk
 dsimp only at hk he ⊢
 by_cases hlt:k<t.segs.length
 ·have hpk:=hp k hlt
  conv=>whnf
  repeat' ((first|refine Br.pt (by omega) ?_|refine CallS.q (gradeBounds _ _ _ (by omega)) rfl ?_|refine CallS.q (spHull _ _ _ _) rfl ?_|refine Ob.mk (by omega) ?_|refine Ob.mk (by unfold W.I64 at *;omega) ?_|refine Ix.nat _ ?_);conv=>whnf)
  refine⟨(k+1,_),⟨?_,?_⟩,?_,(by trivial),(by trivial),(by trivial)⟩
  ·dsimp only;omega
  ·dsimp only
   rw [W.it,← he]
   rfl
  ·dsimp only;omega
 ·conv=>whnf
  repeat' ((first|refine Br.pf (by omega) ?_|refine FinAt.val rfl ?_);conv=>whnf)
  obtain rfl:k=t.segs.length:=by omega
  show spV g=_
  rw [he]
  rfl
theorem QAt.half{P:Program}{o:Oper}{tm:Tm}{own:Ow}{K:AV→Prop}{t t':TypeId}{x y:Operand}{p:Int}(ho:o.op=.binOp .shr t x y t')(hx:ev tm x fun v=>v=.int .u64 (IntKind.u64.wrap p))(hy:ev tm y fun v=>v=.int .u64 1)(hp:0≤p∧p<9223372036854775808)(hK:K (.int .u64 (p/2))):QAt P o tm own K:=by
 have hw:IntKind.u64.wrap p=p:=by
  simp only [IntKind.wrap,IntKind.bits,IntKind.signed]
  simp
  omega
 rw [hw] at hx
 refine QAt.bin ho hx hy rfl rfl (r:=.int .u64 (p/2)) rfl (fun w=>?_) hK
 simp only [val]
 rw [Sem.run_bind,guard_int]
 have e:min (1:Int).toNat IntKind.u64.bits=1:=rfl
 have e2:p.fdiv (2 ^ 1)=p/2:=by rw [Int.fdiv_eq_ediv_of_nonneg _ (by omega)];rfl
 simp [Go.binOp,Op.shift,e]
 rw [← e2];rfl
theorem isNaN(a:Int):Ret Tryz.prog 186 [I a] (·=.bool false):=by
 refine enterO tabOk (N:=6) (gs:=[]) (args:=[_]) Tryz.func186 rfl rfl rfl (nLe rfl) (fun E hE=>?_)
 conv=>whnf
 repeat' ((refine FinAt.val rfl ?_);conv=>whnf)
 exact eqB (by simp)
theorem compare(a b:Int):Ret Tryz.prog 145 [I a,I b] (·=I (W.cmpI a b)):=by
 refine enterO tabOk (N:=20) (gs:=[]) (args:=[_,_]) Tryz.func145 rfl rfl rfl (nLe rfl) (fun E hE=>?_)
 unfold W.cmpI
 conv=>whnf
 repeat' (first|((first|refine Br.of rfl ?_|refine CallS.q (isNaN _) rfl ?_|refine FinAt.val rfl ?_);conv=>whnf)|((refine Br.d (fun h=>?_) (fun h=>?_))<;>conv=>whnf))
 all_goals exact eqI (by omega)
theorem findF(g:W.Grp)(b:Int):Ret Tryz.prog 144 [.agg (gpC g),I b] (·=I (W.cmpI g.id b)):=by
 refine enterO tabOk (N:=9) (gs:=[]) (args:=[_,_]) Tryz.func144 rfl rfl rfl (nLe rfl) (fun E hE=>?_)
 conv=>whnf
 repeat' ((first|refine CallS.q (compare _ _) rfl ?_|refine FinAt.val rfl ?_);conv=>whnf)
 rfl
def FindIs(t:W.Trk)(id:Int)(r:AV):Prop:=∃ (i:Nat) (b:Bool),r=.tup [I (i:Int),.bool b]∧i≤t.grps.length∧match t.find id with
 |some k=>b=true∧i=k
 |none=>b=false
theorem find_some{t:W.Trk}(ht:TrkOk t){id:Int}{k:Nat}(hk:k<t.grps.length)(he:(t.grps.getD k default).id=id):t.find id=some k:=by
 unfold W.Trk.find
 rw [List.find?_range_eq_some]
 refine⟨by rw [he];simp,List.mem_range.2 hk,fun j hj=>?_⟩
 have:=ht.lt hj hk
 simp only [Bool.not_eq_eq_eq_not,Bool.not_true,beq_eq_false_iff_ne]
 omega
theorem find_none{t:W.Trk}{id:Int}(h:∀ k,k<t.grps.length→(t.grps.getD k default).id≠id):t.find id=none:=by
 unfold W.Trk.find
 rw [List.find?_range_eq_none]
 exact fun j hj=>by simpa using h j hj
theorem cmpI_lt(a b:Int):W.cmpI a b<0↔a<b:=by unfold W.cmpI;split<;>(try split)<;>omega
theorem cmpI_eq(a b:Int):W.cmpI a b=0↔a=b:=by unfold W.cmpI;split<;>(try split)<;>omega
theorem bsearch(t:W.Trk)(ht:TrkOk t)(id:Int):Ret Tryz.prog 143 [gpsV t.grps,I id,.fn 144 [] []] (FindIs t id):=by
 refine enterO tabOk (N:=49) (gs:=[]) (args:=[_,_,_]) Tryz.func143 rfl rfl rfl (nLe rfl) (fun E hE=>?_)
 have hg:=ht.g
 conv=>whnf
 refine LoopAt.rule tabOk [(0,_),(1,_),(2,_),(6,_),(7,_),(8,_)] (fun (i:Nat×Nat)=>[(9,.int .i64 i.1),(10,.int .i64 i.2)]) (fun (i:Nat×Nat)=>[]) (fun (i:Nat×Nat)=>i.1≤i.2∧i.2≤t.grps.length∧(∀ k,k<i.1→(t.grps.getD k default).id<id)∧(∀ k,i.2≤k→k<t.grps.length→id≤(t.grps.getD k default).id)) (fun (i:Nat×Nat)=>i.2-i.1) (0,t.grps.length) (by trivial) ⟨by omega,by omega,fun k hk=>by omega,fun k h1 h2=>by omega⟩ (by trivial) (by trivial) (fun _=>⟨rfl,rfl,rfl,by simp [hE]⟩) (fun i hk=>?_)
 obtain⟨a,b⟩:=i
 obtain⟨h1,h2,h3,h4⟩:=hk
 dsimp only at h1 h2 h3 h4 ⊢
 by_cases hlt:a<b
 ·have hm:((a:Int)+b)/2=((a+b)/2:Nat):=by omega
  conv=>whnf
  repeat' (first|((first|refine QAt.half rfl rfl rfl (by omega) ?_|refine Ix.of ((a+b)/2) hm ?_|refine Br.pt (by omega) ?_|refine CallS.q (findF (t.grps.getD ((a+b)/2) default) _) rfl ?_|refine Ob.mk (by omega) ?_|refine Ob.mk (by unfold W.I64 at *;omega) ?_);conv=>whnf)|((refine Br.d (fun h=>?_) (fun h=>?_))<;>conv=>whnf))
  all_goals have hc:=cmpI_lt (t.grps.getD ((a+b)/2) default).id id
  ·have hlow:∀ k,k<(a+b)/2+1→(t.grps.getD k default).id<id:=fun k hk=>by
    rcases Nat.lt_or_ge k ((a+b)/2) with h|h
    ·have:=ht.lt h (by omega);omega
    ·obtain rfl:k=(a+b)/2:=by omega
     omega
   rw [hm]
   exact⟨((a+b)/2+1,b),⟨by dsimp only;omega,h2,hlow,h4⟩,by dsimp only;omega,(by trivial),(by trivial),(by trivial)⟩
  ·have hup:∀ k,(a+b)/2≤k→k<t.grps.length→id≤(t.grps.getD k default).id:=fun k hk1 hk2=>by
    rcases Nat.lt_or_ge ((a+b)/2) k with h|h
    ·have:=ht.lt h hk2;omega
    ·obtain rfl:k=(a+b)/2:=by omega
     omega
   rw [hm]
   exact⟨(a,(a+b)/2),⟨by dsimp only;omega,by dsimp only;omega,h3,hup⟩,by dsimp only;omega,(by trivial),(by trivial),(by trivial)⟩
 ·have hab:a=b:=by omega
  subst hab
  by_cases ha:a<t.grps.length
  ·conv=>whnf
   repeat' ((first|refine Ix.of a rfl ?_|refine Br.pt (by omega) ?_|refine Br.pf (by omega) ?_|refine CallS.q (findF (t.grps.getD a default) _) rfl ?_|refine Ob.mk (by omega) ?_|refine FinAt.val rfl ?_);conv=>whnf)
   have hc:=cmpI_eq (t.grps.getD a default).id id
   refine⟨a,_,rfl,by omega,?_⟩
   by_cases he:(t.grps.getD a default).id=id
   ·rw [find_some ht ha he]
    exact⟨decide_eq_true (hc.2 he),rfl⟩
   ·rw [find_none (fun k hk e=>by
     rcases Nat.lt_trichotomy k a with h|h|h
     ·have:=h3 k h;omega
     ·subst h;exact he e
     ·have:=h4 a (Nat.le_refl _) ha
      have:=ht.lt h hk
      omega)]
    exact decide_eq_false fun h=>he (hc.1 h)
  ·conv=>whnf
   repeat' ((first|refine Br.pf (by omega) ?_|refine FinAt.val rfl ?_);conv=>whnf)
   refine⟨a,_,rfl,by omega,?_⟩
   rw [find_none (fun k hk e=>by have:=h3 k (by omega);omega)]
theorem find(t:W.Trk)(ht:TrkOk t)(id:Int):Ret Tryz.prog 99 [trkV t,I id] (FindIs t id):=by
 refine enterO tabOk (N:=12) (gs:=[]) (args:=[_,_]) Tryz.func99 rfl rfl rfl (nLe rfl) (fun E hE=>?_)
 conv=>whnf
 refine CallS.call (CallN.puP (bsearch t ht id) rfl (fun r hr=>?_))
 obtain⟨i,b,rfl,h1,h2⟩:=hr
 conv=>whnf
 repeat' ((refine FinAt.val rfl ?_);conv=>whnf)
 exact⟨i,b,rfl,h1,h2⟩
end Y
end Go.Proofs.YtllemifiammnnaaGreat
