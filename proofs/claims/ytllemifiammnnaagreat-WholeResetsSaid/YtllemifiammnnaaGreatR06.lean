/- Part 6 of the proof. No condition. -/
import Derived.Test.YtllemifiammnnaaGreatR05
import Derived.Test.YtllemifiammnnaaGreatR02
set_option linter.unusedVariables false
set_option linter.unusedSimpArgs false
set_option maxRecDepth 100000
set_option maxHeartbeats 4000000
namespace Go.Proofs.YtllemifiammnnaaGreat
namespace Y
open Go Go.RowKit Go.Sort
abbrev plC(p:W.Place):List AV:=[.bool p.on,I p.group,I p.pos.lo,I p.pos.hi,I p.est,I p.set.from_,rtsV p.set.list]
abbrev navC(n:W.Nav):List AV:=[I n.c.pulses,I n.c.circLo,I n.c.circHi,I n.c.radBase,I n.c.radPart,I n.c.accErr,I n.c.maxSpeed,I n.c.maxAccel,I n.c.antenna,I n.c.still,I n.c.stillSpeed,I n.c.roll,I n.c.timeout,I n.c.brake,
 sgsV n.t.segs,gpsV n.t.grps,.bool n.broken,I n.cycle,I n.grades.lo,I n.grades.hi,isV n.ends,.bool n.k0.known,.int .u16 n.k0.last,I n.k0.sum,.bool n.k1.known,.int .u16 n.k1.last,I n.k1.sum,I n.circ0.lo,I n.circ0.hi,I n.circ1.lo,I n.circ1.hi,I n.speed.lo,I n.speed.hi,I n.dist,
 .bool n.place.on,I n.place.group,I n.place.pos.lo,I n.place.pos.hi,I n.place.est,I n.place.set.from_,rtsV n.place.set.list,.bool n.clean,I n.origin.lo,I n.origin.hi,I n.sum0,I n.sum1,I n.still.count,.bool n.still.on,.bool n.roll.anchored,.bool n.roll.on,I n.roll.moved.lo,I n.roll.moved.hi,I n.watch.silent,I n.watch.strife,.bool n.watch.failed]
structure CtOk(k:W.Counter):Prop where
 l0:0≤k.last
 l1:k.last<65536
 sum:W.I64 k.sum
theorem next_i64{k:W.Counter}{v:Int}{h:Bool}(hk:CtOk k):W.I64 (k.next v h).2.1:=by
 have:=hk.l0
 have:=hk.l1
 unfold W.Counter.next W.delta W.I64
 split<;>(try split)<;>dsimp only<;>omega
theorem tacho0(n:W.Nav)(m:Ml.M)(hk:CtOk n.k0)(hc:SpI n.circ0)(hp:W.I64 n.c.pulses)(hv:W.I64 (m.val 1)):RetO Tryz.prog 89 [.blk (navC n)] [.own 0 0,I 0,.agg (mlC m)] (fun r gs'=>r=.agg (snC (W.tachoSensor n.circ0 n.c.pulses (n.k0.next (m.val 1) (m.has 1))))∧gs'=[.blk (navC { n with k0:=(n.k0.next (m.val 1) (m.has 1)).1 })]):=by
 refine enterO tabOk (N:=61) (gs:=[_]) (args:=[_,_,_]) Tryz.func89 rfl rfl rfl (nLe rfl) (fun E hE=>?_)
 conv=>whnf
 repeat' (first|((first|(refine Drw.len 19 17 rfl rfl ?_;refine Drw.allocM tabOk [0,1,2,3,4,5,6,7,8,9,10,11,12,13,14,16,15] [0,1,2,3,4,5,6,7,8,9,10,11,12,13,14,16] [[],[15]] [17,18] 16 (by kernel_rfl) (by kernel_rfl) (by kernel_rfl) (by kernel_rfl) rfl (by simp [hE]) ?_)|refine CallS.q (of_ m 1 (by omega) (by omega)) rfl ?_|refine CallS.q (ctNext _ _ _ _ _ hk.l0 hk.l1 hk.sum hv) rfl ?_|refine CallD.pu (tacho _ _ _ _ (next_i64 hk) hc.1 hc.2 hp) rfl ?_|refine Ob.mk (by omega) ?_|refine Ob.mk (by unfold W.I64 at *;omega) ?_|refine Drw.loose (by kernel_rfl) ?_|refine Ix.of 0 rfl ?_|refine Pc.lit ?_);conv=>whnf)|((first|refine Br.mk (fun h=>?_) (fun h=>?_)|refine Both.mk ?_ ?_)<;>conv=>whnf))
 all_goals
  refine FinAt.asis (ars:=[.agg (snC (W.tachoSensor n.circ0 n.c.pulses (n.k0.next (m.val 1) (m.has 1))))]) [] (RvL.cons ?_ RvL.nil) (by simp) (by simp) rfl ⟨rfl,rfl⟩
  unfold W.tachoSensor
  first|rw [if_pos (show (n.k0.next (m.val 1) (m.has 1)).2.2=true by simpa using h)]|rw [if_neg (show ¬ (n.k0.next (m.val 1) (m.has 1)).2.2=true by simpa using h)]
  exact Rv.pu rfl
theorem tacho1(n:W.Nav)(m:Ml.M)(hk:CtOk n.k1)(hc:SpI n.circ1)(hp:W.I64 n.c.pulses)(hv:W.I64 (m.val 2)):RetO Tryz.prog 89 [.blk (navC n)] [.own 0 0,I 1,.agg (mlC m)] (fun r gs'=>r=.agg (snC (W.tachoSensor n.circ1 n.c.pulses (n.k1.next (m.val 2) (m.has 2))))∧gs'=[.blk (navC { n with k1:=(n.k1.next (m.val 2) (m.has 2)).1 })]):=by
 refine enterO tabOk (N:=61) (gs:=[_]) (args:=[_,_,_]) Tryz.func89 rfl rfl rfl (nLe rfl) (fun E hE=>?_)
 conv=>whnf
 repeat' (first|((first|(refine Drw.len 19 17 rfl rfl ?_;refine Drw.allocM tabOk [0,1,2,3,4,5,6,7,8,9,10,11,12,13,14,16,15] [0,1,2,3,4,5,6,7,8,9,10,11,12,13,14,16] [[],[15]] [17,18] 16 (by kernel_rfl) (by kernel_rfl) (by kernel_rfl) (by kernel_rfl) rfl (by simp [hE]) ?_)|refine CallS.q (of_ m 2 (by omega) (by omega)) rfl ?_|refine CallS.q (ctNext _ _ _ _ _ hk.l0 hk.l1 hk.sum hv) rfl ?_|refine CallD.pu (tacho _ _ _ _ (next_i64 hk) hc.1 hc.2 hp) rfl ?_|refine Ob.mk (by omega) ?_|refine Ob.mk (by unfold W.I64 at *;omega) ?_|refine Drw.loose (by kernel_rfl) ?_|refine Ix.of 1 rfl ?_|refine Pc.lit ?_);conv=>whnf)|((first|refine Br.mk (fun h=>?_) (fun h=>?_)|refine Both.mk ?_ ?_)<;>conv=>whnf))
 all_goals
  refine FinAt.asis (ars:=[.agg (snC (W.tachoSensor n.circ1 n.c.pulses (n.k1.next (m.val 2) (m.has 2))))]) [] (RvL.cons ?_ RvL.nil) (by simp) (by simp) rfl ⟨rfl,rfl⟩
  unfold W.tachoSensor
  first|rw [if_pos (show (n.k1.next (m.val 2) (m.has 2)).2.2=true by simpa using h)]|rw [if_neg (show ¬ (n.k1.next (m.val 2) (m.has 2)).2.2=true by simpa using h)]
  exact Rv.pu rfl
theorem radar_(n:W.Nav)(m:Ml.M)(h0:0≤n.c.radBase)(h1:n.c.radBase≤1048576)(h2:0≤n.c.radPart)(h3:n.c.radPart≤65536)(h4:-4294967296≤m.val 3)(h5:m.val 3≤4294967296):RetO Tryz.prog 90 [.blk (navC n)] [.own 0 0,.agg (mlC m)] (fun r gs'=>r=.agg (snC (n.radarS m))∧gs'=[.blk (navC n)]):=by
 refine enterO tabOk (N:=22) (gs:=[_]) (args:=[_,_]) Tryz.func90 rfl rfl rfl (nLe rfl) (fun E hE=>?_)
 conv=>whnf
 repeat' (first|((first|refine CallS.q (of_ m 3 (by omega) (by omega)) rfl ?_|refine CallS.q (radar n.c _ h0 h1 h2 h3 h4 h5) rfl ?_);conv=>whnf)|((refine Br.mk (fun h=>?_) (fun h=>?_))<;>conv=>whnf))
 all_goals
  refine FinAt.asis (ars:=[.agg (snC (n.radarS m))]) [] (RvL.cons ?_ RvL.nil) (by simp) (by simp) rfl ⟨rfl,rfl⟩
  unfold W.Nav.radarS
  first|rw [if_pos (show m.has 3=true by simpa using h)]|rw [if_neg (show ¬ m.has 3=true by simpa using h)]
  exact Rv.pu rfl
def PLen(t:W.Trk):Prop:=∀ i,i<t.segs.length→(t.segs.getD i default).pieces.length≤64
theorem meet_in{p:W.Sp}{a b:Int}(h:(p.meet ⟨a,b⟩).2=true):a≤(p.meet ⟨a,b⟩).1.lo∧(p.meet ⟨a,b⟩).1.lo≤b∧a≤(p.meet ⟨a,b⟩).1.hi∧(p.meet ⟨a,b⟩).1.hi≤b:=by
 unfold W.Sp.meet W.both at h ⊢
 split at h<;>simp_all
 all_goals omega
theorem gradesC(p:W.Sp)(t:W.Trk)(ht:TLen t)(hpl:PLen t)(st:W.Sp×Bool)(k:Nat)(at_:Int)(h1:k<t.segs.length)(h2:-1099511627776≤at_)(h3:at_≤13194139533312) :
  RetO Tryz.prog 195 [.blk ([I p.lo,I p.hi]),.blk ([sgsV t.segs,gpsV t.grps]),.blk ([.bool st.2]),.blk ([I st.1.lo,I st.1.hi])] [I k,I at_,.own 0 0,.own 1 0,.own 2 0,.own 3 0] (fun r gs'=>r=.tup []∧gs'=[.blk ([I p.lo,I p.hi]),.blk ([sgsV t.segs,gpsV t.grps]),.blk ([.bool (W.gradeStep t p st (k,at_)).2]),.blk ([I (W.gradeStep t p st (k,at_)).1.lo,I (W.gradeStep t p st (k,at_)).1.hi])]):=by
 have hl:=ht k h1
 have hp:=hpl k h1
 obtain⟨⟨sl,sh⟩,sb⟩:=st
 refine enterO tabOk (N:=54) (gs:=[_,_,_,_]) (args:=[_,_,_,_,_,_]) Tryz.func195 rfl rfl rfl (nLe rfl) (fun E hE=>?_)
 obtain⟨o,ho⟩:∃ o,o=W.Sp.meet ⟨p.lo,p.hi⟩ ⟨at_,at_+(t.segs.getD k default).length⟩:=⟨_,rfl⟩
 have hin:o.2=true→at_≤o.1.lo∧o.1.lo≤at_+(t.segs.getD k default).length∧at_≤o.1.hi∧o.1.hi≤at_+(t.segs.getD k default).length:=fun h=>by subst ho;exact meet_in h
 obtain⟨⟨ol,oh⟩,ob⟩:=o
 have hmt:=spMeet p.lo p.hi at_ (at_+(t.segs.getD k default).length)
 rw [← ho] at hmt
 have hmt:Ret Tryz.prog 133 [.agg [I p.lo,I p.hi],.agg [I at_,I (at_+(t.segs.getD k default).length)]] (·=.tup [.agg [I ol,I oh],.bool ob]):=hmt
 have hst:W.gradeStep t p (⟨sl,sh⟩,sb) (k,at_)=if ob then ((if sb then (⟨sl,sh⟩:W.Sp) else (W.bounds (t.segs.getD k default).pieces ⟨ol-at_,oh-at_⟩).1).hull (W.bounds (t.segs.getD k default).pieces ⟨ol-at_,oh-at_⟩).1,true) else (⟨sl,sh⟩,sb):=by
  unfold W.gradeStep
  rw [show W.Sp.meet p ⟨((k:Int),at_).2,((k:Int),at_).2+t.len ((k:Int),at_).1⟩=_ from ho.symm]
  rfl
 rw [hst]
 clear hst ho
 cases ob
 ·conv=>whnf
  repeat' (first|((first|(refine Drw.len 18 16 rfl rfl ?_;refine Drw.allocM tabOk [0,1,2,3,4,5,6,7,8,9,10,11,12,13,15,14] [0,1,2,3,4,5,6,7,8,9,10,11,12,13,15] [[],[14]] [16,17] 15 (by kernel_rfl) (by kernel_rfl) (by kernel_rfl) (by kernel_rfl) rfl (by simp [hE]) ?_)|refine Br.ot rfl ?_|refine CallD.pu (hmt) rfl ?_|refine Ob.mk (by omega) ?_|refine Ob.mk (by unfold W.I64 at *;omega) ?_|refine Ix.nat _ ?_);conv=>whnf)|((refine Both.mk ?_ ?_)<;>conv=>whnf))
  all_goals refine FinAt.asis (ars:=[]) [] RvL.nil (by simp) (by show 4≤_;simp) rfl ⟨rfl,rfl⟩
 ·have hin:=hin rfl
  dsimp only at hin
  cases sb
  all_goals
   conv=>whnf
   repeat' (first|((first|(refine Drw.len 18 16 rfl rfl ?_;refine Drw.allocM tabOk [0,1,2,3,4,5,6,7,8,9,10,11,12,13,15,14] [0,1,2,3,4,5,6,7,8,9,10,11,12,13,15] [[],[14]] [16,17] 15 (by kernel_rfl) (by kernel_rfl) (by kernel_rfl) (by kernel_rfl) rfl (by simp [hE]) ?_)|(refine Drw.len 22 20 rfl rfl ?_;refine Drw.allocM tabOk [0,1,2,3,4,5,6,7,8,9,10,11,12,13,14,15,16,17,19,18] [0,1,2,3,4,5,6,7,8,9,10,11,12,13,14,15,16,17,19] [[],[18]] [20,21] 19 (by kernel_rfl) (by kernel_rfl) (by kernel_rfl) (by kernel_rfl) rfl (by simp [hE]) ?_)|refine Br.ot rfl ?_|refine Br.of rfl ?_|refine CallS.q (spHull _ _ _ _) rfl ?_|refine CallD.pu (hmt) rfl ?_|refine CallD.pu (gradeBounds _ _ _ (by omega)) rfl ?_|refine Ob.mk (by omega) ?_|refine Ob.mk (by unfold W.I64 at *;omega) ?_|refine Ix.nat _ ?_);conv=>whnf)|((refine Both.mk ?_ ?_)<;>conv=>whnf))
   all_goals refine FinAt.asis (ars:=[]) [] RvL.nil (by simp) (by show 4≤_;simp) rfl ⟨rfl,rfl⟩
theorem R0_R{S:Nat→Prop}{n:World}{ids:List Loc}{v:AV}{V:Value}(h:R0 S n ids v V):R S n ids v V :=
 (R0L_R (l:=[v]) (vs:=[V]) ⟨h,trivial⟩).1
structure EndV(S:Nat→Prop)(w:World)(bs:List Loc)(post:AV→List OB→Prop)(e:Ending)(w':World):Prop where
 out:∃ r V gs' bs' S',e=.returned V∧post r gs'∧R0 S' w' bs' r V∧Gs S' w' bs' gs'∧Ids bs bs'∧bs'.length=bs.length∧(∀ i o L b,nth gs' i=some o→alive o=true→nth bs' i=some L→L.blk=some b→w.heap.size≤b∨∃ L0,nth bs i=some L0∧L0.blk=some b)∧(∀ b,S b→S' b)∧(∀ b,S' b→b<w.heap.size→S b)∧(∀ b,S' b→b<w'.heap.size)∧En.Fr ⟨w,bs,S⟩ w'
def RetV(P:Program)(f:Nat)(gs:List OB)(args:List AV)(post:AV→List OB→Prop):Prop :=
 ∀ S w bs Vs,Gs S w bs gs→(∀ b,S b→b<w.heap.size)→all2 (R S w bs) args Vs→Calls P f ⟨Vs⟩ w (EndV S w bs post)
structure FinV(k:Nat)(vs:List AV)(own:Ow)(post:AV→List OB→Prop):Prop where
 out:∃ r,vs=[r]∧ok0 k r=true∧pu1 r=false∧k≤own.length∧okO k (own.take k)=true∧post r (own.take k)
def endV(T:Tab)(rs:List ResultVar)(k:Nat)(post:AV→List OB→Prop)(e:Exit)(tm:Tm)(own:Ow):Prop :=
 match e with
 |.ret=>resK T tm own rs fun vs=>FinV k vs own post
 |.normal=>resK T tm own rs fun vs=>FinV k vs own post
 |_=>False
theorem okO_nth{k:Nat}:∀ (l:Ow) (j:Nat) (o:OB),okO k l=true→nth l j=some o→okO k [o]=true
 |[],j,o,_,h=>by simp [nth] at h
 |d::l,0,o,h,hj=>by simp only [nth,Option.some.injEq] at hj;subst hj;cases d<;>simp_all [okO]
 |d::l,j+1,o,h,hj=>by simp only [nth] at hj;exact okO_nth l j o (by cases d<;>simp_all [okO]) hj
theorem FinV.endV{P:Program}{N:Nat}{E:En}{tm:Tm}{own:Ow}{S:Nat→Prop}{ids:List Loc}{a:Act}{n:World}(hs:Sim N E tm own S ids a n){vs:List AV}{post:AV→List OB→Prop}(h:FinV E.gs.length vs own post){Vs:List Value}(hv:all2 (R S n ids) vs Vs) :
  EndV E.S E.w E.gs post (.returned (oneV Vs)) n:=by
 obtain⟨r,rfl,h1,h2,h3,h4,h5⟩:=h.out
 match Vs,hv with
 |[V],⟨hr,_⟩ =>
  have hle:E.gs.length≤ids.length:=by rw [hs.len];exact h3
  have hget:∀ {j:Nat} {o:OB},nth (own.take E.gs.length) j=some o→j<E.gs.length∧nth own j=some o:=fun {j o} hj=>by
   have:=nth_lt hj
   have hlt:j<E.gs.length:=by simp at this;omega
   rw [nth_take hlt] at hj
   exact⟨hlt,hj⟩
  have hid:∀ {j:Nat} {L:Loc},j<E.gs.length→nth (ids.take E.gs.length) j=some L→nth ids j=some L:=fun {j L} hj hL=>by rw [nth_take hj] at hL;exact hL
  have hr0:R0 S n ids r V:=by cases r<;>first|exact hr|cases h2
  refine⟨r,V,own.take E.gs.length,ids.take E.gs.length,S,rfl,h5,hr0.take h1,⟨by simp;omega,fun k o L hk hL=>?_,fun i j o o' L L' b hi hj ao ao' hL hL' e e'=>?_,fun i o L b hi ao hL e=>?_⟩,
   ⟨fun i b hi=>by rw [nth_take (nth_lt hi)];exact hs.pre.fix i b hi,fun i L hi hf=>by
    obtain⟨L',g1,g2⟩:=hs.pre.gro i L hi hf
    exact⟨L',by rw [nth_take (nth_lt hi)];exact g1,g2⟩⟩,by simp;omega,fun i o L b hi ao hL e=>?_,hs.snew,hs.sold,hs.slt,hs.fr⟩
  ·obtain⟨g1,g2⟩:=hget hk
   have hl:=hs.live k o L g2 (hid g1 hL)
   have hok:=okO_nth _ _ _ h4 hk
   cases o with
   |blk cs =>
    obtain⟨b,ws,e,p1,p2⟩:=hl
    simp only [okO,Bool.and_true] at hok
    exact⟨b,ws,e,R1L.take hok p1,p2⟩
   |_=>exact hl
  ·obtain⟨g1,g2⟩:=hget hi
   obtain⟨k1,k2⟩:=hget hj
   exact hs.dist i j o o' L L' b g2 k2 ao ao' (hid g1 hL) (hid k1 hL') e e'
  ·obtain⟨g1,g2⟩:=hget hi
   exact⟨(hs.noS i o L b g2 ao (hid g1 hL) e).1,(hs.noS i o L b g2 ao (hid g1 hL) e).2.1⟩
  ·obtain⟨g1,g2⟩:=hget hi
   exact(hs.noS i o L b g2 ao (hid g1 hL) e).2.2
theorem enterV{P:Program}{T:Tab}(hT:TabOk P T){f:Nat}{fn:Func}{c:Code}{N:Nat}{rs:List ResultVar}(hf:P.funcs[f]?=some fn)(hb:fn.body=some c)(hN:fn.ntmps=N)(hrs:fn.results=⟨rs⟩)
  {gs:List OB} {args:List AV} {post:AV→List OB→Prop} (hlen:args.length≤N) (h:∀ E:En,E.gs.length=gs.length→WC T P N E c (endV T rs gs.length post) (tmOf args 0) gs):RetV P f gs args post:=by
 intro S w bs Vs hG hlt hV
 refine calls_of_wp hf hb ?_
 have hs:Sim N ⟨w,bs,S⟩ (tmOf args 0) gs S bs { tmps:=⟨Vs⟩++Array.replicate (fn.ntmps-(⟨Vs⟩:Array Value).size) undef,defers:=[] } w:={
  size:=by have:=hV.len;simp [hN];omega
  defers:=rfl
  sl:=fun t v hv=>by
   obtain⟨_,h1⟩:=look_tmOf hv
   obtain⟨V,h2,h3⟩:=hV.get h1
   refine⟨V,?_,h3⟩
   have h4:t<Vs.length:=by have:=(List.getElem?_eq_some_iff.1 h2).1;omega
   rw [Array.getElem?_append_left (by simpa using h4)]
   simpa using h2
  len:=hG.len
  live:=hG.live
  dist:=hG.dist
  noS:=fun i o L b hi ha hL e=>⟨(hG.noS i o L b hi ha hL e).1,(hG.noS i o L b hi ha hL e).2,.inr ⟨L,hL,e⟩⟩
  pre:=Ids.refl _
  slt:=hlt
  sold:=fun b hb _=>hb
  snew:=fun b hb=>hb
  fr:=⟨rfl,rfl,rfl,Nat.le_refl _,fun _ _ _=>rfl⟩ }
 have key:∀ tm own S' ids a n,resK T tm own rs (fun vs=>FinV gs.length vs own post)→Sim N ⟨w,bs,S⟩ tm own S' ids a n→a.defers=[]∧∃ v,(results fn a.tmps).run P n=.ok v n∧EndV S w bs post (.returned v) n:=by
  intro tm own S' ids a n hK hs
  obtain⟨vs,h1,h2⟩:=resK_sound (P:=P) hT hK
  obtain⟨Us,h3,h4⟩:=h2 N _ S' ids a n hs
  refine⟨hs.defers,oneV Us,?_,FinV.endV (P:=P) hs (hG.len ▸ h1) h3⟩
  have h5:(results fn a.tmps)=((do let vs ← fn.results.mapM (resOne a.tmps);pure (if h:vs.size=1 then vs[0] else .tuple vs)):Sem Value):=by
   unfold results
   rfl
  rw [h5,hrs,Sem.run_bind,Array.mapM_eq_mapM_toList,Sem.run_map,h4]
  simp only [Result.andThen_ok]
  match Us with
  |[]=>rfl
  |[v]=>rfl
  |v::u::r=>simp [oneV,Sem.run_pure]
 refine WC_sound hT c (h ⟨w,bs,S⟩ hG.len) ⟨fun e a n ⟨tm,own,S',ids,hK,hs⟩=>?_,fun c a d v w hq=>⟨hq.1,hq.2⟩⟩ hs
 cases e with
 |normal=>exact key tm own S' ids a n hK hs
 |ret=>exact key tm own S' ids a n hK hs
 |_=>exact hK.elim
section
variable{P:Program}{f:Nat}{vs ars:List AV}{tm:Tm}{own:Ow}{N:Nat}{E:En}{dst:Option Nat}{K:Tm→Ow→Prop}
theorem CallN.updV(J I:List Nat){gs:List OB}{post:AV→List OB→Prop}(hv:RvJL own J I vs ars)(hI:Als own I)(hg:∀ i∈I,E.gs.length≤i)(hJ:Giv own J I gs)(h:RetV P f gs ars post)
  (hK:∀ r gs',post r gs'→gs'.length=gs.length→put N tm dst (rn0 J r) fun tm=>K tm (putJ J (gs'.map (rnO J)) (killI I own))):CallN P N E f vs dst K tm own:=by
 refine⟨fun S ids a n hs Vs hV=>?_⟩
 have hI':∀ i∈I,E.gs.length≤i∧∃ o,nth own i=some o∧alive o=true:=fun i hi=>⟨hg i hi,hI i hi⟩
 have hkl:=hs.kill hI'
 have hJo:∀ {k j:Nat},nth J k=some j→∃ g o L,nth gs k=some g∧nth own j=some o∧alive o=true∧nth ids j=some L∧((∃ cs g',o=.blk cs∧g=.blk g'∧RcJ own J I cs g')∨((∀ cs,o≠.blk cs)∧g=o))∧alive g=true∧nth (killI I own) j=some o:=fun {k j} hk=>by
  obtain⟨g,hgk⟩:=nth_of_lt (l:=gs) (i:=k) (by rw [← hJ.len];exact nth_lt hk)
  obtain⟨j',o,g1,g2,g3,g4⟩:=hJ.at_ k g hgk
  rw [hk] at g1;obtain rfl:=Option.some.inj g1
  obtain⟨L,hL⟩:=nth_of_lt (l:=ids) (i:=j) (by rw [hs.len];exact nth_lt g2)
  refine⟨g,o,L,hgk,g2,g3,hL,g4,?_,?_⟩
  ·rcases g4 with ⟨cs,g',rfl,rfl,_⟩|⟨_,rfl⟩
   ·rfl
   ·exact g3
  ·rw [killI_keep I own (hJ.ni j (by rw [nth_eq] at hk;exact List.mem_of_getElem? hk))];exact g2
 have hloc:∀ {k:Nat} {L:Loc},nth (locsJ ids J) k=some L→∃ j,nth J k=some j∧nth ids j=some L:=fun {k L} hk=>by
  have hlt:=nth_lt hk
  unfold locsJ at hlt
  obtain⟨j,hj⟩:=nth_of_lt (l:=J) (i:=k) (by simpa using hlt)
  obtain⟨g,o,L',_,_,_,h4,_⟩:=hJo hj
  rw [locsJ_nth hj h4] at hk
  obtain rfl:=Option.some.inj hk
  exact⟨j,hj,h4⟩
 have hGs:Gs (SI S ids I) n (locsJ ids J) gs:=by
  refine⟨by simp [locsJ,hJ.len],fun k g L hk hL=>?_,fun i j o o' L L' b hi hj ao ao' hL hL' e e'=>?_,fun i g L b hi ag hL e=>?_⟩
  ·obtain⟨j,h1,h2⟩:=hloc hL
   obtain⟨g',o,L',q1,q2,q3,q4,q5,_,q7⟩:=hJo h1
   rw [hk] at q1;obtain rfl:=Option.some.inj q1
   have hlv:=hkl.live j o L q7 h2
   rcases q5 with ⟨cs,g',rfl,rfl,q5⟩|⟨q5,rfl⟩
   ·have hlv0:=hs.live j _ L q2 h2
    obtain⟨b,ws,e,p1,p2⟩:=hlv0
    exact⟨b,ws,e,q5 S n ids _ hs.lv ws p1,p2⟩
   ·cases g with
    |blk cs=>exact absurd rfl (q5 cs)
    |_=>exact hlv
  ·obtain⟨x,h1,h2⟩:=hloc hL
   obtain⟨y,h3,h4⟩:=hloc hL'
   obtain⟨_,ox,_,_,q2,q3,_⟩:=hJo h1
   obtain⟨_,oy,_,_,p2,p3,_⟩:=hJo h3
   have:=hs.dist x y ox oy L L' b q2 p2 q3 p3 h2 h4 e e'
   subst this
   exact putK_nth (α:=Nat) hJ.nd h1 h3
  ·obtain⟨x,h1,h2⟩:=hloc hL
   obtain⟨_,ox,_,_,q2,q3,_,_,_,q7⟩:=hJo h1
   exact⟨(hkl.noS x ox L b q7 q3 h2 e).1,(hkl.noS x ox L b q7 q3 h2 e).2.1⟩
 refine(h (SI S ids I) n (locsJ ids J) Vs hGs (siLt0 hs hI) (hv S n ids _ hs.lv Vs hV)).mono fun e w' ⟨r,V,gs',bs',S',h1,h2,h3,h4,h5,h5',h5'',h6,h7,h8,h9⟩=>?_
 have hgl:gs'.length=gs.length:=by rw [← h4.len,h5'];simp [locsJ,hJ.len]
 obtain⟨tm',g1,g2⟩:=put_sound (hK r gs' h2 hgl)
 have hbl:bs'.length=J.length:=by rw [h5'];simp [locsJ]
 have hids_in:∀ {k j:Nat} {L:Loc},nth J k=some j→nth bs' k=some L→nth (putJ J bs' ids) j=some L:=fun {k j L} hk hL=>by
  obtain⟨_,_,_,_,_,_,q4,_⟩:=hJo hk
  exact putJ_in J bs' ids k j L hJ.nd hk hL (nth_lt q4)
 have hrn:RnOk J bs' (putJ J bs' ids):=fun k L hL=>by
  obtain⟨j,hj⟩:=nth_of_lt (l:=J) (i:=k) (by rw [← hbl];exact nth_lt hL)
  have:rnN J k=j:=by unfold rnN;rw [hj];rfl
  rw [this];exact hids_in hj hL
 have hJm:∀ {j:Nat},j∈J→∃ k L,nth J k=some j∧nth bs' k=some L∧nth (putJ J bs' ids) j=some L:=fun {j} hj=>by
  obtain⟨k,hk,ek⟩:=List.getElem_of_mem hj
  have hkj:nth J k=some j:=by rw [nth_eq];simp [hk,ek]
  obtain⟨L,hL⟩:=nth_of_lt (l:=bs') (i:=k) (by rw [hbl];exact hk)
  exact⟨k,L,hkj,hL,hids_in hkj hL⟩
 have hIds:Ids ids (putJ J bs' ids):=by
  refine⟨fun i b hi=>?_,fun i L hi hf=>?_⟩
  ·by_cases hj:i∈J
   ·obtain⟨k,L,q1,q2,q3⟩:=hJm hj
    have:=h5.fix k b (locsJ_nth q1 hi)
    rw [q2] at this;obtain rfl:=Option.some.inj this
    exact q3
   ·rw [putJ_out J bs' ids i hj];exact hi
  ·by_cases hj:i∈J
   ·obtain⟨k,L1,q1,q2,q3⟩:=hJm hj
    obtain⟨L',p1,p2,p3⟩:=h5.gro k L (locsJ_nth q1 hi) hf
    rw [q2] at p1;obtain rfl:=Option.some.inj p1
    exact⟨L1,q3,p2,p3⟩
   ·exact⟨L,by rw [putJ_out J bs' ids i hj];exact hi,hf,.inl rfl⟩
 have hown_in:∀ {j:Nat} {o:OB},j∈J→nth (putJ J (gs'.map (rnO J)) (killI I own)) j=some o→∃ k g L,nth J k=some j∧nth gs' k=some g∧o=rnO J g∧nth bs' k=some L∧nth (putJ J bs' ids) j=some L:=fun {j o} hj ho=>by
  obtain⟨k,L,q1,q2,q3⟩:=hJm hj
  obtain⟨g,hgk⟩:=nth_of_lt (l:=gs') (i:=k) (by rw [hgl,← hJ.len];exact nth_lt q1)
  obtain⟨_,_,_,_,p2,_⟩:=hJo q1
  have:nth (putJ J (gs'.map (rnO J)) (killI I own)) j=some (rnO J g):=putJ_in J _ _ k j _ hJ.nd q1 (by rw [nth_eq] at hgk ⊢;simp [hgk]) (by rw [killI_len];exact nth_lt p2)
  rw [ho] at this
  exact⟨k,g,L,q1,hgk,Option.some.inj this,q2,q3⟩
 have hal:∀ g:OB,alive (rnO J g)=alive g:=fun g=>by cases g<;>rfl
 have hkp:Kp (SI S ids I) S' n w':=⟨h9.size,h6,fun b hb hS=>h9.block b hb fun ⟨k,L,hL,e⟩=>by
  obtain⟨j,q1,q2⟩:=hloc hL
  obtain⟨_,o,_,_,_,p3,_,_,_,p7⟩:=hJo q1
  exact(hkl.noS j o L b p7 p3 q2 e).1 hS⟩
 have hblk:∀ {i:Nat} {o:OB} {L:Loc} {b:Nat},¬ i∈J→nth (killI I own) i=some o→alive o=true→nth ids i=some L→L.blk=some b→w'.heap[b]?=n.heap[b]?∧b<n.heap.size:=fun {i o L b} hi ho ao hL e=>by
  have hlt:=hkl.lt ho ao hL e
  refine⟨h9.block b hlt fun ⟨k,L',hL',e'⟩=>?_,hlt⟩
  obtain⟨j,q1,q2⟩:=hloc hL'
  obtain⟨_,oj,_,_,_,p3,_,_,_,p7⟩:=hJo q1
  have:=hkl.dist i j o oj L L' b ho p7 ao p3 hL q2 e e'
  subst this
  exact hi (by rw [nth_eq] at q1;exact List.mem_of_getElem? q1)
 have hold:∀ {k j:Nat} {g:OB} {L:Loc} {b:Nat},nth J k=some j→nth gs' k=some g→alive g=true→nth bs' k=some L→L.blk=some b→n.heap.size≤b∨∃ L0 o,nth ids j=some L0∧L0.blk=some b∧nth (killI I own) j=some o∧alive o=true:=fun {k j g L b} q1 q2 ag q3 e=>by
  rcases h5'' k g L b q2 ag q3 e with q|⟨L0,q,e0⟩
  ·exact .inl q
  ·obtain⟨j',p1,p2⟩:=hloc q
   rw [q1] at p1;obtain rfl:=Option.some.inj p1
   obtain⟨_,o,_,_,_,r3,_,_,_,r7⟩:=hJo q1
   exact .inr ⟨L0,o,p2,e0,r7,r3⟩
 have hfin:Sim N E tm (putJ J (gs'.map (rnO J)) (killI I own)) S' (putJ J bs' ids) a w':={
  size:=hkl.size
  defers:=hkl.defers
  sl:=fun t v hv=>by obtain⟨U,q1,q2⟩:=hkl.sl t v hv;exact⟨U,q1,(q2.kp hkp).ids hIds⟩
  len:=by rw [putJ_len,putJ_len];exact hkl.len
  live:=fun i o L hi hL=>by
   by_cases hj:i∈J
   ·obtain⟨k,g,L',q1,q2,rfl,q4,q5⟩:=hown_in hj hi
    rw [q5] at hL;obtain rfl:=Option.some.inj hL
    exact(h4.live k g L' q2 q4).rn hrn
   ·rw [putJ_out _ _ _ _ hj] at hi hL
    cases ho:alive o with
    |false=>cases o<;>first|trivial|cases ho
    |true=>exact((hkl.live i o L hi hL).kp hkp fun b hb=>hblk hj hi ho hL hb).ids hIds
  dist:=fun i j o o' L L' b hi hj ao ao' hL hL' e e'=>by
   by_cases hiJ:i∈J<;>by_cases hjJ:j∈J
   ·obtain⟨k,g,L1,q1,q2,rfl,q4,q5⟩:=hown_in hiJ hi
    obtain⟨k',g',L2,p1,p2,rfl,p4,p5⟩:=hown_in hjJ hj
    rw [q5] at hL;obtain rfl:=Option.some.inj hL
    rw [p5] at hL';obtain rfl:=Option.some.inj hL'
    have:=h4.dist k k' g g' L1 L2 b q2 p2 (by rw [← hal];exact ao) (by rw [← hal];exact ao') q4 p4 e e'
    subst this
    rw [q1] at p1;exact Option.some.inj p1
   ·obtain⟨k,g,L1,q1,q2,rfl,q4,q5⟩:=hown_in hiJ hi
    rw [q5] at hL;obtain rfl:=Option.some.inj hL
    rw [putJ_out _ _ _ _ hjJ] at hj hL'
    rcases hold q1 q2 (by rw [← hal];exact ao) q4 e with q|⟨L0,o0,r1,r2,r3,r4⟩
    ·have:=hkl.lt hj ao' hL' e';omega
    ·exact hkl.dist i j o0 o' L0 L' b r3 hj r4 ao' r1 hL' r2 e'
   ·obtain⟨k,g,L1,q1,q2,rfl,q4,q5⟩:=hown_in hjJ hj
    rw [q5] at hL';obtain rfl:=Option.some.inj hL'
    rw [putJ_out _ _ _ _ hiJ] at hi hL
    rcases hold q1 q2 (by rw [← hal];exact ao') q4 e' with q|⟨L0,o0,r1,r2,r3,r4⟩
    ·have:=hkl.lt hi ao hL e;omega
    ·exact(hkl.dist j i o0 o L0 L b r3 hi r4 ao r1 hL r2 e).symm
   ·rw [putJ_out _ _ _ _ hiJ] at hi hL
    rw [putJ_out _ _ _ _ hjJ] at hj hL'
    exact hkl.dist i j o o' L L' b hi hj ao ao' hL hL' e e'
  noS:=fun i o L b hi ao hL e=>by
   by_cases hiJ:i∈J
   ·obtain⟨k,g,L1,q1,q2,rfl,q4,q5⟩:=hown_in hiJ hi
    rw [q5] at hL;obtain rfl:=Option.some.inj hL
    have ag:alive g=true:=by rw [← hal];exact ao
    obtain⟨r1,r2⟩:=h4.noS k g L1 b q2 ag q4 e
    refine⟨r1,r2,?_⟩
    rcases hold q1 q2 ag q4 e with q|⟨L0,o0,p1,p2,p3,p4⟩
    ·exact .inl (Nat.le_trans hkl.fr.size q)
    ·exact(hkl.noS i o0 L0 b p3 p4 p1 p2).2.2
   ·rw [putJ_out _ _ _ _ hiJ] at hi hL
    obtain⟨r1,r2,r3⟩:=hkl.noS i o L b hi ao hL e
    exact⟨fun hS=>r1 (h7 b hS r2),Nat.lt_of_lt_of_le r2 h9.size,r3⟩
  pre:=hkl.pre.trans hIds
  slt:=h8
  sold:=fun b hb hlt=>hkl.sold b (h7 b hb (Nat.lt_of_lt_of_le hlt hkl.fr.size)) hlt
  snew:=fun b hb=>h6 b (hkl.snew b hb)
  fr:=⟨h9.os.trans hkl.fr.os,h9.tape.trans hkl.fr.tape,h9.output.trans hkl.fr.output,Nat.le_trans hkl.fr.size h9.size,fun b hb hG =>
   (h9.block b (Nat.lt_of_lt_of_le hb hkl.fr.size) (fun ⟨k,L,hL,e⟩=>by
    obtain⟨j,q1,q2⟩:=hloc hL
    obtain⟨_,o,_,_,_,p3,_,_,_,p7⟩:=hJo q1
    rcases(hkl.noS j o L b p7 p3 q2 e).2.2 with q|q
    ·omega
    ·exact hG ⟨j,q⟩)).trans (hkl.fr.block b hb hG)⟩ }
 exact⟨V,h1,tm',_,S',_,g1,g2 E _ S' _ a w' V hfin (R0_R (h3.rn hrn))⟩
end
def noG0(i:Nat):AV→Bool
 |.gro j _=>!(Nat.beq j i)
 |_=>true
def noG1(i:Nat):AV→Bool
 |.fn _ a b=>a.all (noG0 i)&&b.all (noG0 i)
 |v=>noG0 i v
def noG2(i:Nat):AV→Bool
 |.agg l=>l.all (noG1 i)
 |v=>noG1 i v
def ubOk(i m:Nat):AV→Bool
 |.gro j k=>!(Nat.beq j i)||Nat.beq k m
 |v=>noG1 i v
def ub(i sz m c:Nat):AV→AV
 |.gro j k=>bif Nat.beq j i then .sl i 0 sz m c else .gro j k
 |v=>v
def ubO(i sz m c:Nat):OB→OB
 |.blk cs=>.blk (cs.map (ub i sz m c))
 |o=>o
def ubOkO(i m:Nat):OB→Bool
 |.blk cs=>cs.all (ubOk i m)
 |_=>true
section
variable{S:Nat→Prop}{n:World}{ids:List Loc}{i g:Nat}{L:Loc}
theorem R0.noG(hi:nth ids i=some L)(hf:L.fix=false){v:AV}{V:Value}(hv:noG0 i v=true)(h:R0 S n ids v V):R0 S n (ids.set i (Loc.at_ g)) v V:=by
 have ne:∀ {j b:Nat},nth ids j=some (Loc.at_ b)→nth (ids.set i (Loc.at_ g)) j=some (Loc.at_ b):=fun {j b} hj=>by
  have hne:i≠j:=fun e=>by subst e;rw [hi] at hj;cases hj;cases hf
  rw [nth_set_ne hne];exact hj
 cases v with
 |own j off=>obtain⟨b,h1,h2⟩:=h;exact⟨b,ne h1,h2⟩
 |at_ j off=>obtain⟨b,h1,h2⟩:=h;exact⟨b,ne h1,h2⟩
 |sl j off sz m c=>obtain⟨b,h1,h2⟩:=h;exact⟨b,ne h1,h2⟩
 |mref j=>obtain⟨b,h1,h2⟩:=h;exact⟨b,ne h1,h2⟩
 |gro j m =>
  obtain⟨L',h1,h2⟩:=h
  have hne:i≠j:=fun e=>by subst e;simp [noG0] at hv
  exact⟨L',by rw [nth_set_ne hne];exact h1,h2⟩
 |_=>exact h
theorem R0L.noG(hi:nth ids i=some L)(hf:L.fix=false):∀ {l:List AV} {vs:List Value},l.all (noG0 i)=true→all2 (R0 S n ids) l vs→all2 (R0 S n (ids.set i (Loc.at_ g))) l vs
 |[],[],_,_=>trivial
 |a::l,v::vs,h,⟨h1,h2⟩=>by
  simp only [List.all_cons,Bool.and_eq_true] at h
  exact⟨h1.noG hi hf h.1,R0L.noG hi hf h.2 h2⟩
 |[],_::_,_,h=>h.elim
 |_::_,[],_,h=>h.elim
theorem R1.noG(hi:nth ids i=some L)(hf:L.fix=false){v:AV}{V:Value}(hv:noG1 i v=true)(h:R1 S n ids v V):R1 S n (ids.set i (Loc.at_ g)) v V:=by
 cases v with
 |fn f a b =>
  simp only [noG1,Bool.and_eq_true] at hv
  obtain⟨va,vb,e,h1,h2⟩:=h
  exact⟨va,vb,e,R0L.noG hi hf hv.1 h1,R0L.noG hi hf hv.2 h2⟩
 |_=>simp only [R1] at h ⊢;exact R0.noG hi hf hv h
theorem R1L.noG(hi:nth ids i=some L)(hf:L.fix=false):∀ {l:List AV} {vs:List Value},l.all (noG1 i)=true→all2 (R1 S n ids) l vs→all2 (R1 S n (ids.set i (Loc.at_ g))) l vs
 |[],[],_,_=>trivial
 |a::l,v::vs,h,⟨h1,h2⟩=>by
  simp only [List.all_cons,Bool.and_eq_true] at h
  exact⟨h1.noG hi hf h.1,R1L.noG hi hf h.2 h2⟩
 |[],_::_,_,h=>h.elim
 |_::_,[],_,h=>h.elim
theorem R.noG(hi:nth ids i=some L)(hf:L.fix=false){v:AV}{V:Value}(hv:noG2 i v=true)(h:R S n ids v V):R S n (ids.set i (Loc.at_ g)) v V:=by
 cases v with
 |agg l=>obtain⟨vs,e,h1⟩:=h;exact⟨vs,e,R1L.noG hi hf hv h1⟩
 |_=>simp only [R] at h ⊢;exact R1.noG hi hf hv h
theorem R1.ub{m c sz:Nat}(hi:nth ids i=some L)(hf:L.fix=false)(hn:L.n=m)(hv:L.v=.slice (some ⟨g,0,none⟩) m c){v:AV}{V:Value}(h0:ubOk i m v=true)(h:R1 S n ids v V):R1 S n (ids.set i (Loc.at_ g)) (Y.ub i sz m c v) V:=by
 cases v with
 |gro j k =>
  simp only [Y.ub]
  cases e:Nat.beq j i with
  |true =>
   obtain rfl:=Nat.eq_of_beq_eq_true e
   simp only [ubOk,e,Bool.not_true,Bool.false_or] at h0
   have hkm:k=m:=Nat.eq_of_beq_eq_true h0
   obtain⟨L',g1,g2,g3,g4,g5⟩:=h
   rw [hi] at g1;obtain rfl:=Option.some.inj g1
   exact⟨g,nth_set_self (nth_lt hi),(g5 (by omega)).trans hv⟩
  |false=>exact R1.noG hi hf (v:=.gro j k) (by simp [noG1,noG0,e]) h
 |fn f a b=>exact R1.noG hi hf (v:=.fn f a b) h0 h
 |_=>exact R1.noG hi hf rfl h
theorem R1L.ub{m c sz:Nat}(hi:nth ids i=some L)(hf:L.fix=false)(hn:L.n=m)(hv:L.v=.slice (some ⟨g,0,none⟩) m c):∀ {l:List AV} {vs:List Value},l.all (ubOk i m)=true→all2 (R1 S n ids) l vs→all2 (R1 S n (ids.set i (Loc.at_ g))) (l.map (Y.ub i sz m c)) vs
 |[],[],_,_=>trivial
 |a::l,v::vs,h,⟨h1,h2⟩=>by
  simp only [List.all_cons,Bool.and_eq_true] at h
  exact⟨h1.ub hi hf hn hv h.1,R1L.ub hi hf hn hv h.2 h2⟩
 |[],_::_,_,h=>h.elim
 |_::_,[],_,h=>h.elim
end
theorem Sim.unbuf{N:Nat}{E:En}{tm:Tm}{own:Ow}{S:Nat→Prop}{ids:List Loc}{a:Act}{n:World}(h:Sim N E tm own S ids a n){i e sz:Nat}{l:List (List AV)}(hi:nth own i=some (.buf e sz l))(hl:0<l.length)(hg:E.gs.length≤i)(hok:own.all (ubOkO i l.length)=true){Fx:Tm}(hx:Sub Fx tm)(hxn:Fx.all (fun p=>noG2 i p.2)=true) :
  ∃ L g c,nth ids i=some L∧L.fix=false∧L.n=l.length∧L.v=.slice (some ⟨g,0,none⟩) l.length c∧l.length≤c∧c≤maxLen∧Sim N E Fx ((own.map (ubO i sz l.length c)).set i (.blk l.flatten)) S (ids.set i (Loc.at_ g)) a n:=by
 obtain⟨L,hL⟩:=nth_of_lt (l:=ids) (i:=i) (by rw [h.len];exact nth_lt hi)
 obtain⟨A,c,vs,e1,h1,h2,h3⟩:=h.live i _ L hi hL
 rcases(ownsRow_info h2).2 with ⟨_,q,_⟩|⟨g,cur,rfl,_,q2,q3,q4,q5,q6⟩
 ·omega
 have hLf:L.fix=false:=by rw [e1]
 have hLn:L.n=l.length:=by rw [e1]
 have hLv:L.v=.slice (some ⟨g,0,none⟩) l.length c:=by rw [e1]
 have hLb:L.blk=some g:=by rw [e1];rfl
 have hlt:i<ids.length:=nth_lt hL
 refine⟨L,g,c,hL,hLf,hLn,hLv,q3,q4,?_⟩
 have key:∀ {j:Nat} {x:OB},nth ((own.map (ubO i sz l.length c)).set i (.blk l.flatten)) j=some x→(j=i∧x=.blk l.flatten)∨(j≠i∧∃ y,nth own j=some y∧x=ubO i sz l.length c y):=fun {j x} hx=>by
  by_cases e:i=j
  ·subst e
   rw [nth_set_self (by simpa using nth_lt hi)] at hx
   exact .inl ⟨rfl,(Option.some.inj hx).symm⟩
  ·rw [nth_set_ne e,nth_eq,List.getElem?_map] at hx
   obtain⟨y,hy,hy2⟩:=Option.map_eq_some_iff.1 hx
   exact .inr ⟨fun e'=>e e'.symm,y,by rw [nth_eq];exact hy,hy2.symm⟩
 have hal:∀ y:OB,alive (ubO i sz l.length c y)=alive y:=fun y=>by cases y<;>rfl
 have hloc:∀ {j:Nat} {M:Loc},nth (ids.set i (Loc.at_ g)) j=some M→(j=i∧M=Loc.at_ g)∨(j≠i∧nth ids j=some M):=fun {j M} hM=>by
  by_cases e:i=j
  ·subst e
   rw [nth_set_self hlt] at hM
   exact .inl ⟨rfl,(Option.some.inj hM).symm⟩
  ·rw [nth_set_ne e] at hM;exact .inr ⟨fun e'=>e e'.symm,hM⟩
 have old:∀ {j:Nat} {x:OB} {M:Loc} {b:Nat},nth ((own.map (ubO i sz l.length c)).set i (.blk l.flatten)) j=some x→alive x=true→nth (ids.set i (Loc.at_ g)) j=some M→M.blk=some b→∃ y M',nth own j=some y∧alive y=true∧nth ids j=some M'∧M'.blk=some b:=fun {j x M b} hx ax hM hb=>by
  rcases key hx with ⟨rfl,rfl⟩|⟨hj,y,hy,rfl⟩
  ·rcases hloc hM with ⟨_,rfl⟩|⟨h',_⟩
   ·exact⟨_,L,hi,rfl,hL,hLb.trans (show some g=some b from hb)⟩
   ·exact absurd rfl h'
  ·rcases hloc hM with ⟨h',_⟩|⟨_,hM⟩
   ·exact absurd h' hj
   ·exact⟨y,M,hy,by rw [← hal];exact ax,hM,hb⟩
 exact {
  size:=h.size
  defers:=h.defers
  sl:=fun t v hv=>by
   obtain⟨V,g1,g2⟩:=h.sl t v (hx.look hv)
   have:noG2 i v=true:=by
    have mem:∀ {m:Tm},look m t=some v→m.all (fun p=>noG2 i p.2)=true→noG2 i v=true:=by
     intro m
     induction m with
     |nil=>intro hm;simp [look] at hm
     |cons p m ih =>
      obtain⟨t',v'⟩:=p
      intro hm ha
      simp only [List.all_cons,Bool.and_eq_true] at ha
      simp only [look] at hm
      cases e:Nat.beq t' t with
      |true=>rw [e] at hm;simp only [cond_true,Option.some.injEq] at hm;subst hm;exact ha.1
      |false=>rw [e] at hm;exact ih hm ha.2
    exact mem hv hxn
   exact⟨V,g1,g2.noG hL hLf this⟩
  len:=by simp [h.len]
  live:=fun j x M hx hM=>by
   rcases key hx with ⟨rfl,rfl⟩|⟨hj,y,hy,rfl⟩
   ·rcases hloc hM with ⟨_,rfl⟩|⟨h',_⟩
    ·refine⟨g,vs,rfl,(PL_iff.1 h3).imp fun _ _ h=>P1_R1 h,?_,?_,(Array.getElem?_eq_some_iff.1 q2).1⟩
     ·intro j v hv
      rw [← q6] at hv
      have hv2:cur[j]?=some v:=by
       rw [List.getElem?_take] at hv
       split at hv
       ·simpa using hv
       ·cases hv
      simp [World.cell?,q2,hv2]
     ·intro j hj
      simp [World.frozen?,q2]
    ·exact absurd rfl h'
   ·rcases hloc hM with ⟨h',_⟩|⟨_,hM⟩
    ·exact absurd h' hj
    ·have hlv:=h.live j y M hy hM
     cases y with
     |blk cs =>
      obtain⟨b,ws,e,p1,p2⟩:=hlv
      have hc:ubOkO i l.length (.blk cs)=true:=List.all_eq_true.1 hok (.blk cs) (by rw [nth_eq] at hy;exact List.mem_of_getElem? hy)
      exact⟨b,ws,e,R1L.ub hL hLf hLn hLv hc p1,p2⟩
     |_=>exact hlv
  dist:=fun j k x y M M' b hx hy ax ay hM hM' e e'=>by
   obtain⟨x',X,p1,p2,p3,p4⟩:=old hx ax hM e
   obtain⟨y',Z,r1,r2,r3,r4⟩:=old hy ay hM' e'
   exact h.dist j k x' y' X Z b p1 r1 p2 r2 p3 r3 p4 r4
  noS:=fun j x M b hx ax hM e=>by
   obtain⟨x',X,p1,p2,p3,p4⟩:=old hx ax hM e
   exact h.noS j x' X b p1 p2 p3 p4
  pre:=⟨fun j b hj=>by
    have:=h.pre.fix j b hj
    have hne:i≠j:=fun e=>by subst e;have:=nth_lt hj;omega
    rw [nth_set_ne hne];exact this,fun j M hj hf=>by
    obtain⟨L',p1,p2⟩:=h.pre.gro j M hj hf
    have hne:i≠j:=fun e=>by subst e;have:=nth_lt hj;omega
    exact⟨L',by rw [nth_set_ne hne];exact p1,p2⟩⟩
  slt:=h.slt
  sold:=h.sold
  snew:=h.snew
  fr:=h.fr }
theorem CallS.unbuf{P:Program}{N:Nat}{E:En}{o:Oper}{f:Nat}{K:Tm→Ow→Prop}{tm:Tm}{own:Ow}(i:Nat){e sz m:Nat}{l:List (List AV)}(Fx:Tm)(own':Nat→Ow)(hi:nth own i=some (.buf e sz l))(hl:0<l.length)(hm:m=l.length)(hg:E.gs.length≤i)(hok:own.all (ubOkO i m)=true)(hx:Sub Fx tm)(hxn:Fx.all (fun p=>noG2 i p.2)=true)
  (hO:∀ c,own' c=(own.map (ubO i sz m c)).set i (.blk l.flatten)) (h:∀ c,m≤c→c≤maxLen→CallN P N E f [.sl i 0 sz m c] o.dst K Fx (own' c)):CallS P N E o f [.gro i m] K tm own:=by
 subst hm
 refine .call ⟨fun S ids a n hs Vs hV=>?_⟩
 obtain⟨L,g,c,q1,q2,q3,q4,q5,q6,q7⟩:=hs.unbuf hi hl hg hok hx hxn
 rw [← hO] at q7
 refine(h c q5 q6).out S _ a n q7 Vs ?_
 match Vs,hV with
 |[V],⟨⟨L',p1,p2,p3,p4,p5⟩,_⟩ =>
  rw [q1] at p1;obtain rfl:=Option.some.inj p1
  exact⟨⟨g,nth_set_self (nth_lt q1),(p5 q3).trans q4⟩,trivial⟩
theorem wpAny_draw0E{P:Program}{N:Nat}{E:En}{all:List Oper}{ks:List Nat}{tm tm':Tm}{own:Ow}{vs:List AV}{Q:Exit→Act→World→Prop}(hks:∀ k∈ks,k<all.length)(kc:List Nat)(hTr:Tr (OneOk P all own) N all (opsK all ks) tm vs tm')
  (hend:∀ J,J∈subl (ks.filter fun k=>!kc.contains k)→∀ S ids a n,Sim N E (dropT (dstK all J) tm') own S ids a n→wpAny P .any all.toArray Q (J.length+(all.length-ks.length)) (listedK all.length (lateK ks J)) a n) {f:Nat}
  (listed:Array Bool) (a:Act) (n:World) (hinv:DInv N E all ks tm own vs listed a n) (hf:(ks.filter fun j=>!listed.getD j false).length=f) (hdone:∀ j∈kc,listed.getD j false=true):wpAny P .any all.toArray Q (f+(all.length-ks.length)) listed a n:=by
 have hJ:(ks.filter fun j=>!listed.getD j false)∈subl (ks.filter fun k=>!kc.contains k):=by
  have e:(ks.filter fun j=>!listed.getD j false)=(ks.filter fun k=>!kc.contains k).filter fun j=>!listed.getD j false:=by
   rw [List.filter_filter]
   refine List.filter_congr fun j hj=>?_
   cases e1:listed.getD j false with
   |true=>simp
   |false =>
    have:¬ j∈kc:=fun h=>by rw [hdone j h] at e1;cases e1
    simp [this]
  rw [e]
  exact filter_subl _ _
 have hl:listed=listedK all.length (lateK ks (ks.filter fun j=>!listed.getD j false)):=by
  apply Array.ext
  ·rw [hinv.hi.size];simp [listedK]
  ·intro j h1 h2
   have e1:listed.getD j false=listed[j]:=by simp [Array.getD,h1]
   have e2:(listedK all.length (lateK ks (ks.filter fun j=>!listed.getD j false)))[j]=(lateK ks (ks.filter fun j=>!listed.getD j false)).contains j:=by simp [listedK]
   rw [e2,← e1,Bool.eq_iff_iff]
   simp only [lateK,List.contains_iff_mem,List.mem_filter,Bool.not_eq_eq_eq_not,Bool.not_true,List.contains_eq_mem,decide_eq_false_iff_not,not_and,decide_eq_true_eq]
   refine⟨fun h=>?_,fun ⟨h1,h2⟩=>?_⟩
   ·have hj:j∈ks:=by
     by_cases hj:j∈ks
     ·exact hj
     ·rw [hinv.out j hj] at h;cases h
    exact⟨hj,fun _=>by rw [h];simp⟩
   ·have:=h2 h1
    simpa using this
 have h:=hend _ hJ
 rw [← hl,hf] at h
 obtain⟨S,ids,h1,h2,h3⟩:=hinv.st
 refine h S ids a n (h1.with fun t v hv=>?_)
 obtain⟨g1,g2⟩:=look_dropT hv
 rcases hTr.end_ t v g2 with ⟨p,oj,q1,q2,q3,q4,_⟩|⟨q1,q2⟩
 ·obtain⟨k,k1,k2⟩:=(opsK_get hks).1 q2
  refine h3 p k oj t v k1 ?_ k2 q3 q4
  cases e:listed.getD k false with
  |true=>rfl
  |false=>exact absurd (mem_dstK (List.mem_filter.2 ⟨List.mem_of_getElem? k1,by rw [e];rfl⟩) k2 q3) g1
 ·exact h2 t v q1 fun j oj hj hoj=>by
   obtain⟨p,hp,e⟩:=List.getElem_of_mem hj
   exact q2 p oj ((opsK_get hks).2 ⟨j,by simp [hp,e],hoj⟩)
theorem wpAny_draw0L{P:Program}{N:Nat}{E:En}{all:List Oper}{ks:List Nat}{tm tm':Tm}{own:Ow}{vs:List AV}{Q:Exit→Act→World→Prop}(hks:∀ k∈ks,k<all.length)(hnd:ks.Nodup)
  (kc:List Nat) (hkc:∀ k∈kc,k∈ks) (hup:upKc all ks kc=true) (huse:useB all ks=true) (hback:backB all ks=true) (hdist:distB all ks=true) (hTr:Tr (OneOk P all own) N all (opsK all ks) tm vs tm')
  (hend:∀ J,J∈subl (ks.filter fun k=>!kc.contains k)→∀ S ids a n,Sim N E (dropT (dstK all J) tm') own S ids a n→wpAny P .any all.toArray Q (J.length+(all.length-ks.length)) (listedK all.length (lateK ks J)) a n) :
  ∀ (f:Nat) (listed:Array Bool) (a:Act) (n:World),DInv N E all ks tm own vs listed a n→(ks.filter fun j=>!listed.getD j false).length=f→wpAny P .any all.toArray Q (f+(all.length-ks.length)) listed a n
 |0,listed,a,n,hinv,hf=>wpAny_draw0E hks kc hTr hend listed a n hinv hf (fun j hj=>by
   have:=List.length_eq_zero_iff.1 hf
   rw [List.filter_eq_nil_iff] at this
   simpa using this j (hkc j hj))
 |f+1,listed,a,n,hinv,hf=>by
  by_cases hdone:∀ j∈kc,listed.getD j false=true
  ·exact wpAny_draw0E hks kc hTr hend listed a n hinv hf hdone
  rw [show f+1+(all.length-ks.length)=(f+(all.length-ks.length))+1 by omega]
  obtain⟨i0,hi0,hu0⟩:∃ i,i∈kc∧listed.getD i false=false:=by
   by_cases hex:∃ i,i∈kc∧listed.getD i false=false
   ·exact hex
   ·refine absurd (fun j hj=>?_) hdone
    cases e:listed.getD j false with
    |true=>rfl
    |false=>exact absurd ⟨j,hj,e⟩ hex
  have hsz:=hinv.hi.size
  have gD:∀ j,j<all.length→listed.getD j true=listed.getD j false:=fun j hj=>by simp [Array.getD,hsz,hj]
  have hready:∀ m,m≤ks.length→(∃ i,i∈ks.take m∧listed.getD i false=false)→∃ i,i∈Region.ready .any all.toArray listed:=by
   intro m
   induction m with
   |zero=>rintro _ ⟨i,hi,_⟩;simp at hi
   |succ m ih =>
    intro hm ⟨i,hi,hui⟩
    by_cases hex:∃ i,i∈ks.take m∧listed.getD i false=false
    ·exact ih (by omega) hex
    ·have him:ks[m]?=some i:=by
      rw [List.take_add_one] at hi
      rcases List.mem_append.1 hi with h|h
      ·exact absurd ⟨i,h,hui⟩ hex
      ·cases e:ks[m]? with
       |none=>rw [e] at h;simp at h
       |some q=>rw [e] at h;simp at h;rw [h]
     have hil:i<all.length:=hks i (List.mem_of_getElem? him)
     refine⟨i,mem_ready.2 ⟨by rw [gD i hil];exact hui,all[i],by simp [hil],fun e he hb=>?_⟩⟩
     have hlt:=backB_spec hback him (List.getElem?_eq_getElem hil) e he hb
     cases hg:listed.getD e.on false with
     |true=>rfl
     |false=>exact absurd ⟨e.on,hlt,hg⟩ hex
  refine⟨fun h0=>?_,fun i hi=>?_⟩
  ·obtain⟨i,hi⟩:=hready ks.length (Nat.le_refl _) ⟨i0,by rw [List.take_length];exact hkc i0 hi0,hu0⟩
   rw [h0] at hi;cases hi
  ·have hih:i∈ks:=upKc_wait hup hinv.hi hi0 hu0 hi
   obtain⟨p,hp,ep⟩:=List.getElem_of_mem hih
   have hip:ks[p]?=some i:=by simp [hp,ep]
   obtain⟨hun,o,ho',hdeps⟩:=mem_ready.1 hi
   have hil:i<all.length:=hks i hih
   have ho:all[i]?=some o:=by simpa using ho'
   have hun':listed.getD i false=false:=by rw [← gD i hil];exact hun
   obtain⟨hvl,hTa⟩:=hTr.at_
   obtain⟨v,d,tmi,g1,g2,g3,g4,g5⟩:=hTa p o ((opsK_get hks).2 ⟨i,hip,ho⟩)
   obtain⟨S,ids,h1,h2,h3⟩:=hinv.st
   have hsim:Sim N E (rst tmi (useTs all o)) own S ids a n:=h1.with fun t u hu=>by
    obtain⟨q1,q2⟩:=rst_look hu
    rcases g5 t u q2 with ⟨q,oj,p1,p2,p3,p4,_⟩|⟨p1,p2⟩
    ·obtain⟨j,k1,k2⟩:=(opsK_get hks).1 p2
     obtain⟨r1,r2⟩:=useB_spec huse hip ho q1 k2 p3
     exact h3 q j oj t u k1 (up_ready hinv.hi r2 hi) k2 p3 p4
    ·refine h2 t u p1 fun j oj hj hoj e=>?_
     obtain⟨r1,r2⟩:=useB_spec huse hip ho q1 hoj e
     obtain⟨q,hq,eq⟩:=List.getElem_of_mem r1
     rw [List.getElem_take] at eq
     have hql:q<p:=by simp at hq;omega
     exact p2 q oj hql ((opsK_get hks).2 ⟨j,by rw [← eq];exact List.getElem?_eq_getElem (by omega),hoj⟩) e
   have hlist:∀ j,(listed.setIfInBounds i true).getD j false=if j=i then true else listed.getD j false:=fun j=>by
    by_cases e:j=i
    ·subst e;simp [Array.getD,hsz,hil]
    ·rw [getD_set_ne false (fun e'=>e e'.symm),if_neg e]
   have hcount:(ks.filter fun j=>!(listed.setIfInBounds i true).getD j false).length=f:=by
    have e1:(ks.filter fun j=>!(listed.setIfInBounds i true).getD j false)=(ks.filter fun j=>!listed.getD j false).erase i:=by
     rw [List.Nodup.erase_eq_filter (hnd.filter _),List.filter_filter]
     refine List.filter_congr fun j _=>?_
     rw [hlist]
     by_cases e:j=i
     ·subst e;simp
     ·simp [e]
    rw [e1,List.length_erase_of_mem (List.mem_filter.2 ⟨hih,by rw [hun'];rfl⟩),hf];rfl
   have hnext:∀ V S' n',R S' n' ids v V→Past n n'→(∀ b,S b→S' b)→(∀ b,S' b→b<n.heap.size→S b)→(∀ b,S' b→b<n'.heap.size)→DInv N E all ks tm own vs (listed.setIfInBounds i true) (a.put (some d) V) n':=fun V S' n' hV hp k1 k2 k3=>by
    have hkp:Kp S S' n n':=⟨hp.size,k1,fun b hb _=>hp.block b hb⟩
    have hget:∀ t,t≠d→(a.put (some d) V).tmps[t]?=a.tmps[t]?:=fun t ht=>by
     simp only [Act.put];rw [Array.getElem?_setIfInBounds_ne (fun e=>ht e.symm)]
    refine⟨hinv.hi.set hi,fun j hj=>by rw [hlist,if_neg ((fun e=>hj (by rw [e];exact hih)))];exact hinv.out j hj,S',ids,?_,fun t u hu hno=>?_,fun q j oj d' u hj hl hoj hd' hu=>?_⟩
    ·have h4:=(h1.grow hp k1 k2 k3)
     exact { h4 with size:=by simp [Act.put,h4.size],defers:=h4.defers,sl:=fun t v hv=>by simp [look] at hv }
    ·obtain⟨U,q1,q2⟩:=h2 t u hu hno
     have hne:t≠d:=fun e=>hno i o hih ho (by rw [g2,e])
     exact⟨U,by rw [hget t hne];exact q1,q2.kp hkp⟩
    ·rw [hlist] at hl
     by_cases e:j=i
     ·subst e
      have hqp:q=p:=(List.getElem?_inj (List.getElem?_eq_some_iff.1 hj).1 hnd).1 (hj.trans hip.symm)
      subst hqp
      obtain rfl:o=oj:=Option.some.inj (ho.symm.trans hoj)
      obtain rfl:d=d':=Option.some.inj (g2.symm.trans hd')
      obtain rfl:v=u:=Option.some.inj (g1.symm.trans hu)
      exact⟨V,by simp [Act.put,h1.size,g3],hV⟩
     ·rw [if_neg e] at hl
      obtain⟨U,q1,q2⟩:=h3 q j oj d' u hj hl hoj hd' hu
      have hne:d'≠d:=fun e'=>e (distB_spec hdist (List.mem_of_getElem? hj) hih hoj ho (by rw [hd',e']) g2)
      exact⟨U,by rw [hget d' hne];exact q1,q2.kp hkp⟩
   unfold wpOp
   simp only [ho']
   rcases g4 N E S ids a n hsim with ⟨w1,w2⟩|⟨w1,w2⟩
   ·rw [if_pos w1]
    refine .inl (Oper.wp_mono (fun a' n' ⟨V,S',e,k0,k1,k2,k3,k4⟩=>?_) (w2 Q))
    subst e
    rw [g2]
    exact wpAny_draw0L hks hnd kc hkc hup huse hback hdist hTr hend f _ _ _ (hnext V S' n' k0 k1 k2 k3 k4) hcount
   ·rw [if_neg (by rw [w1];simp)]
    subst w2
    rw [g2]
    exact wpAny_draw0L hks hnd kc hkc hup huse hback hdist hTr hend f _ _ _ (hnext undef S n rfl (Below.refl _ _) (fun _ h=>h) (fun _ h _=>h) h1.slt) hcount
def draw0B(all:List Oper)(ks kc:List Nat):Bool :=
 Region.noSelect all.toArray&&ks.all (fun k=>decide (k<all.length))&&nodupB ks&&(opsK all ks).all (fun o=>o.dst.isSome)&&upKc all ks kc&&useB all ks&&backB all ks&&distB all ks&&(subl (ks.filter fun k=>!kc.contains k)).all (fun J=>tailB .any all.toArray (J++restK all.length ks) (listedK all.length (lateK ks J)))&&kc.all (fun k=>ks.contains k)
theorem Drw.lateM{T:Tab}{P:Program}(hT:TabOk P T){N:Nat}{E:En}{id:Nat}{l:List Oper}{K:Exit→Tm→Ow→Prop}{tm:Tm}{own:Ow}(ks kc:List Nat)(Js:List (List Nat))(rest:List Nat)(hJs:subl (ks.filter fun k=>!kc.contains k)=Js)(hR:restK l.length ks=rest)(hB:draw0B l ks kc=true)
  (hk:opsC l ks fun lo=>WD T P N l own lo (fun tm=>allM Js fun J=>opsC l (J++rest) fun lo=>dropJ l J tm fun tm=>WO T P N E l lo (K .normal) tm own) tm):Drw T P N E (.region id ⟨l⟩ true) l K tm own:=by
 refine .sem ⟨fun S ids a n hs Q hQ hpan=>?_⟩
 simp only [draw0B,Bool.and_eq_true] at hB
 obtain⟨⟨⟨⟨⟨⟨⟨⟨⟨b1,b2⟩,b2'⟩,b3⟩,b4⟩,b5⟩,b6⟩,b7⟩,b8⟩,b9⟩:=hB
 have hks:∀ k∈ks,k<l.length:=fun k hk=>by simpa using List.all_eq_true.1 b2 k hk
 have hnd:=nodupB_spec b2'
 obtain⟨vs,tm',h1,h2⟩:=WD_tr hT (fun o ho=>List.all_eq_true.1 b3 o ho) (opsC_out hk)
 refine wp_region_any hT.mixed ?_
 have hp:Past n { n with drawn:=n.drawn+1 }:=Past.draw n
 have hs':=hs.past hp
 have hf:(ks.filter fun j=>!(Array.replicate l.length false).getD j false).length=ks.length:=by
  rw [List.filter_eq_self.2 (fun j hj=>by simp [Array.getD])]
 have hrl:=restK_len l.length ks hks hnd
 have:=wpAny_draw0L (P:=P) (N:=N) (E:=E) (all:=l) (ks:=ks) (Q:=Q) hks hnd kc (fun k hk=>by simpa using List.all_eq_true.1 b9 k hk) b4 b5 b6 b7 h1 (fun J hJ S ids a n hs=>by
   have hJk:∀ j∈J,j<l.length:=fun j hj=>hks j (List.mem_filter.1 (subl_mem hJ j hj)).1
   have h3:=allM_mem h2 J (hJs ▸ hJ)
   have h4:=opsC_out h3
   have h5:=dropJ_iff (K:=fun tm=>WO T P N E l (opsK l (J++rest)) (K .normal) tm own) h4
   rw [← hR] at h5
   have:=wpAny_of_tail (P:=P) (md:=.any) (Q:=Q) (ops:=l.toArray) b1 hpan (opsK l (J++restK l.length ks)) (J++restK l.length ks) (listedK l.length (lateK ks J)) a n (by
    rw [List.map_append,restK_map]
    unfold opsK
    rw [List.map_append,List.map_append]
    congr 1
    rw [List.map_map]
    refine List.map_congr_left fun k hk=>?_
    have:=hJk k hk
    simp [List.getD,this]) (List.all_eq_true.1 b8 J hJ) (WO_sound hT h5 (fun a n h=>hQ _ _ _ h) hs)
   have e:(opsK l (J++restK l.length ks)).length=J.length+(l.length-ks.length):=by unfold opsK;rw [List.length_map,List.length_append,hrl]
   rw [e] at this
   exact this) ks.length (Array.replicate l.length false) a _ ⟨⟨by simp,fun j oj _ hl=>by simp [Array.getD] at hl⟩,fun j hj=>by simp [Array.getD],S,ids,hs'.nil,fun t v hv _=>hs'.sl t v hv,fun p j oj d v _ hl=>by simp [Array.getD] at hl⟩ hf
 have hle:ks.length≤l.length:=by
  have:=hnd.length_le_of_subset (l₂:=List.range l.length) (fun k hk=>List.mem_range.2 (hks k hk))
  simpa using this
 rw [show ks.length+(l.length-ks.length)=l.length by omega] at this
 simpa using this
def YOk(P:Program)(o:Oper)(tmr:Tm)(v:AV):Prop:=∀ S n ids a,Sl S n ids tmr a→∃ V,R S n ids v V∧∀ w,(execOp a.eval o).run P w=.ok (.value V) w
def GL(P:Program)(all:List Oper)(own:Ow)(late:List Oper)(o:Oper)(tmr:Tm)(v:AV):Prop:=OneOk P all own o tmr v∧(o∈late→YOk P o tmr v)
def stepP(T:Tab)(tm:Tm)(o:Oper)(K:AV→Prop):Prop :=
 match o.op with
 |.move x=>ev tm x K
 |.assign x=>ev tm x K
 |.binOp op _ x y _=>ev tm x fun
  |.int .i64 a=>ev tm y fun
   |.int .i64 b=>match op with
    |.add=>Ob (W.I64 (a+b)) (K (.int .i64 (a+b)))
    |.sub=>Ob (W.I64 (a-b)) (K (.int .i64 (a-b)))
    |_=>False
   |_=>False
  |_=>False
 |.indexAddr t x ix=>ev tm x fun
  |.sl i off sz n c=>match (look T.sl t).bind (look T.tk) with
   |some k=>ev tm ix fun
    |.int _ j=>Ix j fun j=>Ob (j<n) (bif Nat.beq sz (szOf k) then Pc i (off+j*sz) K else False)
    |_=>False
   |none=>False
  |_=>False
 |_=>False
theorem YOk.of{P:Program}{o:Oper}{tm:Tm}{v:AV}{K:AV→Prop}(hv:K v)(h:YOk P o tm v):∃ v,K v∧YOk P o tm v:=⟨v,hv,h⟩
theorem stepP_sound{P:Program}{T:Tab}(hT:TabOk P T){o:Oper}{K:AV→Prop}{tm:Tm}(h:stepP T tm o K):∃ v,K v∧YOk P o tm v:=by
 unfold stepP at h
 split at h
 ·rename_i x ho
  obtain⟨v,h1,h2⟩:=ev_sound h
  exact YOk.of h1 fun S n ids a hs=>⟨_,h2 S n ids a hs,fun w=>by unfold execOp;simp only [ho];rfl⟩
 ·rename_i x ho
  obtain⟨v,h1,h2⟩:=ev_sound h
  exact YOk.of h1 fun S n ids a hs=>⟨_,h2 S n ids a hs,fun w=>by unfold execOp;simp only [ho];rfl⟩
 ·rename_i op t x y t' ho
  obtain⟨u,h1,h2⟩:=ev_sound h
  split at h1
  ·rename_i p
   obtain⟨u',h3,h4⟩:=ev_sound h1
   split at h3
   ·rename_i q
    split at h3
    ·refine YOk.of h3.k fun S n ids a hs=>⟨_,rfl,fun w=>?_⟩
     refine execOp_bin ho a ?_
     rw [(h2 S n ids a hs).int,(h4 S n ids a hs).int,Sem.run_bind,guard_int]
     simp [Go.binOp,Op.intArith,wrap_i64 h3.p]
    ·refine YOk.of h3.k fun S n ids a hs=>⟨_,rfl,fun w=>?_⟩
     refine execOp_bin ho a ?_
     rw [(h2 S n ids a hs).int,(h4 S n ids a hs).int,Sem.run_bind,guard_int]
     simp [Go.binOp,Op.intArith,wrap_i64 h3.p]
    ·exact h3.elim
   ·exact h3.elim
  ·exact h1.elim
 ·rename_i t x ix ho
  obtain⟨v,h1,h2⟩:=ev_sound h
  split at h1
  ·rename_i i off sz m c
   split at h1
   ·rename_i k hk
    obtain⟨e,hk1,hk2⟩:=lookB hk
    obtain⟨u,h3,h4⟩:=ev_sound h1
    split at h3
    ·rename_i ik j
     obtain⟨j,rfl,h5,h6⟩:=h3.out
     cases hsz:Nat.beq sz (szOf k) with
     |false=>rw [hsz] at h6;exact absurd h6 (by simp)
     |true =>
      rw [hsz] at h6
      obtain rfl:=Nat.eq_of_beq_eq_true hsz
      simp only [cond_true] at h6
      have key:∀ S n ids a,Sl S n ids tm a→∃ b,nth ids i=some (Loc.at_ b)∧∀ w,(execOp a.eval o).run P w=.ok (.value (.pointer (some ⟨b,off+j*szOf k,none⟩))) w:=fun S n ids a hs=>by
       obtain⟨b,g1,g2⟩:=(h2 S n ids a hs).sl
       exact⟨b,g1,fun w=>by unfold execOp;simp only [ho,g2,(h4 S n ids a hs).int,Sem.run_bind,run_indexAt_sl hT hk1 hk2 h5];rfl⟩
      rcases h6.out with h6|h6
      ·exact YOk.of h6 fun S n ids a hs=>by obtain⟨b,g1,g2⟩:=key S n ids a hs;exact⟨_,⟨b,g1,rfl⟩,g2⟩
      ·exact YOk.of h6 fun S n ids a hs=>by obtain⟨b,g1,g2⟩:=key S n ids a hs;exact⟨_,⟨b,g1,rfl⟩,g2⟩
    ·cases h3
   ·cases h1
  ·cases h1
 ·exact h.elim
def WP(T:Tab)(N:Nat)(all:List Oper):List Oper→(Tm→Prop)→Tm→Prop
 |[],K,tm=>K tm
 |o::l,K,tm=>stepP T (rst tm (useTs all o)) o fun v=>put N tm o.dst v fun tm=>WP T N all l K tm
theorem YOk.one{P:Program}{all:List Oper}{own:Ow}{o:Oper}{tmr:Tm}{v:AV}(h:YOk P o tmr v)(hg:o.guard=none):OneOk P all own o tmr v:=fun N E S ids a n hs=>by
 obtain⟨V,h1,h2⟩:=h S n ids a hs.sl
 refine .inl ⟨by simp [Region.wanted,hg],fun Q=>?_⟩
 unfold Oper.wp
 rw [h2]
 exact⟨V,S,rfl,h1,Below.refl _ _,fun _ h=>h,fun _ h _=>h,hs.slt⟩
theorem WP_tr{P:Program}{T:Tab}(hT:TabOk P T){N:Nat}{all:List Oper}{own:Ow}{late:List Oper}:∀ {l:List Oper} {K:Tm→Prop} {tm:Tm},(∀ o∈l,o.dst.isSome=true∧o.guard=none)→WP T N all l K tm→∃ vs tm',Tr (GL P all own late) N all l tm vs tm'∧K tm'
 |[],K,tm,_,h=>⟨[],tm,⟨rfl,rfl⟩,h⟩
 |o::l,K,tm,hd,h=>by
  simp only [WP] at h
  obtain⟨hd1,hd2⟩:=hd o List.mem_cons_self
  obtain⟨d,hod⟩:=Option.isSome_iff_exists.1 hd1
  obtain⟨v,h3,h4⟩:=stepP_sound hT h
  rw [hod] at h3
  simp only [put] at h3
  cases e:Nat.ble (d+1) N with
  |false=>rw [e] at h3;exact absurd h3 (by simp)
  |true =>
   rw [e] at h3
   simp only [cond_true,fc_iff] at h3
   obtain⟨vs,tm',h1,h2⟩:=WP_tr hT (fun x hx=>hd x (List.mem_cons_of_mem _ hx)) h3
   exact⟨v::vs,tm',⟨v,vs,d,rfl,hod,nLe e,⟨h4.one hd2,fun _=>h4⟩,h1⟩,h2⟩
theorem Tr.imp{G G':Oper→Tm→AV→Prop}{N:Nat}{all:List Oper}:∀ {l:List Oper} {tm:Tm} {vs:List AV} {tm':Tm},(∀ o∈l,∀ tmr v,G o tmr v→G' o tmr v)→Tr G N all l tm vs tm'→Tr G' N all l tm vs tm'
 |[],_,_,_,_,h=>h
 |o::l,_,_,_,hi,⟨v,r,d,e,h1,h2,h3,h4⟩=>⟨v,r,d,e,h1,h2,hi o List.mem_cons_self _ _ h3,h4.imp fun o ho=>hi o (List.mem_cons_of_mem _ ho)⟩
theorem Tr.append{G:Oper→Tm→AV→Prop}{N:Nat}{all:List Oper}:∀ {l:List Oper} {tm:Tm} {vs:List AV} {tm1:Tm} {l':List Oper} {vs':List AV} {tm':Tm},Tr G N all l tm vs tm1→Tr G N all l' tm1 vs' tm'→Tr G N all (l++l') tm (vs++vs') tm'
 |[],_,_,_,_,_,_,⟨e1,e2⟩,h=>by subst e1;subst e2;exact h
 |o::l,_,_,_,_,_,_,⟨v,r,d,e,h1,h2,h3,h4⟩,h=>by subst e;exact⟨v,r++_,d,rfl,h1,h2,h3,h4.append h⟩
def useL(all:List Oper)(ks:List Nat):Bool :=
 (List.range ks.length).all fun p=>match all[ks.getD p 0]? with
  |some o=>(useTs all o).all fun t=>(List.range all.length).all fun j=>match all[j]? with
   |some oj=>!(oj.dst==some t) || !(ks.contains j)||((ks.take p).contains j&&up2 all (ks.getD p 0) j)
   |none=>true
  |none=>false
theorem useL_spec{all:List Oper}{ks:List Nat}(hu:useL all ks=true){p i:Nat}{o:Oper}(hi:ks[p]?=some i)(ho:all[i]?=some o){t:Nat}(ht:t∈useTs all o){j:Nat}{oj:Oper}(hj:all[j]?=some oj)(hd:oj.dst=some t)(hm:j∈ks):j∈ks.take p∧upB .any all.toArray all.length i j=true:=by
 have hg:ks.getD p 0=i:=by simp [List.getD,hi]
 have h1:=List.all_eq_true.1 hu p (List.mem_range.2 (List.getElem?_eq_some_iff.1 hi).1)
 simp only [hg,ho] at h1
 have h2:=List.all_eq_true.1 h1 t ht
 have h3:=List.all_eq_true.1 h2 j (List.mem_range.2 (List.getElem?_eq_some_iff.1 hj).1)
 simp only [hj,hd] at h3
 have h4:(ks.take p).contains j=true∧up2 all i j=true:=by simpa [hm] using h3
 exact⟨by simpa using h4.1,up2_up h4.2⟩
theorem wpAny_lateZ{P:Program}{N:Nat}{E:En}{all:List Oper}{ks:List Nat}{tm tm':Tm}{own:Ow}{late:List Oper}{vs:List AV}{Q:Exit→Act→World→Prop}(hks:∀ k∈ks,k<all.length)(hnd:ks.Nodup)
  (kc:List Nat) (hsel:Region.noSelect all.toArray=true) (hpan:∀ c a d v w,Q (.panic c) (a.put (some d) v) w→Q (.panic c) a w) (huse:useL all ks=true) (hback:backB all ks=true) (hdist:distB all ks=true) (hTr:Tr (GL P all own late) N all (opsK all ks) tm vs tm')
  (hlate:∀ k∈ks,¬ k∈kc→∀ o,all[k]?=some o→o.guard=none∧o∈late)
  (hfree:∀ J,J∈subl (ks.filter fun k=>!kc.contains k)→∀ i r,J=i::r→Region.free .any all.toArray (listedK all.length (lateK ks J)) i=true)
  (hend:∀ S ids a n,Sim N E tm' own S ids a n→wpAny P .any all.toArray Q (all.length-ks.length) (listedK all.length ks) a n) :
  ∀ (f:Nat) (listed:Array Bool) (a:Act) (n:World),DInv N E all ks tm own vs listed a n→(ks.filter fun j=>!listed.getD j false).length=f→(∀ j∈kc,listed.getD j false=true)→wpAny P .any all.toArray Q (f+(all.length-ks.length)) listed a n
 |0,listed,a,n,hinv,hf,hdone=>by
  have hall:∀ j,j∈ks→listed.getD j false=true:=fun j hj=>by
   have:=List.length_eq_zero_iff.1 hf
   rw [List.filter_eq_nil_iff] at this
   simpa using this j hj
  have hl:listed=listedK all.length ks:=by
   apply Array.ext
   ·rw [hinv.hi.size];simp [listedK]
   ·intro j h1 h2
    have e1:listed.getD j false=listed[j]:=by simp [Array.getD,h1]
    have e2:(listedK all.length ks)[j]=ks.contains j:=by simp [listedK]
    rw [e2,← e1]
    by_cases hj:j∈ks
    ·rw [hall j hj];simp [hj]
    ·rw [hinv.out j hj];simp [hj]
  subst hl
  rw [Nat.zero_add]
  obtain⟨S,ids,h1,h2,h3⟩:=hinv.st
  refine hend S ids a n (h1.with fun t v hv=>?_)
  rcases hTr.end_ t v hv with ⟨p,oj,q1,q2,q3,q4,_⟩|⟨q1,q2⟩
  ·obtain⟨k,k1,k2⟩:=(opsK_get hks).1 q2
   exact h3 p k oj t v k1 (hall k (List.mem_of_getElem? k1)) k2 q3 q4
  ·exact h2 t v q1 fun j oj hj hoj=>by
    obtain⟨p,hp,e⟩:=List.getElem_of_mem hj
    exact q2 p oj ((opsK_get hks).2 ⟨j,by simp [hp,e],hoj⟩)
 |f+1,listed,a,n,hinv,hf,hdone=>by
  rw [show f+1+(all.length-ks.length)=(f+(all.length-ks.length))+1 by omega]
  have hsz:=hinv.hi.size
  have gD:∀ j,j<all.length→listed.getD j true=listed.getD j false:=fun j hj=>by simp [Array.getD,hsz,hj]
  obtain⟨i,r,hJ⟩:∃ i r,(ks.filter fun j=>!listed.getD j false)=i::r:=by
   cases e:ks.filter fun j=>!listed.getD j false with
   |nil=>rw [e] at hf;simp at hf
   |cons i r=>exact⟨i,r,rfl⟩
  have hmem:i∈ks.filter fun j=>!listed.getD j false:=by rw [hJ];exact List.mem_cons_self
  have hih:i∈ks:=(List.mem_filter.1 hmem).1
  have hun':listed.getD i false=false:=by simpa using (List.mem_filter.1 hmem).2
  have hikc:¬ i∈kc:=fun h=>by rw [hdone i h] at hun';cases hun'
  obtain⟨p,hp,ep⟩:=List.getElem_of_mem hih
  have hip:ks[p]?=some i:=by simp [hp,ep]
  have hil:i<all.length:=hks i hih
  have ho:all[i]?=some all[i]:=List.getElem?_eq_getElem hil
  generalize all[i]=o at ho
  have ho':all.toArray[i]?=some o:=by simpa using ho
  have hfirst:∀ j,j∈ks.take p→listed.getD j false=true:=fun j hj=>by
   cases e:listed.getD j false with
   |true=>rfl
   |false =>
    exfalso
    have hsplit:ks.filter (fun j=>!listed.getD j false)=(ks.take p).filter (fun j=>!listed.getD j false)++(ks.drop p).filter (fun j=>!listed.getD j false):=by rw [← List.filter_append,List.take_append_drop]
    have hne:(ks.take p).filter (fun j=>!listed.getD j false)≠[]:=fun e'=>by
     have:j∈(ks.take p).filter (fun j=>!listed.getD j false):=List.mem_filter.2 ⟨hj,by rw [e];rfl⟩
     rw [e'] at this;cases this
    obtain⟨x,l,hx⟩:=List.exists_cons_of_ne_nil hne
    rw [hJ,hx] at hsplit
    have hix:i=x:=(List.cons.inj hsplit).1
    have hxt:x∈ks.take p:=(List.mem_filter.1 (show x∈(ks.take p).filter (fun j=>!listed.getD j false) by rw [hx];exact List.mem_cons_self)).1
    rw [← hix] at hxt
    obtain⟨q,hq,eq⟩:=List.getElem_of_mem hxt
    rw [List.getElem_take] at eq
    have hql:q<p:=by simp at hq;omega
    have hq':ks[q]?=some i:=by rw [List.getElem?_eq_getElem (by omega),eq]
    have:=(List.getElem?_inj (by omega) hnd).1 (hq'.trans hip.symm)
    omega
  have hi:i∈Region.ready .any all.toArray listed:=mem_ready.2 ⟨by rw [gD i hil];exact hun',o,ho',fun e he hb=>hfirst _ (backB_spec hback hip ho e he hb)⟩
  have hsubl:(ks.filter fun j=>!listed.getD j false)∈subl (ks.filter fun k=>!kc.contains k):=by
   have e:(ks.filter fun j=>!listed.getD j false)=(ks.filter fun k=>!kc.contains k).filter fun j=>!listed.getD j false:=by
    rw [List.filter_filter]
    refine List.filter_congr fun j hj=>?_
    cases e1:listed.getD j false with
    |true=>simp
    |false =>
     have:¬ j∈kc:=fun h=>by rw [hdone j h] at e1;cases e1
     simp [this]
   rw [e]
   exact filter_subl _ _
  have hl:listed=listedK all.length (lateK ks (ks.filter fun j=>!listed.getD j false)):=by
   apply Array.ext
   ·rw [hinv.hi.size];simp [listedK]
   ·intro j h1 h2
    have e1:listed.getD j false=listed[j]:=by simp [Array.getD,h1]
    have e2:(listedK all.length (lateK ks (ks.filter fun j=>!listed.getD j false)))[j]=(lateK ks (ks.filter fun j=>!listed.getD j false)).contains j:=by simp [listedK]
    rw [e2,← e1,Bool.eq_iff_iff]
    simp only [lateK,List.contains_iff_mem,List.mem_filter,Bool.not_eq_eq_eq_not,Bool.not_true,List.contains_eq_mem,decide_eq_false_iff_not,not_and,decide_eq_true_eq]
    refine⟨fun h=>?_,fun ⟨h1,h2⟩=>?_⟩
    ·have hj:j∈ks:=by
      by_cases hj:j∈ks
      ·exact hj
      ·rw [hinv.out j hj] at h;cases h
     exact⟨hj,fun _=>by rw [h];simp⟩
    ·have:=h2 h1
     simpa using this
  have hfr:=hfree _ hsubl i r hJ
  rw [← hl] at hfr
  obtain⟨hgd,hol⟩:=hlate i hih hikc o ho
  obtain⟨hvl,hTa⟩:=hTr.at_
  obtain⟨v,d,tmi,g1,g2,g3,g4,g5⟩:=hTa p o ((opsK_get hks).2 ⟨i,hip,ho⟩)
  obtain⟨S,ids,h1,h2,h3⟩:=hinv.st
  have hsim:Sim N E (rst tmi (useTs all o)) own S ids a n:=h1.with fun t u hu=>by
   obtain⟨q1,q2⟩:=rst_look hu
   rcases g5 t u q2 with ⟨q,oj,p1,p2,p3,p4,_⟩|⟨p1,p2⟩
   ·obtain⟨j,k1,k2⟩:=(opsK_get hks).1 p2
    obtain⟨r1,r2⟩:=useL_spec huse hip ho q1 k2 p3 (List.mem_of_getElem? k1)
    exact h3 q j oj t u k1 (up_ready hinv.hi r2 hi) k2 p3 p4
   ·refine h2 t u p1 fun j oj hj hoj e=>?_
    obtain⟨r1,r2⟩:=useL_spec huse hip ho q1 hoj e hj
    obtain⟨q,hq,eq⟩:=List.getElem_of_mem r1
    rw [List.getElem_take] at eq
    have hql:q<p:=by simp at hq;omega
    exact p2 q oj hql ((opsK_get hks).2 ⟨j,by rw [← eq];exact List.getElem?_eq_getElem (by omega),hoj⟩) e
  have hlist:∀ j,(listed.setIfInBounds i true).getD j false=if j=i then true else listed.getD j false:=fun j=>by
   by_cases e:j=i
   ·subst e;simp [Array.getD,hsz,hil]
   ·rw [getD_set_ne false (fun e'=>e e'.symm),if_neg e]
  have hcount:(ks.filter fun j=>!(listed.setIfInBounds i true).getD j false).length=f:=by
   have e1:(ks.filter fun j=>!(listed.setIfInBounds i true).getD j false)=(ks.filter fun j=>!listed.getD j false).erase i:=by
    rw [List.Nodup.erase_eq_filter (hnd.filter _),List.filter_filter]
    refine List.filter_congr fun j _=>?_
    rw [hlist]
    by_cases e:j=i
    ·subst e;simp
    ·simp [e]
   rw [e1,List.length_erase_of_mem (List.mem_filter.2 ⟨hih,by rw [hun'];rfl⟩),hf];rfl
  have hnext:∀ V S' n',R S' n' ids v V→Past n n'→(∀ b,S b→S' b)→(∀ b,S' b→b<n.heap.size→S b)→(∀ b,S' b→b<n'.heap.size)→DInv N E all ks tm own vs (listed.setIfInBounds i true) (a.put (some d) V) n':=fun V S' n' hV hp k1 k2 k3=>by
   have hkp:Kp S S' n n':=⟨hp.size,k1,fun b hb _=>hp.block b hb⟩
   have hget:∀ t,t≠d→(a.put (some d) V).tmps[t]?=a.tmps[t]?:=fun t ht=>by
    simp only [Act.put];rw [Array.getElem?_setIfInBounds_ne (fun e=>ht e.symm)]
   refine⟨hinv.hi.set hi,fun j hj=>by rw [hlist,if_neg ((fun e=>hj (by rw [e];exact hih)))];exact hinv.out j hj,S',ids,?_,fun t u hu hno=>?_,fun q j oj d' u hj hl hoj hd' hu=>?_⟩
   ·have h4:=(h1.grow hp k1 k2 k3)
    exact { h4 with size:=by simp [Act.put,h4.size],defers:=h4.defers,sl:=fun t v hv=>by simp [look] at hv }
   ·obtain⟨U,q1,q2⟩:=h2 t u hu hno
    have hne:t≠d:=fun e=>hno i o hih ho (by rw [g2,e])
    exact⟨U,by rw [hget t hne];exact q1,q2.kp hkp⟩
   ·rw [hlist] at hl
    by_cases e:j=i
    ·subst e
     have hqp:q=p:=(List.getElem?_inj (List.getElem?_eq_some_iff.1 hj).1 hnd).1 (hj.trans hip.symm)
     subst hqp
     obtain rfl:o=oj:=Option.some.inj (ho.symm.trans hoj)
     obtain rfl:d=d':=Option.some.inj (g2.symm.trans hd')
     obtain rfl:v=u:=Option.some.inj (g1.symm.trans hu)
     exact⟨V,by simp [Act.put,h1.size,g3],hV⟩
    ·rw [if_neg e] at hl
     obtain⟨U,q1,q2⟩:=h3 q j oj d' u hj hl hoj hd' hu
     have hne:d'≠d:=fun e'=>e (distB_spec hdist (List.mem_of_getElem? hj) hih hoj ho (by rw [hd',e']) g2)
     exact⟨U,by rw [hget d' hne];exact q1,q2.kp hkp⟩
  obtain⟨V,k0,k1⟩:=g4.2 hol S n ids a hsim.sl
  have hw:Region.wanted o (yielded all.toArray a.tmps)=true:=by simp [Region.wanted,hgd]
  have hfin:=wpAny_lateZ hks hnd kc hsel hpan huse hback hdist hTr hlate hfree hend f _ _ _ (hnext V S n k0 (Below.refl _ _) (fun _ h=>h) (fun _ h _=>h) h1.slt) hcount (fun j hj=>by rw [hlist];split;rfl;exact hdone j hj)
  exact wpAny_take (v:=V) ho' hsel hfr (by simpa using hi) (fun c a w hh=>hpan c a d V w (by rw [← g2];exact hh)) (.inl ⟨hw,k1⟩) (by rw [g2];exact hfin)
theorem wpAny_draw1Z{P:Program}{N:Nat}{E:En}{all:List Oper}{ks:List Nat}{tm tm':Tm}{own:Ow}{late:List Oper}{vs:List AV}{Q:Exit→Act→World→Prop}(hks:∀ k∈ks,k<all.length)(hnd:ks.Nodup)
  (kc:List Nat) (hkc:∀ k∈kc,k∈ks) (hup:upKc all ks kc=true) (huse:useL all ks=true) (hback:backB all ks=true) (hdist:distB all ks=true) (hTr:Tr (GL P all own late) N all (opsK all ks) tm vs tm')
  (hend:∀ (f:Nat) (listed:Array Bool) (a:Act) (n:World),DInv N E all ks tm own vs listed a n→(ks.filter fun j=>!listed.getD j false).length=f→(∀ j∈kc,listed.getD j false=true)→wpAny P .any all.toArray Q (f+(all.length-ks.length)) listed a n) :
  ∀ (f:Nat) (listed:Array Bool) (a:Act) (n:World),DInv N E all ks tm own vs listed a n→(ks.filter fun j=>!listed.getD j false).length=f→wpAny P .any all.toArray Q (f+(all.length-ks.length)) listed a n
 |0,listed,a,n,hinv,hf=>hend 0 listed a n hinv hf (fun j hj=>by
   have:=List.length_eq_zero_iff.1 hf
   rw [List.filter_eq_nil_iff] at this
   simpa using this j (hkc j hj))
 |f+1,listed,a,n,hinv,hf=>by
  by_cases hdone:∀ j∈kc,listed.getD j false=true
  ·exact hend (f+1) listed a n hinv hf hdone
  rw [show f+1+(all.length-ks.length)=(f+(all.length-ks.length))+1 by omega]
  obtain⟨i0,hi0,hu0⟩:∃ i,i∈kc∧listed.getD i false=false:=by
   by_cases hex:∃ i,i∈kc∧listed.getD i false=false
   ·exact hex
   ·refine absurd (fun j hj=>?_) hdone
    cases e:listed.getD j false with
    |true=>rfl
    |false=>exact absurd ⟨j,hj,e⟩ hex
  have hsz:=hinv.hi.size
  have gD:∀ j,j<all.length→listed.getD j true=listed.getD j false:=fun j hj=>by simp [Array.getD,hsz,hj]
  have hready:∀ m,m≤ks.length→(∃ i,i∈ks.take m∧listed.getD i false=false)→∃ i,i∈Region.ready .any all.toArray listed:=by
   intro m
   induction m with
   |zero=>rintro _ ⟨i,hi,_⟩;simp at hi
   |succ m ih =>
    intro hm ⟨i,hi,hui⟩
    by_cases hex:∃ i,i∈ks.take m∧listed.getD i false=false
    ·exact ih (by omega) hex
    ·have him:ks[m]?=some i:=by
      rw [List.take_add_one] at hi
      rcases List.mem_append.1 hi with h|h
      ·exact absurd ⟨i,h,hui⟩ hex
      ·cases e:ks[m]? with
       |none=>rw [e] at h;simp at h
       |some q=>rw [e] at h;simp at h;rw [h]
     have hil:i<all.length:=hks i (List.mem_of_getElem? him)
     refine⟨i,mem_ready.2 ⟨by rw [gD i hil];exact hui,all[i],by simp [hil],fun e he hb=>?_⟩⟩
     have hlt:=backB_spec hback him (List.getElem?_eq_getElem hil) e he hb
     cases hg:listed.getD e.on false with
     |true=>rfl
     |false=>exact absurd ⟨e.on,hlt,hg⟩ hex
  refine⟨fun h0=>?_,fun i hi=>?_⟩
  ·obtain⟨i,hi⟩:=hready ks.length (Nat.le_refl _) ⟨i0,by rw [List.take_length];exact hkc i0 hi0,hu0⟩
   rw [h0] at hi;cases hi
  ·have hih:i∈ks:=upKc_wait hup hinv.hi hi0 hu0 hi
   obtain⟨p,hp,ep⟩:=List.getElem_of_mem hih
   have hip:ks[p]?=some i:=by simp [hp,ep]
   obtain⟨hun,o,ho',hdeps⟩:=mem_ready.1 hi
   have hil:i<all.length:=hks i hih
   have ho:all[i]?=some o:=by simpa using ho'
   have hun':listed.getD i false=false:=by rw [← gD i hil];exact hun
   obtain⟨hvl,hTa⟩:=hTr.at_
   obtain⟨v,d,tmi,g1,g2,g3,g4,g5⟩:=hTa p o ((opsK_get hks).2 ⟨i,hip,ho⟩)
   obtain⟨S,ids,h1,h2,h3⟩:=hinv.st
   have hsim:Sim N E (rst tmi (useTs all o)) own S ids a n:=h1.with fun t u hu=>by
    obtain⟨q1,q2⟩:=rst_look hu
    rcases g5 t u q2 with ⟨q,oj,p1,p2,p3,p4,_⟩|⟨p1,p2⟩
    ·obtain⟨j,k1,k2⟩:=(opsK_get hks).1 p2
     obtain⟨r1,r2⟩:=useL_spec huse hip ho q1 k2 p3 (List.mem_of_getElem? k1)
     exact h3 q j oj t u k1 (up_ready hinv.hi r2 hi) k2 p3 p4
    ·refine h2 t u p1 fun j oj hj hoj e=>?_
     obtain⟨r1,r2⟩:=useL_spec huse hip ho q1 hoj e hj
     obtain⟨q,hq,eq⟩:=List.getElem_of_mem r1
     rw [List.getElem_take] at eq
     have hql:q<p:=by simp at hq;omega
     exact p2 q oj hql ((opsK_get hks).2 ⟨j,by rw [← eq];exact List.getElem?_eq_getElem (by omega),hoj⟩) e
   have hlist:∀ j,(listed.setIfInBounds i true).getD j false=if j=i then true else listed.getD j false:=fun j=>by
    by_cases e:j=i
    ·subst e;simp [Array.getD,hsz,hil]
    ·rw [getD_set_ne false (fun e'=>e e'.symm),if_neg e]
   have hcount:(ks.filter fun j=>!(listed.setIfInBounds i true).getD j false).length=f:=by
    have e1:(ks.filter fun j=>!(listed.setIfInBounds i true).getD j false)=(ks.filter fun j=>!listed.getD j false).erase i:=by
     rw [List.Nodup.erase_eq_filter (hnd.filter _),List.filter_filter]
     refine List.filter_congr fun j _=>?_
     rw [hlist]
     by_cases e:j=i
     ·subst e;simp
     ·simp [e]
    rw [e1,List.length_erase_of_mem (List.mem_filter.2 ⟨hih,by rw [hun'];rfl⟩),hf];rfl
   have hnext:∀ V S' n',R S' n' ids v V→Past n n'→(∀ b,S b→S' b)→(∀ b,S' b→b<n.heap.size→S b)→(∀ b,S' b→b<n'.heap.size)→DInv N E all ks tm own vs (listed.setIfInBounds i true) (a.put (some d) V) n':=fun V S' n' hV hp k1 k2 k3=>by
    have hkp:Kp S S' n n':=⟨hp.size,k1,fun b hb _=>hp.block b hb⟩
    have hget:∀ t,t≠d→(a.put (some d) V).tmps[t]?=a.tmps[t]?:=fun t ht=>by
     simp only [Act.put];rw [Array.getElem?_setIfInBounds_ne (fun e=>ht e.symm)]
    refine⟨hinv.hi.set hi,fun j hj=>by rw [hlist,if_neg ((fun e=>hj (by rw [e];exact hih)))];exact hinv.out j hj,S',ids,?_,fun t u hu hno=>?_,fun q j oj d' u hj hl hoj hd' hu=>?_⟩
    ·have h4:=(h1.grow hp k1 k2 k3)
     exact { h4 with size:=by simp [Act.put,h4.size],defers:=h4.defers,sl:=fun t v hv=>by simp [look] at hv }
    ·obtain⟨U,q1,q2⟩:=h2 t u hu hno
     have hne:t≠d:=fun e=>hno i o hih ho (by rw [g2,e])
     exact⟨U,by rw [hget t hne];exact q1,q2.kp hkp⟩
    ·rw [hlist] at hl
     by_cases e:j=i
     ·subst e
      have hqp:q=p:=(List.getElem?_inj (List.getElem?_eq_some_iff.1 hj).1 hnd).1 (hj.trans hip.symm)
      subst hqp
      obtain rfl:o=oj:=Option.some.inj (ho.symm.trans hoj)
      obtain rfl:d=d':=Option.some.inj (g2.symm.trans hd')
      obtain rfl:v=u:=Option.some.inj (g1.symm.trans hu)
      exact⟨V,by simp [Act.put,h1.size,g3],hV⟩
     ·rw [if_neg e] at hl
      obtain⟨U,q1,q2⟩:=h3 q j oj d' u hj hl hoj hd' hu
      have hne:d'≠d:=fun e'=>e (distB_spec hdist (List.mem_of_getElem? hj) hih hoj ho (by rw [hd',e']) g2)
      exact⟨U,by rw [hget d' hne];exact q1,q2.kp hkp⟩
   unfold wpOp
   simp only [ho']
   rcases g4.1 N E S ids a n hsim with ⟨w1,w2⟩|⟨w1,w2⟩
   ·rw [if_pos w1]
    refine .inl (Oper.wp_mono (fun a' n' ⟨V,S',e,k0,k1,k2,k3,k4⟩=>?_) (w2 Q))
    subst e
    rw [g2]
    exact wpAny_draw1Z hks hnd kc hkc hup huse hback hdist hTr hend f _ _ _ (hnext V S' n' k0 k1 k2 k3 k4) hcount
   ·rw [if_neg (by rw [w1];simp)]
    subst w2
    rw [g2]
    exact wpAny_draw1Z hks hnd kc hkc hup huse hback hdist hTr hend f _ _ _ (hnext undef S n rfl (Below.refl _ _) (fun _ h=>h) (fun _ h _=>h) h1.slt) hcount
def draw1Z(all:List Oper)(ke kl:List Nat):Bool :=
 let ks:=ke++kl
 Region.noSelect all.toArray&&ks.all (fun k=>decide (k<all.length))&&nodupB ks&&(opsK all ks).all (fun o=>o.dst.isSome)&&upKc all ks ke&&useL all ks&&backB all ks&&distB all ks&&tailB .any all.toArray (restK all.length ks) (listedK all.length ks)&&(opsK all kl).all (fun o=>o.guard.isNone) &&
 (subl kl).all (fun J=>match J with|[]=>true|i::_=>Region.free .any all.toArray (listedK all.length (lateK ks J)) i)
theorem opsK_app(all:List Oper)(a b:List Nat):opsK all (a++b)=opsK all a++opsK all b:=by unfold opsK;rw [List.map_append]
theorem Drw.lateP{T:Tab}{P:Program}(hT:TabOk P T){N:Nat}{E:En}{id:Nat}{l:List Oper}{K:Exit→Tm→Ow→Prop}{tm:Tm}{own:Ow}(ke kl rest:List Nat)(hR:restK l.length (ke++kl)=rest)(hB:draw1Z l ke kl=true)
  (hk:opsC l ke fun le=>opsC l kl fun ll=>opsC l rest fun lo=>WD T P N l own le (fun tm=>WP T N l ll (fun tm=>WO T P N E l lo (K .normal) tm own) tm) tm):Drw T P N E (.region id ⟨l⟩ true) l K tm own:=by
 refine .sem ⟨fun S ids a n hs Q hQ hpan=>?_⟩
 simp only [draw1Z,Bool.and_eq_true] at hB
 obtain⟨⟨⟨⟨⟨⟨⟨⟨⟨⟨b1,b2⟩,b2'⟩,b3⟩,b4⟩,b5⟩,b6⟩,b7⟩,b8⟩,b9⟩,b10⟩:=hB
 have hks:∀ k∈ke++kl,k<l.length:=fun k hk=>by simpa using List.all_eq_true.1 b2 k hk
 have hnd:=nodupB_spec b2'
 have hdis:∀ k,k∈ke→¬ k∈kl:=fun k h1 h2=>(List.nodup_append.1 hnd).2.2 k h1 k h2 rfl
 rw [opsK_app,List.all_append,Bool.and_eq_true] at b3
 have hk1:=opsC_out (opsC_out (opsC_out hk))
 obtain⟨vs1,tm1,h1,h2⟩:=WD_tr hT (fun o ho=>List.all_eq_true.1 b3.1 o ho) hk1
 obtain⟨vs2,tm',h3,h4⟩:=WP_tr (P:=P) (own:=own) (late:=opsK l kl) hT (fun o ho=>⟨List.all_eq_true.1 b3.2 o ho,by simpa using List.all_eq_true.1 b9 o ho⟩) h2
 have hTr:Tr (GL P l own (opsK l kl)) N l (opsK l (ke++kl)) tm (vs1++vs2) tm':=by
  rw [opsK_app]
  refine Tr.append (h1.imp fun o ho tmr v h=>⟨h,fun hl=>?_⟩) h3
  exfalso
  unfold opsK at ho hl
  obtain⟨k,q1,q2⟩:=List.mem_map.1 ho
  obtain⟨k',q3,q4⟩:=List.mem_map.1 hl
  have e1:l[k]?=some o:=by rw [← q2];simp [List.getD,hks k (List.mem_append_left _ q1)]
  have e2:l[k']?=some o:=by rw [← q4];simp [List.getD,hks k' (List.mem_append_right _ q3)]
  obtain⟨d,hd⟩:=Option.isSome_iff_exists.1 (List.all_eq_true.1 b3.1 o (List.mem_map.2 ⟨k,q1,q2⟩))
  have:=distB_spec b7 (List.mem_append_left _ q1) (List.mem_append_right _ q3) e1 e2 hd hd
  subst this
  exact hdis k q1 q3
 have hfil:((ke++kl).filter fun k=>!ke.contains k)=kl:=by
  rw [List.filter_append,List.filter_eq_nil_iff.2 (fun k hk=>by simp [hk]),List.nil_append,List.filter_eq_self.2]
  intro k hk
  have:¬ k∈ke:=fun h=>hdis k h hk
  simp [this]
 refine wp_region_any hT.mixed ?_
 have hp:Past n { n with drawn:=n.drawn+1 }:=Past.draw n
 have hs':=hs.past hp
 have hf:((ke++kl).filter fun j=>!(Array.replicate l.length false).getD j false).length=(ke++kl).length:=by
  rw [List.filter_eq_self.2 (fun j hj=>by simp [Array.getD])]
 have hrl:=restK_len l.length (ke++kl) hks hnd
 have:=wpAny_draw1Z (P:=P) (N:=N) (E:=E) (all:=l) (ks:=ke++kl) (Q:=Q) hks hnd ke (fun k hk=>List.mem_append_left _ hk) b4 b5 b6 b7 hTr (wpAny_lateZ hks hnd ke b1 hpan b5 b6 b7 hTr (fun k hk hn o ho=>by
   have hkl:k∈kl:=(List.mem_append.1 hk).resolve_left hn
   have hm:o∈opsK l kl:=List.mem_map.2 ⟨k,hkl,by simp [List.getD,ho]⟩
   exact⟨by simpa using List.all_eq_true.1 b9 o hm,hm⟩) (fun J hJ i r e=>by
   rw [hfil] at hJ
   have:=List.all_eq_true.1 b10 J hJ
   rw [e] at this ⊢
   exact this) (fun S ids a n hs=>by
   rw [← hR] at h4
   have:=wpAny_of_tail (P:=P) (md:=.any) (Q:=Q) (ops:=l.toArray) b1 hpan (opsK l (restK l.length (ke++kl))) (restK l.length (ke++kl)) (listedK l.length (ke++kl)) a n (restK_map l (ke++kl)) b8 (WO_sound hT h4 (fun a n h=>hQ _ _ _ h) hs)
   have e:(opsK l (restK l.length (ke++kl))).length=l.length-(ke++kl).length:=by unfold opsK;rw [List.length_map,hrl]
   rw [e] at this
   exact this)) (ke++kl).length (Array.replicate l.length false) a _ ⟨⟨by simp,fun j oj _ hl=>by simp [Array.getD] at hl⟩,fun j hj=>by simp [Array.getD],S,ids,hs'.nil,fun t v hv _=>hs'.sl t v hv,fun p j oj d v _ hl=>by simp [Array.getD] at hl⟩ hf
 have hle:(ke++kl).length≤l.length:=by
  have:=hnd.length_le_of_subset (l₂:=List.range l.length) (fun k hk=>List.mem_range.2 (hks k hk))
  simpa using this
 rw [show (ke++kl).length+(l.length-(ke++kl).length)=l.length by omega] at this
 simpa using this
inductive OT where
 |done
 |go (i:Nat) (t:OT)
 |alt (a b:OT)
def OT.heads:OT→List Nat
 |.done=>[]
 |.go i _=>[i]
 |.alt a b=>a.heads++b.heads
def OT.len:OT→Nat→Bool
 |.done,n=>Nat.beq n 0
 |.go _ _,0=>false
 |.go _ t,n+1=>t.len n
 |.alt a b,n=>a.len n&&b.len n
def OT.isDone:OT→Bool
 |.done=>true
 |.go _ _=>false
 |.alt a b=>a.isDone
def OT.node(ops:Array Oper)(t:OT)(listed:Array Bool):Bool:=(Region.ready .any ops listed).all (fun j=>t.heads.contains j)&&(t.isDone || !(Region.ready .any ops listed).isEmpty)
theorem OT.len_done:∀ {t:OT} {n:Nat},t.len (n+1)=true→t.isDone=false
 |.done,n,h=>by simp [OT.len] at h
 |.go _ _,_,_=>rfl
 |.alt a b,n,h=>by
  simp only [OT.len,Bool.and_eq_true] at h
  exact OT.len_done (t:=a) h.1
def OT.sub(ops:Array Oper):OT→Array Bool→Bool
 |.done,listed=>(Region.ready .any ops listed).isEmpty
 |.go i t,listed=>t.node ops (listed.setIfInBounds i true)&&t.sub ops (listed.setIfInBounds i true)
 |.alt a b,listed=>a.sub ops listed&&b.sub ops listed
def WT(T:Tab)(P:Program)(N:Nat)(E:En)(all:List Oper):OT→(Tm→Ow→Prop)→Tm→Ow→Prop
 |.done,K,tm,own=>K tm own
 |.go i t,K,tm,own=>match nth all i with
  |some o=>gd all tm o (step T P N E o (WT T P N E all t K) tm own) (put N tm o.dst (.raw undef) fun tm=>WT T P N E all t K tm own)
  |none=>False
 |.alt a b,K,tm,own=>Both (WT T P N E all a K tm own) (WT T P N E all b K tm own)
theorem WT_head{T:Tab}{P:Program}{N:Nat}{E:En}{all:List Oper}{K:Tm→Ow→Prop}{tm:Tm}{own:Ow}{listed:Array Bool}{n:Nat}:∀ {t:OT} {i:Nat},i∈t.heads→WT T P N E all t K tm own→t.sub all.toArray listed=true→t.len n=true→∃ t',WT T P N E all (.go i t') K tm own∧(OT.go i t').sub all.toArray listed=true∧(OT.go i t').len n=true
 |.done,i,h,_,_,_=>by simp [OT.heads] at h
 |.go j t,i,h,h1,h2,h3=>by
  simp only [OT.heads,List.mem_singleton] at h
  subst h
  exact⟨t,h1,h2,h3⟩
 |.alt a b,i,h,h1,h2,h3=>by
  simp only [OT.heads,List.mem_append] at h
  simp only [OT.sub,Bool.and_eq_true] at h2
  simp only [OT.len,Bool.and_eq_true] at h3
  rcases h with h|h
  ·exact WT_head h h1.1 h2.1 h3.1
  ·exact WT_head h h1.2 h2.2 h3.2
theorem WT_zero{T:Tab}{P:Program}{N:Nat}{E:En}{all:List Oper}{K:Tm→Ow→Prop}{tm:Tm}{own:Ow}{listed:Array Bool}:∀ {t:OT},WT T P N E all t K tm own→t.sub all.toArray listed=true→t.len 0=true→K tm own∧(Region.ready .any all.toArray listed).isEmpty=true
 |.done,h1,h2,_=>⟨h1,h2⟩
 |.go j t,_,_,h3=>by simp [OT.len] at h3
 |.alt a b,h1,h2,h3=>by
  simp only [OT.sub,Bool.and_eq_true] at h2
  simp only [OT.len,Bool.and_eq_true] at h3
  exact WT_zero h1.1 h2.1 h3.1
theorem wpAny_tree{T:Tab}{P:Program}(hT:TabOk P T){N:Nat}{E:En}{all:List Oper}{K:Tm→Ow→Prop}{Q:Exit→Act→World→Prop}(hQ:∀ a n,After N E K a n→Q .normal a n) :
  ∀ (n:Nat) (t:OT) (listed:Array Bool) (tm:Tm) (own:Ow) (S:Nat→Prop) (ids:List Loc) (a:Act) (w:World),t.node all.toArray listed=true→t.sub all.toArray listed=true→t.len n=true→WT T P N E all t K tm own→Sim N E tm own S ids a w→wpAny P .any all.toArray Q n listed a w
 |0,t,listed,tm,own,S,ids,a,w,h1,h2,h3,h4,hs=>by
  obtain⟨g1,g2⟩:=WT_zero h4 h2 h3
  exact⟨by simpa using g2,hQ _ _ ⟨tm,own,S,ids,g1,hs⟩⟩
 |n+1,t,listed,tm,own,S,ids,a,w,h1,h2,h3,h4,hs=>by
  simp only [OT.node,OT.len_done h3,Bool.false_or,Bool.and_eq_true] at h1
  obtain⟨q1,q2⟩:=h1
  refine⟨fun h0=>by rw [h0] at q2;simp at q2,fun i hi=>?_⟩
  have hih:i∈t.heads:=by
   have:=List.all_eq_true.1 q1 i hi
   simpa using this
  obtain⟨t',g1,g2,g3⟩:=WT_head hih h4 h2 h3
  simp only [OT.sub,Bool.and_eq_true] at g2
  simp only [OT.len] at g3
  simp only [WT] at g1
  cases ho:nth all i with
  |none=>rw [ho] at g1;exact g1.elim
  |some o =>
   rw [ho] at g1
   have ho':all.toArray[i]?=some o:=by rw [nth_eq] at ho;simpa using ho
   have next:∀ a' w',After N E (WT T P N E all t' K) a' w'→wpAny P .any all.toArray Q n (listed.setIfInBounds i true) a' w':=fun a' w' ⟨tm',own',S',ids',k1,k2⟩ =>
    wpAny_tree hT hQ n t' _ tm' own' S' ids' a' w' g2.1 g2.2 g3 k1 k2
   unfold wpOp
   simp only [ho']
   rcases gd_sound g1 with ⟨k1,k2⟩|⟨k1,k2⟩
   ·rw [if_pos (k2 S w ids a hs.sl)]
    exact .inl (Oper.wp_mono next (step_sound hT k1 hs Q))
   ·rw [if_neg (by rw [k2 S w ids a hs.sl];simp)]
    obtain⟨tm',k3,k4⟩:=put_sound k1
    exact next _ _ ⟨tm',own,S,ids,k3,k4 E own S ids a w undef hs rfl⟩
theorem Drw.tree{T:Tab}{P:Program}(hT:TabOk P T){N:Nat}{E:En}{id:Nat}{l:List Oper}{K:Exit→Tm→Ow→Prop}{tm:Tm}{own:Ow}(t:OT)(n:Nat)(hl:l.length=n)(hB:(t.node l.toArray (Array.replicate n false)&&t.sub l.toArray (Array.replicate n false)&&t.len n)=true)
  (hk:WT T P N E l t (K .normal) tm own):Drw T P N E (.region id ⟨l⟩ true) l K tm own:=by
 refine .sem ⟨fun S ids a w hs Q hQ hpan=>?_⟩
 simp only [Bool.and_eq_true] at hB
 refine wp_region_any hT.mixed ?_
 have hp:Past w { w with drawn:=w.drawn+1 }:=Past.draw w
 subst hl
 have:=wpAny_tree hT (Q:=Q) (fun a n h=>hQ .normal a n h) l.length t (Array.replicate l.length false) tm own S ids a _ hB.1.1 hB.1.2 hB.2 hk (hs.past hp)
 simpa using this
@[irreducible] def ar {α:Type} (e:α→List AV) (l:List α) (r:List Value):List AV:=l.flatMap e++r.map AV.raw
section
variable{α:Type}{e:α→List AV}{sz:Nat}
theorem fm_len(he:∀ x,(e x).length=sz):∀ l:List α,(l.flatMap e).length=l.length*sz
 |[]=>by simp
 |x::l=>by rw [List.flatMap_cons,List.length_append,he,fm_len he l,List.length_cons,Nat.add_mul];omega
theorem fm_drop(he:∀ x,(e x).length=sz):∀ (l:List α) (j:Nat),(l.flatMap e).drop (j*sz)=(l.drop j).flatMap e
 |l,0=>by simp
 |[],j+1=>by simp
 |x::l,j+1=>by
  rw [List.flatMap_cons,List.drop_succ_cons,← fm_drop he l j,Nat.add_mul,Nat.one_mul,Nat.add_comm,← List.drop_drop,List.drop_append_of_le_length (by rw [he];exact Nat.le_refl _)]
  congr 1
  rw [List.drop_of_length_le (by rw [he];exact Nat.le_refl _)];rfl
theorem fm_take(he:∀ x,(e x).length=sz):∀ (l:List α) (j:Nat),(l.flatMap e).take (j*sz)=(l.take j).flatMap e
 |l,0=>by simp
 |[],j+1=>by simp
 |x::l,j+1=>by
  rw [List.flatMap_cons,List.take_succ_cons,List.flatMap_cons,← fm_take he l j,List.take_append,he,List.take_of_length_le (by rw [he,Nat.add_mul];omega)]
  congr 2
  rw [Nat.add_mul];omega
theorem ar_el(he:∀ x,(e x).length=sz){l:List α}{r:List Value}{j:Nat}(d:α)(hj:j<l.length):j*sz+sz≤(ar e l r).length∧((ar e l r).drop (j*sz)).take sz=e (l.getD j d):=by
 unfold ar
 have h1:(j+1)*sz≤l.length*sz:=Nat.mul_le_mul_right _ hj
 rw [Nat.add_mul,Nat.one_mul] at h1
 have hl:=fm_len he l
 refine⟨by rw [List.length_append,hl];omega,?_⟩
 rw [List.drop_append_of_le_length (by omega),fm_drop he,List.drop_eq_getElem_cons hj,List.flatMap_cons,List.append_assoc,List.take_append_of_le_length (by rw [he];exact Nat.le_refl _),List.take_of_length_le (by rw [he];exact Nat.le_refl _),List.getD_eq_getElem?_getD,List.getElem?_eq_getElem hj]
 rfl
theorem ar_set(he:∀ x,(e x).length=sz){l:List α}{r:List Value}{j:Nat}(x:α)(hj:j<l.length):(ar e l r).take (j*sz)++(e x++((ar e l r).drop (j*sz)).drop (e x).length)=ar e (l.set j x) r:=by
 unfold ar
 have h1:(j+1)*sz≤l.length*sz:=Nat.mul_le_mul_right _ hj
 rw [Nat.add_mul,Nat.one_mul] at h1
 have hl:=fm_len he l
 rw [he,List.drop_drop,List.take_append_of_le_length (by omega),fm_take he,show j*sz+sz=(j+1)*sz by rw [Nat.add_mul,Nat.one_mul],List.drop_append_of_le_length (by rw [hl];exact Nat.mul_le_mul_right _ hj),fm_drop he,List.set_eq_take_append_cons_drop,if_pos hj,List.flatMap_append,List.flatMap_cons]
 simp only [List.append_assoc]
theorem okL1_ar(k:Nat)(h:∀ x,okL1 k (e x)=true)(l:List α)(r:List Value):okL1 k (ar e l r)=true:=by
 have app:∀ (a b:List AV),okL1 k a=true→okL1 k b=true→okL1 k (a++b)=true:=by
  intro a b ha hb
  induction a with
  |nil=>exact hb
  |cons x a ih=>simp only [okL1,Bool.and_eq_true,List.cons_append] at ha ⊢;exact⟨ha.1,ih ha.2⟩
 unfold ar
 refine app _ _ ?_ ?_
 ·induction l with
  |nil=>rfl
  |cons x l ih=>rw [List.flatMap_cons];exact app _ _ (h x) ih
 ·induction r with
  |nil=>rfl
  |cons x l ih=>simp only [List.map_cons,okL1,Bool.and_eq_true];exact⟨rfl,ih⟩
theorem swap_perm{l:List α}{i j:Nat}(d:α)(hi:i<l.length)(hj:j<l.length):((l.set i (l.getD j d)).set j (l.getD i d)).Perm l:=by
 have e1:l.getD i d=l[i]:=by simp [List.getD,hi]
 have e2:l.getD j d=l[j]:=by simp [List.getD,hj]
 rw [e1,e2]
 exact List.set_set_perm hi hj
end
section
variable{α:Type}{e:α→List AV}{i off:Nat}{own:Ow}{l:List α}{r:List Value}
theorem LdAt.one{v:α→AV}(he:∀ x,e x=[v x])(hn:∀ x,nagA (v x)=true)(d:α){K:AV→Prop}(hb:nth own i=some (.blk (ar e l r)))(j:Nat)(ho:off=j)(hj:j<l.length)(hK:K (v (l.getD j d))):LdAt i off .sc own K:=by
 subst ho
 refine⟨_,hb,?_⟩
 obtain⟨h1,h2⟩:=ar_el (e:=e) (sz:=1) (fun x=>by rw [he];rfl) (r:=r) d hj
 rw [Nat.mul_one,he] at h2
 refine⟨v (l.getD off d),?_,hn _,hK⟩
 rw [nth_eq]
 have h3:=congrArg (·[0]?) h2
 simpa using h3
theorem LdAt.row{n:Nat}(he:∀ x,(e x).length=n)(d:α){K:AV→Prop}(hb:nth own i=some (.blk (ar e l r)))(j:Nat)(ho:off=j*n)(hj:j<l.length)(hK:K (.agg (e (l.getD j d)))):LdAt i off (.ag n) own K:=by
 subst ho
 refine⟨_,hb,?_⟩
 obtain⟨h1,h2⟩:=ar_el (e:=e) he (r:=r) d hj
 exact⟨h1,by rw [h2];exact hK⟩
theorem StAt.el{n:Nat}(he:∀ x,(e x).length=n){K:Ow→Prop}{vs:List AV}(x:α)(hx:vs=e x)(hb:nth own i=some (.blk (ar e l r)))(j:Nat)(ho:off=j*n)(hj:j<l.length)(hK:K (own.set i (.blk (ar e (l.set j x) r)))):StAt i off vs own K:=by
 subst ho
 subst hx
 obtain⟨h1,h2⟩:=ar_el (e:=e) he (r:=r) x hj
 exact⟨_,hb,by rw [he];exact h1,by rw [ar_set he x hj];exact hK⟩
end
abbrev i1(x:Int):List AV:=[.int .i64 x]
theorem puL_app:∀ {a b:List AV},puL a=true→puL b=true→puL (a++b)=true
 |[],_,_,h=>h
 |x::a,b,h,h'=>by simp only [puL,Bool.and_eq_true,List.cons_append] at h ⊢;exact⟨h.1,puL_app h.2 h'⟩
theorem puL_ar{α:Type}{e:α→List AV}(he:∀ x,puL (e x)=true)(l:List α)(r:List Value):puL (ar e l r)=true:=by
 unfold ar
 refine puL_app ?_ ?_
 ·induction l with
  |nil=>rfl
  |cons x l ih=>rw [List.flatMap_cons];exact puL_app (he x) ih
 ·induction r with
  |nil=>rfl
  |cons x r ih=>simp only [List.map_cons,puL,Bool.and_eq_true];exact⟨rfl,ih⟩
theorem rnL1_app(J:List Nat):∀ (a b:List AV),rnL1 J (a++b)=rnL1 J a++rnL1 J b
 |[],_=>rfl
 |x::a,b=>by simp only [List.cons_append,rnL1,rnL1_app J a b]
theorem rnL1_ar{α:Type}{e:α→List AV}(J:List Nat)(he:∀ x,rnL1 J (e x)=e x)(l:List α)(r:List Value):rnL1 J (ar e l r)=ar e l r:=by
 unfold ar
 rw [rnL1_app]
 congr 1
 ·induction l with
  |nil=>rfl
  |cons x l ih=>rw [List.flatMap_cons,rnL1_app,he,ih]
 ·induction r with
  |nil=>rfl
  |cons x r ih=>simp only [List.map_cons,rnL1,ih];rfl
theorem RvJ.sl{own:Ow}{J I:List Nat}{k j off sz n c:Nat}(hk:nth J k=some j):RvJ own J I (.sl j off sz n c) (.sl k off sz n c):=fun S m ids base hl V hr=>by
 obtain⟨b,g1,g2⟩:=hr.sl
 exact⟨b,locsJ_nth hk g1,g2⟩
theorem RvJL.pu{own:Ow}{J I:List Nat}:∀ {vs:List AV},puL vs=true→RvJL own J I vs vs
 |[],_=>RvJL.nil
 |v::vs,h=>by simp only [puL,Bool.and_eq_true] at h;exact RvJL.cons (RvJ.pu h.1) (RvJL.pu h.2)
def SortC{α:Type}(e:α→List AV)(sz f n c:Nat)(l:List α)(r:List Value)(xs:List AV)(p:AV→Prop):Prop :=
 RetO Tryz.prog f [.blk (ar e l r)] (.sl 0 0 sz n c::xs) (fun x gs=>p x∧∃ l',l'.Perm l∧gs=[.blk (ar e l' r)])
theorem CallS.srt{α:Type}{e:α→List AV}{sz f n c:Nat}{l:List α}{r:List Value}{xs:List AV}{p:AV→Prop}{N:Nat}{E:En}{o:Oper}{K:Tm→Ow→Prop}{tm:Tm}{own:Ow}(h:SortC e sz f n c l r xs p)(hp:puL xs=true)(he:∀ x,puL (e x)=true)(he2:∀ x,rnL1 [0] (e x)=e x)
  (hK:∀ x l',p x→l'.Perm l→put N tm o.dst x fun tm=>K tm (.blk (ar e l' r)::own)):CallS Tryz.prog N E o f (.sl 0 0 sz n c::xs) K tm (.blk (ar e l r)::own):=by
 refine .call (CallN.upd [0] [] (RvJL.cons (RvJ.sl rfl) (RvJL.pu hp)) (Als.nil _) (by simp) (Giv.one rfl (by simp) (RcJ.pu (puL_ar he l r))) h (fun x gs ⟨h1,l',h2,h3⟩ _=>?_))
 subst h3
 have:=hK x l' h1 h2
 simp only [List.map_cons,List.map_nil,rnO,rnL1_ar [0] he2,putJ,killI,List.set_cons_zero]
 exact this
theorem CallS.srtP{α:Type}{e:α→List AV}{sz f n c:Nat}{l l0:List α}{r:List Value}{xs:List AV}{p:AV→Prop}{N:Nat}{E:En}{o:Oper}{K:Tm→Ow→Prop}{tm:Tm}{own:Ow}(h:SortC e sz f n c l r xs p)(h0:l.Perm l0)(hp:puL xs=true)(he:∀ x,puL (e x)=true)(he2:∀ x,rnL1 [0] (e x)=e x)
  (hK:∀ x l',p x→l'.Perm l0→l'.length=l0.length→put N tm o.dst x fun tm=>K tm (.blk (ar e l' r)::own)):CallS Tryz.prog N E o f (.sl 0 0 sz n c::xs) K tm (.blk (ar e l r)::own) :=
 .srt h hp he he2 fun x l' h1 h2=>hK x l' h1 (h2.trans h0) (h2.trans h0).length_eq
theorem okAr{l:List Int}{r:List Value}{k:Nat}:okO k [.blk (ar i1 l r)]=true:=by simp [okO,okL1_ar k (e:=i1) (fun x=>rfl)]
theorem okAr2{l:List Int}{r:List Value}{k:Nat}{v:AV}(h:ok1 k v=true):okO k [.blk (ar i1 l r),.blk [v]]=true:=by simp [okO,okL1_ar k (e:=i1) (fun x=>rfl),okL1,h]
theorem i1_len(x:Int):(i1 x).length=1:=rfl
end Y
end Go.Proofs.YtllemifiammnnaaGreat
