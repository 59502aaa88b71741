/- Part 16 of the proof. No condition. -/
import Derived.Test.YtllemifiammnnaaGreatG05
import Derived.Test.YtllemifiammnnaaGreatG15
set_option linter.unusedVariables false
set_option linter.unusedSimpArgs false
set_option maxRecDepth 100000
set_option maxHeartbeats 4000000
namespace Go.Proofs.YtllemifiammnnaaGreat
namespace Y
open Go Go.RowKit Go.Sort
theorem RunTo.steps{M:Nat→Ml.M}{C:Nat→Bool}{n0 n:W.Nav}{k:Nat}{rs:List W.Report}(h:RunTo M C n0 k n rs):∃ N:Nat→W.Nav,N 0=n0∧N k=n∧∀ j,j<k→StepR (N j) (M j) (C j) (N (j+1)) (rs.getD j (W.Report.empty 0)):=by
 induction h with
 |zero=>exact⟨fun _=>n0,rfl,rfl,fun j hj=>by omega⟩
 |@step k n n' rs r h hs ih =>
  obtain⟨N,h1,h2,h3⟩:=ih
  have hl:=h.len
  refine⟨fun j=>if j≤k then N j else n',by simp [h1],by simp only [show ¬ k+1≤k by omega,if_false],fun j hj=>?_⟩
  by_cases e:j=k
  ·subst e
   simp only [Nat.le_refl,if_true,show ¬ j+1≤j by omega,if_false]
   rw [h2,show (rs++[r]).getD j (W.Report.empty 0)=r by rw [List.getD_eq_getElem?_getD,List.getElem?_append_right (by omega),hl];simp]
   exact hs
  ·simp only [show j≤k by omega,if_true,show j+1≤k by omega]
   rw [show (rs++[r]).getD j (W.Report.empty 0)=rs.getD j (W.Report.empty 0) by rw [List.getD_eq_getElem?_getD,List.getElem?_append_left (by omega),List.getD_eq_getElem?_getD]]
   exact h3 j (by omega)
theorem steps_ok{M:Nat→Ml.M}{C:Nat→Bool}{N:Nat→W.Nav}{R:Nat→W.Report}{k:Nat}(h:∀ j,j<k→StepR (N j) (M j) (C j) (N (j+1)) (R j))(h0:NavOk (N 0))(hc:(N 0).cycle=0)(hk:k≤1000):∀ j,j≤k→NavOk (N j)∧(N j).cycle=j∧(N j).c=(N 0).c∧(N j).t=(N 0).t:=by
 intro j
 induction j with
 |zero=>intro _;exact⟨h0,by omega,rfl,rfl⟩
 |succ j ih =>
  intro hj
  obtain⟨h1,h2,h3,h4⟩:=ih (by omega)
  have hs:=h j (by omega)
  have hk:=hs.keep
  exact⟨StepR.ok h1 (by omega) hs,by omega,hk.1.trans h3,hk.2.1.trans h4⟩
theorem learnOwn_sub(c:W.Sp)(r:W.Sp×Bool)(hc:c.right):(W.learnOwn c r).sub_ c∧(W.learnOwn c r).right:=by
 unfold W.learnOwn
 split
 ·split
  ·next h =>
   obtain⟨e,h2⟩:=W.meet_yes h
   rw [e]
   unfold W.Sp.sub_ W.Sp.right at *
   dsimp only
   omega
  ·exact⟨.rfl,hc⟩
 ·exact⟨.rfl,hc⟩
theorem learn_sub(c w:W.Sp)(p n:Int)(hc:c.right):(W.learn c w p n).sub_ c∧(W.learn c w p n).right:=by
 unfold W.learn
 split
 ·split
  ·exact learnOwn_sub _ _ hc
  ·exact⟨.rfl,hc⟩
 ·exact learnOwn_sub _ _ hc
theorem navLearn_sub(n:W.Nav)(a:Int)(h0:n.circ0.right)(h1:n.circ1.right):(n.learn a).circ0.sub_ n.circ0∧(n.learn a).circ0.right∧(n.learn a).circ1.sub_ n.circ1∧(n.learn a).circ1.right:=by
 unfold W.Nav.learn
 dsimp only
 split
 ·exact⟨.rfl,h0,.rfl,h1⟩
 ·split
  ·exact⟨.rfl,h0,.rfl,h1⟩
  ·exact⟨(learn_sub _ _ _ _ h0).1,(learn_sub _ _ _ _ h0).2,(learn_sub _ _ _ _ h1).1,(learn_sub _ _ _ _ h1).2⟩
theorem accepted_sub(n:W.Nav)(x:W.Found)(f:W.Fused)(h0:n.circ0.right)(h1:n.circ1.right):(accepted n x f).circ0.sub_ n.circ0∧(accepted n x f).circ0.right∧(accepted n x f).circ1.sub_ n.circ1∧(accepted n x f).circ1.right:=by
 unfold accepted
 split
 ·unfold W.Nav.accept
  dsimp only
  split
  ·exact navLearn_sub { n with place:=W.resetAt n.c (n.t.grp x.group) x.group f.speed } _ h0 h1
  ·exact⟨.rfl,h0,.rfl,h1⟩
 ·exact⟨.rfl,h0,.rfl,h1⟩
theorem StepR.circ{n n':W.Nav}{m:Ml.M}{cmd:Bool}{r:W.Report}(h:StepR n m cmd n' r)(h0:n.circ0.right)(h1:n.circ1.right):n'.circ0.sub_ n.circ0∧n'.circ0.right∧n'.circ1.sub_ n.circ1∧n'.circ1.right:=by
 obtain⟨n2,over,x,⟨l,hl,rfl,rfl⟩,hk,rfl,_⟩:=h
 obtain⟨_,_,_,e4,e5,_⟩:=ended_c (accepted (withL ((sensed n m).1.move (sensed n m).2.speed).1 l) x (sensed n m).2) (sensed n m).2 ((sensed n m).1.move (sensed n m).2.speed).2 x.accepted cmd
 rw [e4,e5]
 exact accepted_sub (withL ((sensed n m).1.move (sensed n m).2.speed).1 l) x (sensed n m).2 h0 h1
structure CircIn(n:W.Nav):Prop where
 s0:n.circ0.sub_ n.c.circ
 r0:n.circ0.right
 s1:n.circ1.sub_ n.c.circ
 r1:n.circ1.right
theorem CircIn.step{n n':W.Nav}{m:Ml.M}{cmd:Bool}{r:W.Report}(h:CircIn n)(hs:StepR n m cmd n' r):CircIn n':=by
 obtain⟨h1,h2,h3,h4⟩:=hs.circ h.r0 h.r1
 have hk:=hs.keep.1
 exact⟨by rw [hk];exact h1.trans h.s0,h2,by rw [hk];exact h3.trans h.s1,h4⟩
theorem speed_growth{n:W.Nav}{m:Ml.M}(h:NavOk n)(hc:CircIn n)(hf:0<(sensed n m).2.fit)(hn:(sensed n m).2.conflict=false) :
  1048576*((sensed n m).2.speed.hi-(sensed n m).2.speed.lo)≤n.c.growth.1*W.abs (sensed n m).2.speed.mid+n.c.growth.2*1048576:=by
 obtain⟨s,hs,hfit,hsub⟩:=W.fuse_in hf hn
 have hB:SpeedB n.c (sensed n m).2.speed:=fuse_b (prior_b h.cf h.sp)
 have hsub':(sensed n m).2.speed.sub_ s.sp:=hsub
 generalize (sensed n m).2.speed=v at *
 have hr:=hB.right
 have m1:v.lo≤v.mid∧v.mid≤v.hi:=by unfold W.Sp.mid W.mid;omega
 have am:0≤W.abs v.mid:=by unfold W.abs;split<;>omega
 have b1:=h.cf.pulses
 have b2:=h.cf.circLo
 have b3:=h.cf.circHi
 have b4:=h.cf.part
 have b5:=h.cf.radBase
 have b6:=h.cf.radPart
 have eg:n.c.growth.1=4*W.up (1048576*(n.c.circHi-n.c.circLo)) n.c.circLo+6*n.c.radPart∧n.c.growth.2=12*W.up n.c.circHi n.c.pulses+6*n.c.radBase+9:=⟨rfl,rfl⟩
 have u1:=(@W.up_ge (1048576*(n.c.circHi-n.c.circLo)) n.c.circLo (by omega)).1
 have u2:=(@W.up_ge n.c.circHi n.c.pulses (by omega)).1
 have nn:∀ a b:Int,0<a→0≤a*b→0≤b:=fun a b ha hb=>by
  apply Decidable.byContradiction;intro q
  have:=Int.mul_neg_of_pos_of_neg ha (show b<0 by omega)
  omega
 have hA:=nn _ _ (by omega) (Int.le_trans (by omega) u1)
 have hP:=nn _ _ (by omega) (Int.le_trans (by omega) u2)
 have k1:0≤4*W.up (1048576*(n.c.circHi-n.c.circLo)) n.c.circLo*W.abs v.mid:=Int.mul_nonneg (by omega) am
 have k2:0≤6*n.c.radPart*W.abs v.mid:=Int.mul_nonneg (by omega) am
 rw [eg.1,eg.2,Int.add_mul]
 have tach:∀ (circ:W.Sp) (q:W.Counter×Int×Bool),circ.sub_ n.c.circ→circ.right→s=W.tachoSensor circ n.c.pulses q→1048576*(v.hi-v.lo)≤4*W.up (1048576*(n.c.circHi-n.c.circLo)) n.c.circLo*W.abs v.mid+6*n.c.radPart*W.abs v.mid+(12*W.up n.c.circHi n.c.pulses+6*n.c.radBase+9)*1048576:=fun circ q hq hqr e=>by
  have e2:s.sp=(W.tacho q.2.1 circ n.c.pulses).1:=by
   rw [e] at hfit ⊢
   unfold W.tachoSensor at hfit ⊢
   split at hfit
   ·next h1=>rw [if_pos h1]
   ·cases hfit
  rw [e2] at hsub'
  have:=W.tacho_growth b1.1 (by omega) b4 hq.1 hq.2 hqr hsub'.1 hsub'.2 m1.1 m1.2
  omega
 rcases hs with e|e|e
 ·exact tach _ _ hc.s0 hc.r0 e
 ·exact tach _ _ hc.s1 hc.r1 e
 ·have e2:s.sp=W.radar n.c (m.val 3):=by
   rw [e] at hfit ⊢
   unfold W.Nav.radarS at hfit ⊢
   split at hfit
   ·next h1=>rw [if_pos h1]
   ·cases hfit
  rw [e2] at hsub'
  have:=W.radar_growth b5.1 b6 hsub'.1 hsub'.2 m1.1 m1.2
  omega
theorem move_pos{t:W.Trk}{p:W.Place}{s:W.Sp}(h:(p.move t s).1.on=true):(p.move t s).1.pos=⟨p.pos.lo+s.lo,p.pos.hi+s.hi⟩∧p.pos.right∧s.right:=by
 unfold W.Place.move at h ⊢
 split at h
 ·cases h
 ·next h1 =>
  rw [if_neg h1]
  dsimp only at h ⊢
  split at h
  ·cases h
  ·next h2 =>
   rw [if_neg h2]
   split at h
   ·cases h
   ·next h3 =>
    rw [if_neg h3]
    simp only [Bool.or_eq_true,Bool.not_eq_true',not_or,Bool.not_eq_false] at h2
    have h4:=h2.1
    unfold W.Sp.add W.both at h4 ⊢
    by_cases hc:p.pos.right∧s.right∧W.I64 (p.pos.lo+s.lo)∧W.I64 (p.pos.hi+s.hi)
    ·rw [if_pos hc];exact⟨rfl,hc.1,hc.2.1⟩
    ·rw [if_neg hc] at h4;cases h4
theorem mode2{n n':W.Nav}{m:Ml.M}{cmd:Bool}{r:W.Report}(hs:StepR n m cmd n' r)(hm:r.mode=2):n'.place.on=true∧r.pos=n'.place.pos∧r.dist=n'.dist∧r.group=(n'.t.grp n'.place.group).id∧r.speed=(sensed n m).2.speed∧2≤(sensed n m).2.fit∧(sensed n m).2.conflict=false:=by
 obtain⟨n2,over,x,_,_,_,ht⟩:=hs
 obtain⟨pm,ov,rfl⟩:=ht
 have hm':(n'.tell (opened n m x) (sensed n m).2).mode=2:=hm
 have em:(n'.tell (opened n m x) (sensed n m).2).mode=n'.watch.mode n'.place.on (sensed n m).2.fit (sensed n m).2.conflict:=by
  unfold W.Nav.tell
  dsimp only
  split<;>rfl
 rw [em] at hm'
 unfold W.Watch.mode at hm'
 split at hm'
 ·cases hm'
 split at hm'
 ·cases hm'
 next h2 =>
 split at hm'
 ·cases hm'
 next h3 =>
 have hon:n'.place.on=true:=by simpa using h2
 simp only [Bool.or_eq_true,decide_eq_true_eq,not_or,Bool.not_eq_true] at h3
 refine⟨hon,?_,?_,?_,?_,by omega,h3.2⟩
 ·show (n'.tell (opened n m x) (sensed n m).2).pos=_
  unfold W.Nav.tell;dsimp only;rw [hon];rfl
 ·show (n'.tell (opened n m x) (sensed n m).2).dist=_
  unfold W.Nav.tell;dsimp only;rw [hon];rfl
 ·show (n'.tell (opened n m x) (sensed n m).2).group=_
  unfold W.Nav.tell;dsimp only;rw [hon];rfl
 ·show (n'.tell (opened n m x) (sensed n m).2).speed=_
  unfold W.Nav.tell;dsimp only;rw [hon];rfl
theorem StepR.grows{n n':W.Nav}{m:Ml.M}{cmd:Bool}{r:W.Report}(h:NavOk n)(hc:CircIn n)(hs:StepR n m cmd n' r)(ha:r.accepted=false)(hm:r.mode=2)(hon:n.place.on=true) :
  n.place.pos.right∧r.speed.right∧n'.place.pos=⟨n.place.pos.lo+r.speed.lo,n.place.pos.hi+r.speed.hi⟩∧n'.dist=n.dist+W.abs r.speed.mid∧1048576*(r.speed.hi-r.speed.lo)≤n.c.growth.1*W.abs r.speed.mid+n.c.growth.2*1048576:=by
 obtain⟨m1,m2,m3,m4,m5,m6,m7⟩:=mode2 hs hm
 have hg:=speed_growth h hc (m:=m) (by omega) m7
 rw [m5]
 obtain⟨n2,over,x,⟨l,hl,rfl,rfl⟩,hk,e,ht⟩:=hs
 have ha':x.accepted=false:=by rw [tell_acc ht] at ha;exact ha
 have hacc:accepted (withL ((sensed n m).1.move (sensed n m).2.speed).1 l) x (sensed n m).2=withL ((sensed n m).1.move (sensed n m).2.speed).1 l:=by
  unfold accepted
  rw [ha'];rfl
 rw [hacc] at e
 subst e
 obtain⟨p1,p2⟩:=ended_on m1
 have hov:((sensed n m).1.move (sensed n m).2.speed).2=false:=by
  have:((withL ((sensed n m).1.move (sensed n m).2.speed).1 l).watch.next (withL ((sensed n m).1.move (sensed n m).2.speed).1 l).c (sensed n m).2.fit (sensed n m).2.conflict ((sensed n m).1.move (sensed n m).2.speed).2 x.accepted).failed=false:=by
   have p3:=p2
   unfold ended rolled watched at p3
   dsimp only at p3
   split at p3
   ·next hf=>rw [hf] at p3;cases p3
   ·exact p3
  unfold W.Watch.next at this
  dsimp only at this
  simp only [Bool.or_eq_false_iff] at this
  exact this.1.1.1
 have hdist:((sensed n m).1.move (sensed n m).2.speed).1.dist=n.dist+W.abs (sensed n m).2.speed.mid:=by
  unfold W.Nav.move at hov ⊢
  dsimp only at hov ⊢
  rw [Bool.or_eq_false_iff] at hov
  have h1:(W.fitB (W.abs (sensed n m).2.speed.mid)&&W.fitB ((sensed n m).1.dist+W.fit (W.abs (sensed n m).2.speed.mid)))=true:=by simpa using hov.1
  rw [if_pos h1]
  rfl
 have hpl:((sensed n m).1.move (sensed n m).2.speed).1.place=(n.place.move n.t (sensed n m).2.speed).1:=by
  show (if n.place.on then (n.place.move n.t (sensed n m).2.speed).1 else n.place)=_
  rw [if_pos hon]
 have on2:(n.place.move n.t (sensed n m).2.speed).1.on=true:=by
  rw [← hpl]
  have:=m1
  rw [p1] at this
  exact this
 obtain⟨q1,q2,q3⟩:=move_pos on2
 refine⟨q2,q3,?_,?_,hg⟩
 ·rw [p1]
  show ((sensed n m).1.move (sensed n m).2.speed).1.place.pos=_
  rw [hpl,q1]
 ·rw [(ended_c _ _ _ _ _).2.2.2.2.2.1]
  exact hdist
section
variable{c:W.Conf}{t:W.Trk}{s:W.Script}
theorem startN_circ{l:List Int}(hc:ConfB c):CircIn (startN c t l):=by
 have h:=hc.circHi.1
 exact⟨.rfl,h,.rfl,h⟩
theorem circIn_all{M:Nat→Ml.M}{C:Nat→Bool}{N:Nat→W.Nav}{R:Nat→W.Report}{k:Nat}(h:∀ j,j<k→StepR (N j) (M j) (C j) (N (j+1)) (R j))(h0:CircIn (N 0)):∀ j,j≤k→CircIn (N j):=by
 intro j
 induction j with
 |zero=>intro _;exact h0
 |succ j ih=>intro hj;exact(ih (by omega)).step (h j (by omega))
theorem growth_law(hA:Adm c t s){rs:List W.Report}{n:W.Nav}{l:List Int}(hn:s.ticks.length≤90)(hl:EOk t l)(hR:RunTo (mailK c t s) (cmdK s) (startN c t l) s.ticks.length n rs){a b:Nat}(hab:a<b)(hb:b<s.ticks.length)
  (hm:∀ k,a≤k→k≤b→(rs.getD k rp0).mode=2) (hx:∀ k,a<k→k≤b→(rs.getD k rp0).accepted=false) :
  (rs.getD a rp0).pos.right∧(rs.getD b rp0).pos.right∧(rs.getD a rp0).pos.hi-(rs.getD a rp0).pos.lo≤(rs.getD b rp0).pos.hi-(rs.getD b rp0).pos.lo ∧
   1048576*(((rs.getD b rp0).pos.hi-(rs.getD b rp0).pos.lo)-((rs.getD a rp0).pos.hi-(rs.getD a rp0).pos.lo))≤c.growth.1*((rs.getD b rp0).dist-(rs.getD a rp0).dist)+c.growth.2*((b-a:Nat):Int)*1048576 ∧
   (rs.getD a rp0).dist≤(rs.getD b rp0).dist∧0≤(rs.getD a rp0).dist∧(rs.getD b rp0).dist≤16777216*90:=by
 obtain⟨N,h1,h2,h3⟩:=hR.steps
 have hN0:=startN_ok hA.n.conf hA.n.chk.ok hl
 have ok:=steps_ok h3 (by rw [h1];exact hN0) (by rw [h1];rfl) (by omega)
 have ci:=circIn_all h3 (by rw [h1];exact startN_circ hA.n.conf)
 have h3:∀ j,j<s.ticks.length→StepR (N j) (mailK c t s j) (cmdK s j) (N (j+1)) (rs.getD j rp0):=h3
 have key:∀ d,a+d≤b→(N (a+d+1)).place.on=true∧(rs.getD (a+d) rp0).pos=(N (a+d+1)).place.pos∧(rs.getD (a+d) rp0).dist=(N (a+d+1)).dist∧(0<d→(N (a+1)).place.pos.right) ∧
   (N (a+1)).place.pos.hi-(N (a+1)).place.pos.lo≤(N (a+d+1)).place.pos.hi-(N (a+d+1)).place.pos.lo∧(N (a+1)).dist≤(N (a+d+1)).dist ∧
   1048576*(((N (a+d+1)).place.pos.hi-(N (a+d+1)).place.pos.lo)-((N (a+1)).place.pos.hi-(N (a+1)).place.pos.lo))≤c.growth.1*((N (a+d+1)).dist-(N (a+1)).dist)+c.growth.2*(d:Int)*1048576:=by
  intro d
  induction d with
  |zero =>
   intro hd
   obtain⟨m1,m2,m3,_⟩:=mode2 (h3 a (by omega)) (hm a (by omega) (by omega))
   exact⟨m1,m2,m3,fun h=>by omega,Int.le_refl _,Int.le_refl _,by simp⟩
  |succ d ih =>
   intro hd
   obtain⟨i1,i2,i3,i4,i5,i6,i7⟩:=ih (by omega)
   have hs:=h3 (a+d+1) (by omega)
   have hmm:=hm (a+d+1) (by omega) (by omega)
   obtain⟨m1,m2,m3,_⟩:=mode2 hs hmm
   obtain⟨o1,o2,o3,o4⟩:=ok (a+d+1) (by omega)
   have hcc:(N (a+d+1)).c=c:=by rw [o3,h1];rfl
   obtain⟨g1,g2,g3,g4,g5⟩:=hs.grows o1 (ci (a+d+1) (by omega)) (hx (a+d+1) (by omega) (by omega)) hmm i1
   rw [hcc] at g5
   have e:a+(d+1)=a+d+1:=by omega
   rw [e]
   unfold W.Sp.right at g1 g2
   have am:0≤W.abs (rs.getD (a+d+1) rp0).speed.mid:=by unfold W.abs;split<;>omega
   refine⟨m1,m2,m3,fun _=>?_,?_,by omega,?_⟩
   ·by_cases hd0:d=0
    ·subst hd0;exact g1
    ·exact i4 (by omega)
   ·rw [g3];dsimp only;omega
   ·rw [g3,g4]
    dsimp only
    rw [show (N (a+d+1)).dist+W.abs (rs.getD (a+d+1) rp0).speed.mid-(N (a+1)).dist=((N (a+d+1)).dist-(N (a+1)).dist)+W.abs (rs.getD (a+d+1) rp0).speed.mid by omega,Int.mul_add,show ((d+1:Nat):Int)=(d:Int)+1 by omega,Int.mul_add,Int.mul_one]
    omega
 obtain⟨a1,a2,a3,_⟩:=key 0 (by omega)
 obtain⟨b1,b2,b3,b4,b5,b6,b7⟩:=key (b-a) (by omega)
 have e:a+(b-a)=b:=by omega
 rw [e] at b1 b2 b3 b5 b6 b7
 simp only [Nat.add_zero] at a1 a2 a3
 have hr:=b4 (by omega)
 obtain⟨oa,oca,_⟩:=ok (a+1) (by omega)
 obtain⟨ob,ocb,_⟩:=ok (b+1) (by omega)
 have da:=oa.di
 have db:=ob.di
 rw [a2,a3,b2,b3]
 unfold W.Sp.right at *
 exact⟨hr,by omega,b5,b7,b6,da.1,by omega⟩
end
section
variable{c:W.Conf}{t:W.Trk}{s:W.Script}
theorem QAt.shl20{P:Program}{o:Oper}{tm:Tm}{own:Ow}{K:AV→Prop}{t t':TypeId}{x y:Operand}{p:Int}(ho:o.op=.binOp .shl t x y t')(hx:ev tm x fun v=>v=.int .i64 p)(hy:ev tm y fun v=>v=.int .u64 20)(hp:W.I64 (p*1048576))(hK:K (.int .i64 (p*1048576))):QAt P o tm own K :=
 QAt.bin ho hx hy rfl rfl (r:=.int .i64 (p*1048576)) rfl (fun w=>by
  simp only [val]
  rw [Sem.run_bind,guard_int]
  simp [Go.binOp,Op.shift,IntKind.bits,wrap_i64 hp]) hK
theorem up_most{a b m:Int}(hb:0<b)(h:a≤b*m):W.up a b≤m:=by
 obtain⟨h1,h2⟩:=@W.up_ge a b hb
 apply Decidable.byContradiction
 intro q
 have:b*(m+1)≤b*W.up a b:=Int.mul_le_mul_of_nonneg_left (by omega) (by omega)
 rw [Int.mul_add] at this
 omega
theorem growth_b(hc:ConfB c):0≤c.growth.1∧c.growth.1≤1000000∧0≤c.growth.2∧c.growth.2≤200000000:=by
 have h1:=hc.pulses
 have h2:=hc.circLo
 have h3:=hc.circHi
 have h4:=hc.part
 have h5:=hc.radBase
 have h6:=hc.radPart
 have u1:=(@W.up_ge (1048576*(c.circHi-c.circLo)) c.circLo (by omega)).1
 have u2:=(@W.up_ge c.circHi c.pulses (by omega)).1
 have v1:W.up (1048576*(c.circHi-c.circLo)) c.circLo≤65536:=up_most (by omega) (by omega)
 have v2:W.up c.circHi c.pulses≤c.circHi:=up_most (by omega) (by
  have:=Int.mul_le_mul_of_nonneg_right h1.1 (show 0≤c.circHi by omega)
  omega)
 have nn:∀ a b:Int,0<a→0≤a*b→0≤b:=fun a b ha hb=>by
  apply Decidable.byContradiction;intro q
  have:=Int.mul_neg_of_pos_of_neg ha (show b<0 by omega)
  omega
 have hA:=nn _ _ (by omega) (Int.le_trans (by omega) u1)
 have hP:=nn _ _ (by omega) (Int.le_trans (by omega) u2)
 show 0≤4 * _+6*c.radPart∧4 * _+6*c.radPart≤1000000∧0≤12 * _+6*c.radBase+9∧12 * _+6*c.radBase+9≤200000000
 omega
theorem growth_pos(hA:Adm c t s){rs:List W.Report}{n:W.Nav}{l:List Int}(hn:s.ticks.length≤90)(hl:EOk t l)(hR:RunTo (mailK c t s) (cmdK s) (startN c t l) s.ticks.length n rs){k:Nat}(hk:k<s.ticks.length)(hm:(rs.getD k rp0).mode=2) :
  -17592186044416≤(rs.getD k rp0).pos.lo∧(rs.getD k rp0).pos.lo≤17592186044416∧-17592186044416≤(rs.getD k rp0).pos.hi∧(rs.getD k rp0).pos.hi≤17592186044416:=by
 obtain⟨N,h1,h2,h3⟩:=hR.steps
 have hN0:=startN_ok hA.n.conf hA.n.chk.ok hl
 have ok:=steps_ok h3 (by rw [h1];exact hN0) (by rw [h1];rfl) (by omega)
 have h3:∀ j,j<s.ticks.length→StepR (N j) (mailK c t s j) (cmdK s j) (N (j+1)) (rs.getD j rp0):=h3
 obtain⟨m1,m2,_⟩:=mode2 (h3 k hk) hm
 have hp:=(ok (k+1) (by omega)).1.pl m1
 rw [m2]
 exact⟨hp.lo.1,hp.lo.2,hp.hi.1,hp.hi.2⟩
theorem yGrowthLaw(hs:ScrO s)(h0:t.segs.length≤1000000)(h1:t.grps.length≤1000000)(a b:Int):Ret Tryz.prog 5 [confV c,trkV t,scrV s,I a,I b] (·=.bool true):=by
 have eR:=yRide (c:=c) h0 h1 hs
 have eA:=yAlive aliveIs
 have ht:=hs.ticks
 refine enterO tabOk (N:=135) (gs:=[]) (args:=[_,_,_,_,_]) Tryz.func5 rfl rfl rfl (nLe rfl) (fun E hE=>?_)
 conv=>whnf
 refine CallS.call (CallN.puP eR rfl (fun v hv=>?_))
 obtain hv|⟨hsm,hAd,rs,n,l,hv,hl,hRun⟩:=hv
 ·subst hv
  conv=>whnf
  repeat' ((first|refine Br.ot rfl ?_|refine CallS.q (eA) rfl ?_|refine FinAt.val rfl ?_);conv=>whnf)
  all_goals rfl
 ·subst hv
  have hsf:=small_facts hsm
  have hlen:=hRun.len
  by_cases hab:0≤a∧a<b∧b<rs.length
  rotate_left
  ·conv=>whnf
   repeat' (first|((first|refine Br.pt (by assumption) ?_|refine Br.pf (by assumption) ?_|refine Br.pt (by omega) ?_|refine Br.nf (by omega) ?_|refine Br.ot rfl ?_|refine Br.of rfl ?_|refine CallS.q (eA) rfl ?_|refine FinAt.val rfl ?_);conv=>whnf)|((refine Br.d (fun h=>?_) (fun h=>?_))<;>conv=>whnf))
   all_goals first|rfl|omega
  ·obtain⟨ha0,hab,hb⟩:=hab
   obtain⟨x,rfl⟩:=Int.eq_ofNat_of_zero_le ha0
   obtain⟨y,rfl⟩:=Int.eq_ofNat_of_zero_le (show 0≤b by omega)
   conv=>whnf
   repeat' ((first|refine Br.pf (by omega) ?_|refine Br.nf (by omega) ?_|refine Br.of rfl ?_);conv=>whnf)
   all_goals try omega
   refine LoopAt.rule tabOk [(3,_),(4,_),(5,_),(6,_),(7,_),(11,_)] (fun (k:Nat)=>[(13,.int .i64 (k:Int))]) (fun (k:Nat)=>[.blk (confC c),.blk [sgsV t.segs,gpsV t.grps],.blk (scrC s)]) (fun (k:Nat)=>x≤k∧k≤y+1∧(∀ j,x≤j→j<k→(rs.getD j rp0).mode=2)∧(∀ j,x<j→j<k→(rs.getD j rp0).accepted=false)) (fun (k:Nat)=>y+1-k) x (by trivial) ⟨Nat.le_refl _,by omega,fun j h1 h2=>absurd h2 (by omega),fun j h1 h2=>absurd h2 (by omega)⟩ (by trivial) (by trivial) (fun _=>⟨rfl,rfl,rfl,by simp [hE]⟩) (fun k hk=>?_)
   obtain⟨k1,k2,k3,k4⟩:=hk
   by_cases hlt:k≤y
   ·by_cases hm:(rs.getD k rp0).mode=2
    ·have k3':∀ j,x≤j→j<k+1→(rs.getD j rp0).mode=2:=fun j h1 h2=>by
      rcases Nat.lt_or_ge j k with q|q
      ·exact k3 j h1 q
      ·obtain rfl:j=k:=by omega
       exact hm
     by_cases hx:x<k
     ·cases ha:(rs.getD k rp0).accepted with
      |true =>
       conv=>whnf
       repeat' ((first|refine Br.ot (by assumption) ?_|refine Br.nf (by assumption) ?_|refine Br.pt (by omega) ?_|refine CallS.q (eA) rfl ?_|refine Ob.mk (by omega) ?_|refine Ix.nat _ ?_|refine FinAt.val rfl ?_);conv=>whnf)
       all_goals first|rfl|omega
      |false =>
       have k4':∀ j,x<j→j<k+1→(rs.getD j rp0).accepted=false:=fun j h1 h2=>by
        rcases Nat.lt_or_ge j k with q|q
        ·exact k4 j h1 q
        ·obtain rfl:j=k:=by omega
         exact ha
       conv=>whnf
       repeat' ((first|refine Br.of (by assumption) ?_|refine Br.nf (by assumption) ?_|refine Br.pt (by omega) ?_|refine Ob.mk (by omega) ?_|refine Ob.mk (by unfold W.I64 at *;omega) ?_|refine Ix.nat _ ?_);conv=>whnf)
       all_goals first|omega|exact⟨k+1,⟨by omega,by omega,k3',k4'⟩,by omega,(by trivial),(by trivial),(by trivial)⟩
     ·have k4':∀ j,x<j→j<k+1→(rs.getD j rp0).accepted=false:=fun j h1 h2=>absurd h2 (by omega)
      conv=>whnf
      repeat' ((first|refine Br.nf (by assumption) ?_|refine Br.pt (by omega) ?_|refine Br.pf (by omega) ?_|refine Br.of rfl ?_|refine Ob.mk (by omega) ?_|refine Ob.mk (by unfold W.I64 at *;omega) ?_|refine Ix.nat _ ?_);conv=>whnf)
      all_goals first|omega|exact⟨k+1,⟨by omega,by omega,k3',k4'⟩,by omega,(by trivial),(by trivial),(by trivial)⟩
    ·conv=>whnf
     repeat' ((first|refine Br.nt (by assumption) ?_|refine Br.pt (by omega) ?_|refine Br.ot rfl ?_|refine CallS.q (eA) rfl ?_|refine Ob.mk (by omega) ?_|refine Ix.nat _ ?_|refine FinAt.val rfl ?_);conv=>whnf)
     all_goals first|rfl|omega
   ·obtain rfl:k=y+1:=by omega
    obtain⟨g1,g2,g3,g4,g5,g6,g7⟩:=growth_law hAd (by omega) hl hRun (a:=x) (b:=y) (by omega) (by omega) (fun j h1 h2=>k3 j h1 (by omega)) (fun j h1 h2=>k4 j h1 (by omega))
    have eG:=yGrowth c (fitsR_zero hAd.fitR).1
    obtain⟨q1,q2,q3,q4⟩:=growth_b hAd.n.conf
    unfold W.Sp.right at g1 g2
    have eW:∀ p:W.Sp,p.lo≤p.hi→W.I64 p.lo→W.I64 p.hi→Ret Tryz.prog 11 [.agg [.int .i64 p.lo,.int .i64 p.hi]] (·=.int .u64 (p.hi-p.lo)):=fun p h k k'=>by
     have:=spWidth p.lo p.hi k k'
     rw [width_le h] at this
     exact this
    have i1:=growth_pos hAd (by omega) hl hRun (k:=x) (by omega) (k3 x (by omega) (by omega))
    have i2:=growth_pos hAd (by omega) hl hRun (k:=y) (by omega) (k3 y (by omega) (by omega))
    have eWa:=eW (rs.getD x rp0).pos g1 (by unfold W.I64;omega) (by unfold W.I64;omega)
    have eWb:=eW (rs.getD y rp0).pos g2 (by unfold W.I64;omega) (by unfold W.I64;omega)
    have m1:0≤c.growth.1*((rs.getD y rp0).dist-(rs.getD x rp0).dist)∧c.growth.1*((rs.getD y rp0).dist-(rs.getD x rp0).dist)≤1000000*1509949440 :=
     ⟨Int.mul_nonneg q1 (by omega),Int.mul_le_mul q2 (by omega) (by omega) (by omega)⟩
    have ey:((y:Int)-(x:Int))=((y-x:Nat):Int):=by omega
    have m2:0≤c.growth.2*((y:Int)-(x:Int))∧c.growth.2*((y:Int)-(x:Int))≤200000000*90 :=
     ⟨Int.mul_nonneg q3 (by omega),Int.mul_le_mul q4 (by omega) (by omega) (by omega)⟩
    rw [← ey] at g4
    conv=>whnf
    repeat' ((first|refine QAt.shl20 rfl rfl rfl (by unfold W.I64;omega) ?_|refine Br.pt (by omega) ?_|refine Br.pf (by omega) ?_|refine CallS.q (eG) rfl ?_|refine CallS.q (eA) rfl ?_|refine CallX.pu (eWa) rfl rfl ?_|refine CallX.pu (eWb) rfl rfl ?_|refine Ob.mk (by omega) ?_|refine Ob.mk (by unfold W.I64 at *;omega) ?_|refine Drw.loose (by kernel_rfl) ?_|refine Ix.nat _ ?_|refine FinAt.val rfl ?_);conv=>whnf)
    all_goals first|rfl|omega
end
section
variable{c:W.Conf}{t:W.Trk}{s:W.Script}
theorem yGrowthG(h:ScrG s)(a b:Int):Ret Tryz.prog 5 [confV c,trkV t,scrV s,I a,I b] (·=.bool true):=by
 cases hs:W.smallB t s with
 |true =>
  obtain⟨h0,h1,h2⟩:=h.o hs
  exact yGrowthLaw h2 h0 h1 a b
 |false =>
  have eR:=yRide0 (c:=c) hs
  have eA:=yAlive aliveIs
  refine enterO tabOk (N:=135) (gs:=[]) (args:=[_,_,_,_,_]) Tryz.func5 rfl rfl rfl (nLe rfl) (fun E hE=>?_)
  conv=>whnf
  repeat' ((first|refine Br.ot rfl ?_|refine CallS.q (eR) rfl ?_|refine CallS.q (eA) rfl ?_|refine FinAt.val rfl ?_);conv=>whnf)
  all_goals first|rfl|omega
theorem growthG_law(c:W.Conf)(t:W.Trk)(s:W.Script)(hs:ScrG s)(a b:Int)(w:World)(Vs:List Value)(hV:all2 (R (AllB w) w []) [confV c,trkV t,scrV s,I a,I b] Vs) :
  Calls Tryz.prog 5 ⟨Vs⟩ w fun e w'=>e=.returned (.bool true)∧Below w.heap.size w w' :=
 (yGrowthG hs a b).law w Vs hV
end
end Y
end Go.Proofs.YtllemifiammnnaaGreat
