/- Part 7 of the proof. No condition. -/
import Derived.Test.YtllemifiammnnaaGreatG06
import Derived.Test.YtllemifiammnnaaGreatG02
set_option linter.unusedVariables false
set_option linter.unusedSimpArgs false
set_option maxRecDepth 100000
set_option maxHeartbeats 4000000
namespace Go.Proofs.YtllemifiammnnaaGreat
namespace Y
open Go Go.RowKit Go.Sort
def YOk(P:Program)(o:Oper)(tmr:Tm)(v:AV):Prop:=∀ S n ids a,Sl S n ids tmr a→∃ V,R S n ids v V∧∀ w,(execOp a.eval o).run P w=.ok (.value V) w
def GL(P:Program)(all:List Oper)(own:Ow)(late:List Oper)(o:Oper)(tmr:Tm)(v:AV):Prop:=OneOk P all own o tmr v∧(o∈late→YOk P o tmr v)
def stepP(T:Tab)(tm:Tm)(o:Oper)(K:AV→Prop):Prop :=
 match o.op with
 |.move x=>ev tm x K
 |.assign x=>ev tm x K
 |.binOp op _ x y _=>ev tm x fun
  |.int .i64 a=>ev tm y fun
   |.int .i64 b=>match op with
    |.add=>Ob (W.I64 (a+b)) (K (.int .i64 (a+b)))
    |.sub=>Ob (W.I64 (a-b)) (K (.int .i64 (a-b)))
    |_=>False
   |_=>False
  |_=>False
 |.indexAddr t x ix=>ev tm x fun
  |.sl i off sz n c=>match (look T.sl t).bind (look T.tk) with
   |some k=>ev tm ix fun
    |.int _ j=>Ix j fun j=>Ob (j<n) (bif Nat.beq sz (szOf k) then Pc i (off+j*sz) K else False)
    |_=>False
   |none=>False
  |_=>False
 |_=>False
theorem YOk.of{P:Program}{o:Oper}{tm:Tm}{v:AV}{K:AV→Prop}(hv:K v)(h:YOk P o tm v):∃ v,K v∧YOk P o tm v:=⟨v,hv,h⟩
theorem stepP_sound{P:Program}{T:Tab}(hT:TabOk P T){o:Oper}{K:AV→Prop}{tm:Tm}(h:stepP T tm o K):∃ v,K v∧YOk P o tm v:=by
 unfold stepP at h
 split at h
 ·rename_i x ho
  obtain⟨v,h1,h2⟩:=ev_sound h
  exact YOk.of h1 fun S n ids a hs=>⟨_,h2 S n ids a hs,fun w=>by unfold execOp;simp only [ho];rfl⟩
 ·rename_i x ho
  obtain⟨v,h1,h2⟩:=ev_sound h
  exact YOk.of h1 fun S n ids a hs=>⟨_,h2 S n ids a hs,fun w=>by unfold execOp;simp only [ho];rfl⟩
 ·rename_i op t x y t' ho
  obtain⟨u,h1,h2⟩:=ev_sound h
  split at h1
  ·rename_i p
   obtain⟨u',h3,h4⟩:=ev_sound h1
   split at h3
   ·rename_i q
    split at h3
    ·refine YOk.of h3.k fun S n ids a hs=>⟨_,rfl,fun w=>?_⟩
     refine execOp_bin ho a ?_
     rw [(h2 S n ids a hs).int,(h4 S n ids a hs).int,Sem.run_bind,guard_int]
     simp [Go.binOp,Op.intArith,wrap_i64 h3.p]
    ·refine YOk.of h3.k fun S n ids a hs=>⟨_,rfl,fun w=>?_⟩
     refine execOp_bin ho a ?_
     rw [(h2 S n ids a hs).int,(h4 S n ids a hs).int,Sem.run_bind,guard_int]
     simp [Go.binOp,Op.intArith,wrap_i64 h3.p]
    ·exact h3.elim
   ·exact h3.elim
  ·exact h1.elim
 ·rename_i t x ix ho
  obtain⟨v,h1,h2⟩:=ev_sound h
  split at h1
  ·rename_i i off sz m c
   split at h1
   ·rename_i k hk
    obtain⟨e,hk1,hk2⟩:=lookB hk
    obtain⟨u,h3,h4⟩:=ev_sound h1
    split at h3
    ·rename_i ik j
     obtain⟨j,rfl,h5,h6⟩:=h3.out
     cases hsz:Nat.beq sz (szOf k) with
     |false=>rw [hsz] at h6;exact absurd h6 (by simp)
     |true =>
      rw [hsz] at h6
      obtain rfl:=Nat.eq_of_beq_eq_true hsz
      simp only [cond_true] at h6
      have key:∀ S n ids a,Sl S n ids tm a→∃ b,nth ids i=some (Loc.at_ b)∧∀ w,(execOp a.eval o).run P w=.ok (.value (.pointer (some ⟨b,off+j*szOf k,none⟩))) w:=fun S n ids a hs=>by
       obtain⟨b,g1,g2⟩:=(h2 S n ids a hs).sl
       exact⟨b,g1,fun w=>by unfold execOp;simp only [ho,g2,(h4 S n ids a hs).int,Sem.run_bind,run_indexAt_sl hT hk1 hk2 h5];rfl⟩
      rcases h6.out with h6|h6
      ·exact YOk.of h6 fun S n ids a hs=>by obtain⟨b,g1,g2⟩:=key S n ids a hs;exact⟨_,⟨b,g1,rfl⟩,g2⟩
      ·exact YOk.of h6 fun S n ids a hs=>by obtain⟨b,g1,g2⟩:=key S n ids a hs;exact⟨_,⟨b,g1,rfl⟩,g2⟩
    ·cases h3
   ·cases h1
  ·cases h1
 ·exact h.elim
def WP(T:Tab)(N:Nat)(all:List Oper):List Oper→(Tm→Prop)→Tm→Prop
 |[],K,tm=>K tm
 |o::l,K,tm=>stepP T (rst tm (useTs all o)) o fun v=>put N tm o.dst v fun tm=>WP T N all l K tm
theorem YOk.one{P:Program}{all:List Oper}{own:Ow}{o:Oper}{tmr:Tm}{v:AV}(h:YOk P o tmr v)(hg:o.guard=none):OneOk P all own o tmr v:=fun N E S ids a n hs=>by
 obtain⟨V,h1,h2⟩:=h S n ids a hs.sl
 refine .inl ⟨by simp [Region.wanted,hg],fun Q=>?_⟩
 unfold Oper.wp
 rw [h2]
 exact⟨V,S,rfl,h1,Below.refl _ _,fun _ h=>h,fun _ h _=>h,hs.slt⟩
theorem WP_tr{P:Program}{T:Tab}(hT:TabOk P T){N:Nat}{all:List Oper}{own:Ow}{late:List Oper}:∀ {l:List Oper} {K:Tm→Prop} {tm:Tm},(∀ o∈l,o.dst.isSome=true∧o.guard=none)→WP T N all l K tm→∃ vs tm',Tr (GL P all own late) N all l tm vs tm'∧K tm'
 |[],K,tm,_,h=>⟨[],tm,⟨rfl,rfl⟩,h⟩
 |o::l,K,tm,hd,h=>by
  simp only [WP] at h
  obtain⟨hd1,hd2⟩:=hd o List.mem_cons_self
  obtain⟨d,hod⟩:=Option.isSome_iff_exists.1 hd1
  obtain⟨v,h3,h4⟩:=stepP_sound hT h
  rw [hod] at h3
  simp only [put] at h3
  cases e:Nat.ble (d+1) N with
  |false=>rw [e] at h3;exact absurd h3 (by simp)
  |true =>
   rw [e] at h3
   simp only [cond_true,fc_iff] at h3
   obtain⟨vs,tm',h1,h2⟩:=WP_tr hT (fun x hx=>hd x (List.mem_cons_of_mem _ hx)) h3
   exact⟨v::vs,tm',⟨v,vs,d,rfl,hod,nLe e,⟨h4.one hd2,fun _=>h4⟩,h1⟩,h2⟩
theorem Tr.imp{G G':Oper→Tm→AV→Prop}{N:Nat}{all:List Oper}:∀ {l:List Oper} {tm:Tm} {vs:List AV} {tm':Tm},(∀ o∈l,∀ tmr v,G o tmr v→G' o tmr v)→Tr G N all l tm vs tm'→Tr G' N all l tm vs tm'
 |[],_,_,_,_,h=>h
 |o::l,_,_,_,hi,⟨v,r,d,e,h1,h2,h3,h4⟩=>⟨v,r,d,e,h1,h2,hi o List.mem_cons_self _ _ h3,h4.imp fun o ho=>hi o (List.mem_cons_of_mem _ ho)⟩
theorem Tr.append{G:Oper→Tm→AV→Prop}{N:Nat}{all:List Oper}:∀ {l:List Oper} {tm:Tm} {vs:List AV} {tm1:Tm} {l':List Oper} {vs':List AV} {tm':Tm},Tr G N all l tm vs tm1→Tr G N all l' tm1 vs' tm'→Tr G N all (l++l') tm (vs++vs') tm'
 |[],_,_,_,_,_,_,⟨e1,e2⟩,h=>by subst e1;subst e2;exact h
 |o::l,_,_,_,_,_,_,⟨v,r,d,e,h1,h2,h3,h4⟩,h=>by subst e;exact⟨v,r++_,d,rfl,h1,h2,h3,h4.append h⟩
def useL(all:List Oper)(ks:List Nat):Bool :=
 (List.range ks.length).all fun p=>match all[ks.getD p 0]? with
  |some o=>(useTs all o).all fun t=>(List.range all.length).all fun j=>match all[j]? with
   |some oj=>!(oj.dst==some t) || !(ks.contains j)||((ks.take p).contains j&&up2 all (ks.getD p 0) j)
   |none=>true
  |none=>false
theorem useL_spec{all:List Oper}{ks:List Nat}(hu:useL all ks=true){p i:Nat}{o:Oper}(hi:ks[p]?=some i)(ho:all[i]?=some o){t:Nat}(ht:t∈useTs all o){j:Nat}{oj:Oper}(hj:all[j]?=some oj)(hd:oj.dst=some t)(hm:j∈ks):j∈ks.take p∧upB .any all.toArray all.length i j=true:=by
 have hg:ks.getD p 0=i:=by simp [List.getD,hi]
 have h1:=List.all_eq_true.1 hu p (List.mem_range.2 (List.getElem?_eq_some_iff.1 hi).1)
 simp only [hg,ho] at h1
 have h2:=List.all_eq_true.1 h1 t ht
 have h3:=List.all_eq_true.1 h2 j (List.mem_range.2 (List.getElem?_eq_some_iff.1 hj).1)
 simp only [hj,hd] at h3
 have h4:(ks.take p).contains j=true∧up2 all i j=true:=by simpa [hm] using h3
 exact⟨by simpa using h4.1,up2_up h4.2⟩
theorem wpAny_lateZ{P:Program}{N:Nat}{E:En}{all:List Oper}{ks:List Nat}{tm tm':Tm}{own:Ow}{late:List Oper}{vs:List AV}{Q:Exit→Act→World→Prop}(hks:∀ k∈ks,k<all.length)(hnd:ks.Nodup)
  (kc:List Nat) (hsel:Region.noSelect all.toArray=true) (hpan:∀ c a d v w,Q (.panic c) (a.put (some d) v) w→Q (.panic c) a w) (huse:useL all ks=true) (hback:backB all ks=true) (hdist:distB all ks=true) (hTr:Tr (GL P all own late) N all (opsK all ks) tm vs tm')
  (hlate:∀ k∈ks,¬ k∈kc→∀ o,all[k]?=some o→o.guard=none∧o∈late)
  (hfree:∀ J,J∈subl (ks.filter fun k=>!kc.contains k)→∀ i r,J=i::r→Region.free .any all.toArray (listedK all.length (lateK ks J)) i=true)
  (hend:∀ S ids a n,Sim N E tm' own S ids a n→wpAny P .any all.toArray Q (all.length-ks.length) (listedK all.length ks) a n) :
  ∀ (f:Nat) (listed:Array Bool) (a:Act) (n:World),DInv N E all ks tm own vs listed a n→(ks.filter fun j=>!listed.getD j false).length=f→(∀ j∈kc,listed.getD j false=true)→wpAny P .any all.toArray Q (f+(all.length-ks.length)) listed a n
 |0,listed,a,n,hinv,hf,hdone=>by
  have hall:∀ j,j∈ks→listed.getD j false=true:=fun j hj=>by
   have:=List.length_eq_zero_iff.1 hf
   rw [List.filter_eq_nil_iff] at this
   simpa using this j hj
  have hl:listed=listedK all.length ks:=by
   apply Array.ext
   ·rw [hinv.hi.size];simp [listedK]
   ·intro j h1 h2
    have e1:listed.getD j false=listed[j]:=by simp [Array.getD,h1]
    have e2:(listedK all.length ks)[j]=ks.contains j:=by simp [listedK]
    rw [e2,← e1]
    by_cases hj:j∈ks
    ·rw [hall j hj];simp [hj]
    ·rw [hinv.out j hj];simp [hj]
  subst hl
  rw [Nat.zero_add]
  obtain⟨S,ids,h1,h2,h3⟩:=hinv.st
  refine hend S ids a n (h1.with fun t v hv=>?_)
  rcases hTr.end_ t v hv with ⟨p,oj,q1,q2,q3,q4,_⟩|⟨q1,q2⟩
  ·obtain⟨k,k1,k2⟩:=(opsK_get hks).1 q2
   exact h3 p k oj t v k1 (hall k (List.mem_of_getElem? k1)) k2 q3 q4
  ·exact h2 t v q1 fun j oj hj hoj=>by
    obtain⟨p,hp,e⟩:=List.getElem_of_mem hj
    exact q2 p oj ((opsK_get hks).2 ⟨j,by simp [hp,e],hoj⟩)
 |f+1,listed,a,n,hinv,hf,hdone=>by
  rw [show f+1+(all.length-ks.length)=(f+(all.length-ks.length))+1 by omega]
  have hsz:=hinv.hi.size
  have gD:∀ j,j<all.length→listed.getD j true=listed.getD j false:=fun j hj=>by simp [Array.getD,hsz,hj]
  obtain⟨i,r,hJ⟩:∃ i r,(ks.filter fun j=>!listed.getD j false)=i::r:=by
   cases e:ks.filter fun j=>!listed.getD j false with
   |nil=>rw [e] at hf;simp at hf
   |cons i r=>exact⟨i,r,rfl⟩
  have hmem:i∈ks.filter fun j=>!listed.getD j false:=by rw [hJ];exact List.mem_cons_self
  have hih:i∈ks:=(List.mem_filter.1 hmem).1
  have hun':listed.getD i false=false:=by simpa using (List.mem_filter.1 hmem).2
  have hikc:¬ i∈kc:=fun h=>by rw [hdone i h] at hun';cases hun'
  obtain⟨p,hp,ep⟩:=List.getElem_of_mem hih
  have hip:ks[p]?=some i:=by simp [hp,ep]
  have hil:i<all.length:=hks i hih
  have ho:all[i]?=some all[i]:=List.getElem?_eq_getElem hil
  generalize all[i]=o at ho
  have ho':all.toArray[i]?=some o:=by simpa using ho
  have hfirst:∀ j,j∈ks.take p→listed.getD j false=true:=fun j hj=>by
   cases e:listed.getD j false with
   |true=>rfl
   |false =>
    exfalso
    have hsplit:ks.filter (fun j=>!listed.getD j false)=(ks.take p).filter (fun j=>!listed.getD j false)++(ks.drop p).filter (fun j=>!listed.getD j false):=by rw [← List.filter_append,List.take_append_drop]
    have hne:(ks.take p).filter (fun j=>!listed.getD j false)≠[]:=fun e'=>by
     have:j∈(ks.take p).filter (fun j=>!listed.getD j false):=List.mem_filter.2 ⟨hj,by rw [e];rfl⟩
     rw [e'] at this;cases this
    obtain⟨x,l,hx⟩:=List.exists_cons_of_ne_nil hne
    rw [hJ,hx] at hsplit
    have hix:i=x:=(List.cons.inj hsplit).1
    have hxt:x∈ks.take p:=(List.mem_filter.1 (show x∈(ks.take p).filter (fun j=>!listed.getD j false) by rw [hx];exact List.mem_cons_self)).1
    rw [← hix] at hxt
    obtain⟨q,hq,eq⟩:=List.getElem_of_mem hxt
    rw [List.getElem_take] at eq
    have hql:q<p:=by simp at hq;omega
    have hq':ks[q]?=some i:=by rw [List.getElem?_eq_getElem (by omega),eq]
    have:=(List.getElem?_inj (by omega) hnd).1 (hq'.trans hip.symm)
    omega
  have hi:i∈Region.ready .any all.toArray listed:=mem_ready.2 ⟨by rw [gD i hil];exact hun',o,ho',fun e he hb=>hfirst _ (backB_spec hback hip ho e he hb)⟩
  have hsubl:(ks.filter fun j=>!listed.getD j false)∈subl (ks.filter fun k=>!kc.contains k):=by
   have e:(ks.filter fun j=>!listed.getD j false)=(ks.filter fun k=>!kc.contains k).filter fun j=>!listed.getD j false:=by
    rw [List.filter_filter]
    refine List.filter_congr fun j hj=>?_
    cases e1:listed.getD j false with
    |true=>simp
    |false =>
     have:¬ j∈kc:=fun h=>by rw [hdone j h] at e1;cases e1
     simp [this]
   rw [e]
   exact filter_subl _ _
  have hl:listed=listedK all.length (lateK ks (ks.filter fun j=>!listed.getD j false)):=by
   apply Array.ext
   ·rw [hinv.hi.size];simp [listedK]
   ·intro j h1 h2
    have e1:listed.getD j false=listed[j]:=by simp [Array.getD,h1]
    have e2:(listedK all.length (lateK ks (ks.filter fun j=>!listed.getD j false)))[j]=(lateK ks (ks.filter fun j=>!listed.getD j false)).contains j:=by simp [listedK]
    rw [e2,← e1,Bool.eq_iff_iff]
    simp only [lateK,List.contains_iff_mem,List.mem_filter,Bool.not_eq_eq_eq_not,Bool.not_true,List.contains_eq_mem,decide_eq_false_iff_not,not_and,decide_eq_true_eq]
    refine⟨fun h=>?_,fun ⟨h1,h2⟩=>?_⟩
    ·have hj:j∈ks:=by
      by_cases hj:j∈ks
      ·exact hj
      ·rw [hinv.out j hj] at h;cases h
     exact⟨hj,fun _=>by rw [h];simp⟩
    ·have:=h2 h1
     simpa using this
  have hfr:=hfree _ hsubl i r hJ
  rw [← hl] at hfr
  obtain⟨hgd,hol⟩:=hlate i hih hikc o ho
  obtain⟨hvl,hTa⟩:=hTr.at_
  obtain⟨v,d,tmi,g1,g2,g3,g4,g5⟩:=hTa p o ((opsK_get hks).2 ⟨i,hip,ho⟩)
  obtain⟨S,ids,h1,h2,h3⟩:=hinv.st
  have hsim:Sim N E (rst tmi (useTs all o)) own S ids a n:=h1.with fun t u hu=>by
   obtain⟨q1,q2⟩:=rst_look hu
   rcases g5 t u q2 with ⟨q,oj,p1,p2,p3,p4,_⟩|⟨p1,p2⟩
   ·obtain⟨j,k1,k2⟩:=(opsK_get hks).1 p2
    obtain⟨r1,r2⟩:=useL_spec huse hip ho q1 k2 p3 (List.mem_of_getElem? k1)
    exact h3 q j oj t u k1 (up_ready hinv.hi r2 hi) k2 p3 p4
   ·refine h2 t u p1 fun j oj hj hoj e=>?_
    obtain⟨r1,r2⟩:=useL_spec huse hip ho q1 hoj e hj
    obtain⟨q,hq,eq⟩:=List.getElem_of_mem r1
    rw [List.getElem_take] at eq
    have hql:q<p:=by simp at hq;omega
    exact p2 q oj hql ((opsK_get hks).2 ⟨j,by rw [← eq];exact List.getElem?_eq_getElem (by omega),hoj⟩) e
  have hlist:∀ j,(listed.setIfInBounds i true).getD j false=if j=i then true else listed.getD j false:=fun j=>by
   by_cases e:j=i
   ·subst e;simp [Array.getD,hsz,hil]
   ·rw [getD_set_ne false (fun e'=>e e'.symm),if_neg e]
  have hcount:(ks.filter fun j=>!(listed.setIfInBounds i true).getD j false).length=f:=by
   have e1:(ks.filter fun j=>!(listed.setIfInBounds i true).getD j false)=(ks.filter fun j=>!listed.getD j false).erase i:=by
    rw [List.Nodup.erase_eq_filter (hnd.filter _),List.filter_filter]
    refine List.filter_congr fun j _=>?_
    rw [hlist]
    by_cases e:j=i
    ·subst e;simp
    ·simp [e]
   rw [e1,List.length_erase_of_mem (List.mem_filter.2 ⟨hih,by rw [hun'];rfl⟩),hf];rfl
  have hnext:∀ V S' n',R S' n' ids v V→Past n n'→(∀ b,S b→S' b)→(∀ b,S' b→b<n.heap.size→S b)→(∀ b,S' b→b<n'.heap.size)→DInv N E all ks tm own vs (listed.setIfInBounds i true) (a.put (some d) V) n':=fun V S' n' hV hp k1 k2 k3=>by
   have hkp:Kp S S' n n':=⟨hp.size,k1,fun b hb _=>hp.block b hb⟩
   have hget:∀ t,t≠d→(a.put (some d) V).tmps[t]?=a.tmps[t]?:=fun t ht=>by
    simp only [Act.put];rw [Array.getElem?_setIfInBounds_ne (fun e=>ht e.symm)]
   refine⟨hinv.hi.set hi,fun j hj=>by rw [hlist,if_neg ((fun e=>hj (by rw [e];exact hih)))];exact hinv.out j hj,S',ids,?_,fun t u hu hno=>?_,fun q j oj d' u hj hl hoj hd' hu=>?_⟩
   ·have h4:=(h1.grow hp k1 k2 k3)
    exact { h4 with size:=by simp [Act.put,h4.size],defers:=h4.defers,sl:=fun t v hv=>by simp [look] at hv }
   ·obtain⟨U,q1,q2⟩:=h2 t u hu hno
    have hne:t≠d:=fun e=>hno i o hih ho (by rw [g2,e])
    exact⟨U,by rw [hget t hne];exact q1,q2.kp hkp⟩
   ·rw [hlist] at hl
    by_cases e:j=i
    ·subst e
     have hqp:q=p:=(List.getElem?_inj (List.getElem?_eq_some_iff.1 hj).1 hnd).1 (hj.trans hip.symm)
     subst hqp
     obtain rfl:o=oj:=Option.some.inj (ho.symm.trans hoj)
     obtain rfl:d=d':=Option.some.inj (g2.symm.trans hd')
     obtain rfl:v=u:=Option.some.inj (g1.symm.trans hu)
     exact⟨V,by simp [Act.put,h1.size,g3],hV⟩
    ·rw [if_neg e] at hl
     obtain⟨U,q1,q2⟩:=h3 q j oj d' u hj hl hoj hd' hu
     have hne:d'≠d:=fun e'=>e (distB_spec hdist (List.mem_of_getElem? hj) hih hoj ho (by rw [hd',e']) g2)
     exact⟨U,by rw [hget d' hne];exact q1,q2.kp hkp⟩
  obtain⟨V,k0,k1⟩:=g4.2 hol S n ids a hsim.sl
  have hw:Region.wanted o (yielded all.toArray a.tmps)=true:=by simp [Region.wanted,hgd]
  have hfin:=wpAny_lateZ hks hnd kc hsel hpan huse hback hdist hTr hlate hfree hend f _ _ _ (hnext V S n k0 (Below.refl _ _) (fun _ h=>h) (fun _ h _=>h) h1.slt) hcount (fun j hj=>by rw [hlist];split;rfl;exact hdone j hj)
  exact wpAny_take (v:=V) ho' hsel hfr (by simpa using hi) (fun c a w hh=>hpan c a d V w (by rw [← g2];exact hh)) (.inl ⟨hw,k1⟩) (by rw [g2];exact hfin)
theorem wpAny_draw1Z{P:Program}{N:Nat}{E:En}{all:List Oper}{ks:List Nat}{tm tm':Tm}{own:Ow}{late:List Oper}{vs:List AV}{Q:Exit→Act→World→Prop}(hks:∀ k∈ks,k<all.length)(hnd:ks.Nodup)
  (kc:List Nat) (hkc:∀ k∈kc,k∈ks) (hup:upKc all ks kc=true) (huse:useL all ks=true) (hback:backB all ks=true) (hdist:distB all ks=true) (hTr:Tr (GL P all own late) N all (opsK all ks) tm vs tm')
  (hend:∀ (f:Nat) (listed:Array Bool) (a:Act) (n:World),DInv N E all ks tm own vs listed a n→(ks.filter fun j=>!listed.getD j false).length=f→(∀ j∈kc,listed.getD j false=true)→wpAny P .any all.toArray Q (f+(all.length-ks.length)) listed a n) :
  ∀ (f:Nat) (listed:Array Bool) (a:Act) (n:World),DInv N E all ks tm own vs listed a n→(ks.filter fun j=>!listed.getD j false).length=f→wpAny P .any all.toArray Q (f+(all.length-ks.length)) listed a n
 |0,listed,a,n,hinv,hf=>hend 0 listed a n hinv hf (fun j hj=>by
   have:=List.length_eq_zero_iff.1 hf
   rw [List.filter_eq_nil_iff] at this
   simpa using this j (hkc j hj))
 |f+1,listed,a,n,hinv,hf=>by
  by_cases hdone:∀ j∈kc,listed.getD j false=true
  ·exact hend (f+1) listed a n hinv hf hdone
  rw [show f+1+(all.length-ks.length)=(f+(all.length-ks.length))+1 by omega]
  obtain⟨i0,hi0,hu0⟩:∃ i,i∈kc∧listed.getD i false=false:=by
   by_cases hex:∃ i,i∈kc∧listed.getD i false=false
   ·exact hex
   ·refine absurd (fun j hj=>?_) hdone
    cases e:listed.getD j false with
    |true=>rfl
    |false=>exact absurd ⟨j,hj,e⟩ hex
  have hsz:=hinv.hi.size
  have gD:∀ j,j<all.length→listed.getD j true=listed.getD j false:=fun j hj=>by simp [Array.getD,hsz,hj]
  have hready:∀ m,m≤ks.length→(∃ i,i∈ks.take m∧listed.getD i false=false)→∃ i,i∈Region.ready .any all.toArray listed:=by
   intro m
   induction m with
   |zero=>rintro _ ⟨i,hi,_⟩;simp at hi
   |succ m ih =>
    intro hm ⟨i,hi,hui⟩
    by_cases hex:∃ i,i∈ks.take m∧listed.getD i false=false
    ·exact ih (by omega) hex
    ·have him:ks[m]?=some i:=by
      rw [List.take_add_one] at hi
      rcases List.mem_append.1 hi with h|h
      ·exact absurd ⟨i,h,hui⟩ hex
      ·cases e:ks[m]? with
       |none=>rw [e] at h;simp at h
       |some q=>rw [e] at h;simp at h;rw [h]
     have hil:i<all.length:=hks i (List.mem_of_getElem? him)
     refine⟨i,mem_ready.2 ⟨by rw [gD i hil];exact hui,all[i],by simp [hil],fun e he hb=>?_⟩⟩
     have hlt:=backB_spec hback him (List.getElem?_eq_getElem hil) e he hb
     cases hg:listed.getD e.on false with
     |true=>rfl
     |false=>exact absurd ⟨e.on,hlt,hg⟩ hex
  refine⟨fun h0=>?_,fun i hi=>?_⟩
  ·obtain⟨i,hi⟩:=hready ks.length (Nat.le_refl _) ⟨i0,by rw [List.take_length];exact hkc i0 hi0,hu0⟩
   rw [h0] at hi;cases hi
  ·have hih:i∈ks:=upKc_wait hup hinv.hi hi0 hu0 hi
   obtain⟨p,hp,ep⟩:=List.getElem_of_mem hih
   have hip:ks[p]?=some i:=by simp [hp,ep]
   obtain⟨hun,o,ho',hdeps⟩:=mem_ready.1 hi
   have hil:i<all.length:=hks i hih
   have ho:all[i]?=some o:=by simpa using ho'
   have hun':listed.getD i false=false:=by rw [← gD i hil];exact hun
   obtain⟨hvl,hTa⟩:=hTr.at_
   obtain⟨v,d,tmi,g1,g2,g3,g4,g5⟩:=hTa p o ((opsK_get hks).2 ⟨i,hip,ho⟩)
   obtain⟨S,ids,h1,h2,h3⟩:=hinv.st
   have hsim:Sim N E (rst tmi (useTs all o)) own S ids a n:=h1.with fun t u hu=>by
    obtain⟨q1,q2⟩:=rst_look hu
    rcases g5 t u q2 with ⟨q,oj,p1,p2,p3,p4,_⟩|⟨p1,p2⟩
    ·obtain⟨j,k1,k2⟩:=(opsK_get hks).1 p2
     obtain⟨r1,r2⟩:=useL_spec huse hip ho q1 k2 p3 (List.mem_of_getElem? k1)
     exact h3 q j oj t u k1 (up_ready hinv.hi r2 hi) k2 p3 p4
    ·refine h2 t u p1 fun j oj hj hoj e=>?_
     obtain⟨r1,r2⟩:=useL_spec huse hip ho q1 hoj e hj
     obtain⟨q,hq,eq⟩:=List.getElem_of_mem r1
     rw [List.getElem_take] at eq
     have hql:q<p:=by simp at hq;omega
     exact p2 q oj hql ((opsK_get hks).2 ⟨j,by rw [← eq];exact List.getElem?_eq_getElem (by omega),hoj⟩) e
   have hlist:∀ j,(listed.setIfInBounds i true).getD j false=if j=i then true else listed.getD j false:=fun j=>by
    by_cases e:j=i
    ·subst e;simp [Array.getD,hsz,hil]
    ·rw [getD_set_ne false (fun e'=>e e'.symm),if_neg e]
   have hcount:(ks.filter fun j=>!(listed.setIfInBounds i true).getD j false).length=f:=by
    have e1:(ks.filter fun j=>!(listed.setIfInBounds i true).getD j false)=(ks.filter fun j=>!listed.getD j false).erase i:=by
     rw [List.Nodup.erase_eq_filter (hnd.filter _),List.filter_filter]
     refine List.filter_congr fun j _=>?_
     rw [hlist]
     by_cases e:j=i
     ·subst e;simp
     ·simp [e]
    rw [e1,List.length_erase_of_mem (List.mem_filter.2 ⟨hih,by rw [hun'];rfl⟩),hf];rfl
   have hnext:∀ V S' n',R S' n' ids v V→Past n n'→(∀ b,S b→S' b)→(∀ b,S' b→b<n.heap.size→S b)→(∀ b,S' b→b<n'.heap.size)→DInv N E all ks tm own vs (listed.setIfInBounds i true) (a.put (some d) V) n':=fun V S' n' hV hp k1 k2 k3=>by
    have hkp:Kp S S' n n':=⟨hp.size,k1,fun b hb _=>hp.block b hb⟩
    have hget:∀ t,t≠d→(a.put (some d) V).tmps[t]?=a.tmps[t]?:=fun t ht=>by
     simp only [Act.put];rw [Array.getElem?_setIfInBounds_ne (fun e=>ht e.symm)]
    refine⟨hinv.hi.set hi,fun j hj=>by rw [hlist,if_neg ((fun e=>hj (by rw [e];exact hih)))];exact hinv.out j hj,S',ids,?_,fun t u hu hno=>?_,fun q j oj d' u hj hl hoj hd' hu=>?_⟩
    ·have h4:=(h1.grow hp k1 k2 k3)
     exact { h4 with size:=by simp [Act.put,h4.size],defers:=h4.defers,sl:=fun t v hv=>by simp [look] at hv }
    ·obtain⟨U,q1,q2⟩:=h2 t u hu hno
     have hne:t≠d:=fun e=>hno i o hih ho (by rw [g2,e])
     exact⟨U,by rw [hget t hne];exact q1,q2.kp hkp⟩
    ·rw [hlist] at hl
     by_cases e:j=i
     ·subst e
      have hqp:q=p:=(List.getElem?_inj (List.getElem?_eq_some_iff.1 hj).1 hnd).1 (hj.trans hip.symm)
      subst hqp
      obtain rfl:o=oj:=Option.some.inj (ho.symm.trans hoj)
      obtain rfl:d=d':=Option.some.inj (g2.symm.trans hd')
      obtain rfl:v=u:=Option.some.inj (g1.symm.trans hu)
      exact⟨V,by simp [Act.put,h1.size,g3],hV⟩
     ·rw [if_neg e] at hl
      obtain⟨U,q1,q2⟩:=h3 q j oj d' u hj hl hoj hd' hu
      have hne:d'≠d:=fun e'=>e (distB_spec hdist (List.mem_of_getElem? hj) hih hoj ho (by rw [hd',e']) g2)
      exact⟨U,by rw [hget d' hne];exact q1,q2.kp hkp⟩
   unfold wpOp
   simp only [ho']
   rcases g4.1 N E S ids a n hsim with ⟨w1,w2⟩|⟨w1,w2⟩
   ·rw [if_pos w1]
    refine .inl (Oper.wp_mono (fun a' n' ⟨V,S',e,k0,k1,k2,k3,k4⟩=>?_) (w2 Q))
    subst e
    rw [g2]
    exact wpAny_draw1Z hks hnd kc hkc hup huse hback hdist hTr hend f _ _ _ (hnext V S' n' k0 k1 k2 k3 k4) hcount
   ·rw [if_neg (by rw [w1];simp)]
    subst w2
    rw [g2]
    exact wpAny_draw1Z hks hnd kc hkc hup huse hback hdist hTr hend f _ _ _ (hnext undef S n rfl (Below.refl _ _) (fun _ h=>h) (fun _ h _=>h) h1.slt) hcount
def draw1Z(all:List Oper)(ke kl:List Nat):Bool :=
 let ks:=ke++kl
 Region.noSelect all.toArray&&ks.all (fun k=>decide (k<all.length))&&nodupB ks&&(opsK all ks).all (fun o=>o.dst.isSome)&&upKc all ks ke&&useL all ks&&backB all ks&&distB all ks&&tailB .any all.toArray (restK all.length ks) (listedK all.length ks)&&(opsK all kl).all (fun o=>o.guard.isNone) &&
 (subl kl).all (fun J=>match J with|[]=>true|i::_=>Region.free .any all.toArray (listedK all.length (lateK ks J)) i)
theorem opsK_app(all:List Oper)(a b:List Nat):opsK all (a++b)=opsK all a++opsK all b:=by unfold opsK;rw [List.map_append]
theorem Drw.lateP{T:Tab}{P:Program}(hT:TabOk P T){N:Nat}{E:En}{id:Nat}{l:List Oper}{K:Exit→Tm→Ow→Prop}{tm:Tm}{own:Ow}(ke kl rest:List Nat)(hR:restK l.length (ke++kl)=rest)(hB:draw1Z l ke kl=true)
  (hk:opsC l ke fun le=>opsC l kl fun ll=>opsC l rest fun lo=>WD T P N l own le (fun tm=>WP T N l ll (fun tm=>WO T P N E l lo (K .normal) tm own) tm) tm):Drw T P N E (.region id ⟨l⟩ true) l K tm own:=by
 refine .sem ⟨fun S ids a n hs Q hQ hpan=>?_⟩
 simp only [draw1Z,Bool.and_eq_true] at hB
 obtain⟨⟨⟨⟨⟨⟨⟨⟨⟨⟨b1,b2⟩,b2'⟩,b3⟩,b4⟩,b5⟩,b6⟩,b7⟩,b8⟩,b9⟩,b10⟩:=hB
 have hks:∀ k∈ke++kl,k<l.length:=fun k hk=>by simpa using List.all_eq_true.1 b2 k hk
 have hnd:=nodupB_spec b2'
 have hdis:∀ k,k∈ke→¬ k∈kl:=fun k h1 h2=>(List.nodup_append.1 hnd).2.2 k h1 k h2 rfl
 rw [opsK_app,List.all_append,Bool.and_eq_true] at b3
 have hk1:=opsC_out (opsC_out (opsC_out hk))
 obtain⟨vs1,tm1,h1,h2⟩:=WD_tr hT (fun o ho=>List.all_eq_true.1 b3.1 o ho) hk1
 obtain⟨vs2,tm',h3,h4⟩:=WP_tr (P:=P) (own:=own) (late:=opsK l kl) hT (fun o ho=>⟨List.all_eq_true.1 b3.2 o ho,by simpa using List.all_eq_true.1 b9 o ho⟩) h2
 have hTr:Tr (GL P l own (opsK l kl)) N l (opsK l (ke++kl)) tm (vs1++vs2) tm':=by
  rw [opsK_app]
  refine Tr.append (h1.imp fun o ho tmr v h=>⟨h,fun hl=>?_⟩) h3
  exfalso
  unfold opsK at ho hl
  obtain⟨k,q1,q2⟩:=List.mem_map.1 ho
  obtain⟨k',q3,q4⟩:=List.mem_map.1 hl
  have e1:l[k]?=some o:=by rw [← q2];simp [List.getD,hks k (List.mem_append_left _ q1)]
  have e2:l[k']?=some o:=by rw [← q4];simp [List.getD,hks k' (List.mem_append_right _ q3)]
  obtain⟨d,hd⟩:=Option.isSome_iff_exists.1 (List.all_eq_true.1 b3.1 o (List.mem_map.2 ⟨k,q1,q2⟩))
  have:=distB_spec b7 (List.mem_append_left _ q1) (List.mem_append_right _ q3) e1 e2 hd hd
  subst this
  exact hdis k q1 q3
 have hfil:((ke++kl).filter fun k=>!ke.contains k)=kl:=by
  rw [List.filter_append,List.filter_eq_nil_iff.2 (fun k hk=>by simp [hk]),List.nil_append,List.filter_eq_self.2]
  intro k hk
  have:¬ k∈ke:=fun h=>hdis k h hk
  simp [this]
 refine wp_region_any hT.mixed ?_
 have hp:Past n { n with drawn:=n.drawn+1 }:=Past.draw n
 have hs':=hs.past hp
 have hf:((ke++kl).filter fun j=>!(Array.replicate l.length false).getD j false).length=(ke++kl).length:=by
  rw [List.filter_eq_self.2 (fun j hj=>by simp [Array.getD])]
 have hrl:=restK_len l.length (ke++kl) hks hnd
 have:=wpAny_draw1Z (P:=P) (N:=N) (E:=E) (all:=l) (ks:=ke++kl) (Q:=Q) hks hnd ke (fun k hk=>List.mem_append_left _ hk) b4 b5 b6 b7 hTr (wpAny_lateZ hks hnd ke b1 hpan b5 b6 b7 hTr (fun k hk hn o ho=>by
   have hkl:k∈kl:=(List.mem_append.1 hk).resolve_left hn
   have hm:o∈opsK l kl:=List.mem_map.2 ⟨k,hkl,by simp [List.getD,ho]⟩
   exact⟨by simpa using List.all_eq_true.1 b9 o hm,hm⟩) (fun J hJ i r e=>by
   rw [hfil] at hJ
   have:=List.all_eq_true.1 b10 J hJ
   rw [e] at this ⊢
   exact this) (fun S ids a n hs=>by
   rw [← hR] at h4
   have:=wpAny_of_tail (P:=P) (md:=.any) (Q:=Q) (ops:=l.toArray) b1 hpan (opsK l (restK l.length (ke++kl))) (restK l.length (ke++kl)) (listedK l.length (ke++kl)) a n (restK_map l (ke++kl)) b8 (WO_sound hT h4 (fun a n h=>hQ _ _ _ h) hs)
   have e:(opsK l (restK l.length (ke++kl))).length=l.length-(ke++kl).length:=by unfold opsK;rw [List.length_map,hrl]
   rw [e] at this
   exact this)) (ke++kl).length (Array.replicate l.length false) a _ ⟨⟨by simp,fun j oj _ hl=>by simp [Array.getD] at hl⟩,fun j hj=>by simp [Array.getD],S,ids,hs'.nil,fun t v hv _=>hs'.sl t v hv,fun p j oj d v _ hl=>by simp [Array.getD] at hl⟩ hf
 have hle:(ke++kl).length≤l.length:=by
  have:=hnd.length_le_of_subset (l₂:=List.range l.length) (fun k hk=>List.mem_range.2 (hks k hk))
  simpa using this
 rw [show (ke++kl).length+(l.length-(ke++kl).length)=l.length by omega] at this
 simpa using this
inductive OT where
 |done
 |go (i:Nat) (t:OT)
 |alt (a b:OT)
def OT.heads:OT→List Nat
 |.done=>[]
 |.go i _=>[i]
 |.alt a b=>a.heads++b.heads
def OT.len:OT→Nat→Bool
 |.done,n=>Nat.beq n 0
 |.go _ _,0=>false
 |.go _ t,n+1=>t.len n
 |.alt a b,n=>a.len n&&b.len n
def OT.isDone:OT→Bool
 |.done=>true
 |.go _ _=>false
 |.alt a b=>a.isDone
def OT.node(ops:Array Oper)(t:OT)(listed:Array Bool):Bool:=(Region.ready .any ops listed).all (fun j=>t.heads.contains j)&&(t.isDone || !(Region.ready .any ops listed).isEmpty)
theorem OT.len_done:∀ {t:OT} {n:Nat},t.len (n+1)=true→t.isDone=false
 |.done,n,h=>by simp [OT.len] at h
 |.go _ _,_,_=>rfl
 |.alt a b,n,h=>by
  simp only [OT.len,Bool.and_eq_true] at h
  exact OT.len_done (t:=a) h.1
def OT.sub(ops:Array Oper):OT→Array Bool→Bool
 |.done,listed=>(Region.ready .any ops listed).isEmpty
 |.go i t,listed=>t.node ops (listed.setIfInBounds i true)&&t.sub ops (listed.setIfInBounds i true)
 |.alt a b,listed=>a.sub ops listed&&b.sub ops listed
def WT(T:Tab)(P:Program)(N:Nat)(E:En)(all:List Oper):OT→(Tm→Ow→Prop)→Tm→Ow→Prop
 |.done,K,tm,own=>K tm own
 |.go i t,K,tm,own=>match nth all i with
  |some o=>gd all tm o (step T P N E o (WT T P N E all t K) tm own) (put N tm o.dst (.raw undef) fun tm=>WT T P N E all t K tm own)
  |none=>False
 |.alt a b,K,tm,own=>Both (WT T P N E all a K tm own) (WT T P N E all b K tm own)
theorem WT_head{T:Tab}{P:Program}{N:Nat}{E:En}{all:List Oper}{K:Tm→Ow→Prop}{tm:Tm}{own:Ow}{listed:Array Bool}{n:Nat}:∀ {t:OT} {i:Nat},i∈t.heads→WT T P N E all t K tm own→t.sub all.toArray listed=true→t.len n=true→∃ t',WT T P N E all (.go i t') K tm own∧(OT.go i t').sub all.toArray listed=true∧(OT.go i t').len n=true
 |.done,i,h,_,_,_=>by simp [OT.heads] at h
 |.go j t,i,h,h1,h2,h3=>by
  simp only [OT.heads,List.mem_singleton] at h
  subst h
  exact⟨t,h1,h2,h3⟩
 |.alt a b,i,h,h1,h2,h3=>by
  simp only [OT.heads,List.mem_append] at h
  simp only [OT.sub,Bool.and_eq_true] at h2
  simp only [OT.len,Bool.and_eq_true] at h3
  rcases h with h|h
  ·exact WT_head h h1.1 h2.1 h3.1
  ·exact WT_head h h1.2 h2.2 h3.2
theorem WT_zero{T:Tab}{P:Program}{N:Nat}{E:En}{all:List Oper}{K:Tm→Ow→Prop}{tm:Tm}{own:Ow}{listed:Array Bool}:∀ {t:OT},WT T P N E all t K tm own→t.sub all.toArray listed=true→t.len 0=true→K tm own∧(Region.ready .any all.toArray listed).isEmpty=true
 |.done,h1,h2,_=>⟨h1,h2⟩
 |.go j t,_,_,h3=>by simp [OT.len] at h3
 |.alt a b,h1,h2,h3=>by
  simp only [OT.sub,Bool.and_eq_true] at h2
  simp only [OT.len,Bool.and_eq_true] at h3
  exact WT_zero h1.1 h2.1 h3.1
theorem wpAny_tree{T:Tab}{P:Program}(hT:TabOk P T){N:Nat}{E:En}{all:List Oper}{K:Tm→Ow→Prop}{Q:Exit→Act→World→Prop}(hQ:∀ a n,After N E K a n→Q .normal a n) :
  ∀ (n:Nat) (t:OT) (listed:Array Bool) (tm:Tm) (own:Ow) (S:Nat→Prop) (ids:List Loc) (a:Act) (w:World),t.node all.toArray listed=true→t.sub all.toArray listed=true→t.len n=true→WT T P N E all t K tm own→Sim N E tm own S ids a w→wpAny P .any all.toArray Q n listed a w
 |0,t,listed,tm,own,S,ids,a,w,h1,h2,h3,h4,hs=>by
  obtain⟨g1,g2⟩:=WT_zero h4 h2 h3
  exact⟨by simpa using g2,hQ _ _ ⟨tm,own,S,ids,g1,hs⟩⟩
 |n+1,t,listed,tm,own,S,ids,a,w,h1,h2,h3,h4,hs=>by
  simp only [OT.node,OT.len_done h3,Bool.false_or,Bool.and_eq_true] at h1
  obtain⟨q1,q2⟩:=h1
  refine⟨fun h0=>by rw [h0] at q2;simp at q2,fun i hi=>?_⟩
  have hih:i∈t.heads:=by
   have:=List.all_eq_true.1 q1 i hi
   simpa using this
  obtain⟨t',g1,g2,g3⟩:=WT_head hih h4 h2 h3
  simp only [OT.sub,Bool.and_eq_true] at g2
  simp only [OT.len] at g3
  simp only [WT] at g1
  cases ho:nth all i with
  |none=>rw [ho] at g1;exact g1.elim
  |some o =>
   rw [ho] at g1
   have ho':all.toArray[i]?=some o:=by rw [nth_eq] at ho;simpa using ho
   have next:∀ a' w',After N E (WT T P N E all t' K) a' w'→wpAny P .any all.toArray Q n (listed.setIfInBounds i true) a' w':=fun a' w' ⟨tm',own',S',ids',k1,k2⟩ =>
    wpAny_tree hT hQ n t' _ tm' own' S' ids' a' w' g2.1 g2.2 g3 k1 k2
   unfold wpOp
   simp only [ho']
   rcases gd_sound g1 with ⟨k1,k2⟩|⟨k1,k2⟩
   ·rw [if_pos (k2 S w ids a hs.sl)]
    exact .inl (Oper.wp_mono next (step_sound hT k1 hs Q))
   ·rw [if_neg (by rw [k2 S w ids a hs.sl];simp)]
    obtain⟨tm',k3,k4⟩:=put_sound k1
    exact next _ _ ⟨tm',own,S,ids,k3,k4 E own S ids a w undef hs rfl⟩
theorem Drw.tree{T:Tab}{P:Program}(hT:TabOk P T){N:Nat}{E:En}{id:Nat}{l:List Oper}{K:Exit→Tm→Ow→Prop}{tm:Tm}{own:Ow}(t:OT)(n:Nat)(hl:l.length=n)(hB:(t.node l.toArray (Array.replicate n false)&&t.sub l.toArray (Array.replicate n false)&&t.len n)=true)
  (hk:WT T P N E l t (K .normal) tm own):Drw T P N E (.region id ⟨l⟩ true) l K tm own:=by
 refine .sem ⟨fun S ids a w hs Q hQ hpan=>?_⟩
 simp only [Bool.and_eq_true] at hB
 refine wp_region_any hT.mixed ?_
 have hp:Past w { w with drawn:=w.drawn+1 }:=Past.draw w
 subst hl
 have:=wpAny_tree hT (Q:=Q) (fun a n h=>hQ .normal a n h) l.length t (Array.replicate l.length false) tm own S ids a _ hB.1.1 hB.1.2 hB.2 hk (hs.past hp)
 simpa using this
@[irreducible] def ar {α:Type} (e:α→List AV) (l:List α) (r:List Value):List AV:=l.flatMap e++r.map AV.raw
section
variable{α:Type}{e:α→List AV}{sz:Nat}
theorem fm_len(he:∀ x,(e x).length=sz):∀ l:List α,(l.flatMap e).length=l.length*sz
 |[]=>by simp
 |x::l=>by rw [List.flatMap_cons,List.length_append,he,fm_len he l,List.length_cons,Nat.add_mul];omega
theorem fm_drop(he:∀ x,(e x).length=sz):∀ (l:List α) (j:Nat),(l.flatMap e).drop (j*sz)=(l.drop j).flatMap e
 |l,0=>by simp
 |[],j+1=>by simp
 |x::l,j+1=>by
  rw [List.flatMap_cons,List.drop_succ_cons,← fm_drop he l j,Nat.add_mul,Nat.one_mul,Nat.add_comm,← List.drop_drop,List.drop_append_of_le_length (by rw [he];exact Nat.le_refl _)]
  congr 1
  rw [List.drop_of_length_le (by rw [he];exact Nat.le_refl _)];rfl
theorem fm_take(he:∀ x,(e x).length=sz):∀ (l:List α) (j:Nat),(l.flatMap e).take (j*sz)=(l.take j).flatMap e
 |l,0=>by simp
 |[],j+1=>by simp
 |x::l,j+1=>by
  rw [List.flatMap_cons,List.take_succ_cons,List.flatMap_cons,← fm_take he l j,List.take_append,he,List.take_of_length_le (by rw [he,Nat.add_mul];omega)]
  congr 2
  rw [Nat.add_mul];omega
theorem ar_el(he:∀ x,(e x).length=sz){l:List α}{r:List Value}{j:Nat}(d:α)(hj:j<l.length):j*sz+sz≤(ar e l r).length∧((ar e l r).drop (j*sz)).take sz=e (l.getD j d):=by
 unfold ar
 have h1:(j+1)*sz≤l.length*sz:=Nat.mul_le_mul_right _ hj
 rw [Nat.add_mul,Nat.one_mul] at h1
 have hl:=fm_len he l
 refine⟨by rw [List.length_append,hl];omega,?_⟩
 rw [List.drop_append_of_le_length (by omega),fm_drop he,List.drop_eq_getElem_cons hj,List.flatMap_cons,List.append_assoc,List.take_append_of_le_length (by rw [he];exact Nat.le_refl _),List.take_of_length_le (by rw [he];exact Nat.le_refl _),List.getD_eq_getElem?_getD,List.getElem?_eq_getElem hj]
 rfl
theorem ar_set(he:∀ x,(e x).length=sz){l:List α}{r:List Value}{j:Nat}(x:α)(hj:j<l.length):(ar e l r).take (j*sz)++(e x++((ar e l r).drop (j*sz)).drop (e x).length)=ar e (l.set j x) r:=by
 unfold ar
 have h1:(j+1)*sz≤l.length*sz:=Nat.mul_le_mul_right _ hj
 rw [Nat.add_mul,Nat.one_mul] at h1
 have hl:=fm_len he l
 rw [he,List.drop_drop,List.take_append_of_le_length (by omega),fm_take he,show j*sz+sz=(j+1)*sz by rw [Nat.add_mul,Nat.one_mul],List.drop_append_of_le_length (by rw [hl];exact Nat.mul_le_mul_right _ hj),fm_drop he,List.set_eq_take_append_cons_drop,if_pos hj,List.flatMap_append,List.flatMap_cons]
 simp only [List.append_assoc]
theorem okL1_ar(k:Nat)(h:∀ x,okL1 k (e x)=true)(l:List α)(r:List Value):okL1 k (ar e l r)=true:=by
 have app:∀ (a b:List AV),okL1 k a=true→okL1 k b=true→okL1 k (a++b)=true:=by
  intro a b ha hb
  induction a with
  |nil=>exact hb
  |cons x a ih=>simp only [okL1,Bool.and_eq_true,List.cons_append] at ha ⊢;exact⟨ha.1,ih ha.2⟩
 unfold ar
 refine app _ _ ?_ ?_
 ·induction l with
  |nil=>rfl
  |cons x l ih=>rw [List.flatMap_cons];exact app _ _ (h x) ih
 ·induction r with
  |nil=>rfl
  |cons x l ih=>simp only [List.map_cons,okL1,Bool.and_eq_true];exact⟨rfl,ih⟩
theorem swap_perm{l:List α}{i j:Nat}(d:α)(hi:i<l.length)(hj:j<l.length):((l.set i (l.getD j d)).set j (l.getD i d)).Perm l:=by
 have e1:l.getD i d=l[i]:=by simp [List.getD,hi]
 have e2:l.getD j d=l[j]:=by simp [List.getD,hj]
 rw [e1,e2]
 exact List.set_set_perm hi hj
end
section
variable{α:Type}{e:α→List AV}{i off:Nat}{own:Ow}{l:List α}{r:List Value}
theorem LdAt.one{v:α→AV}(he:∀ x,e x=[v x])(hn:∀ x,nagA (v x)=true)(d:α){K:AV→Prop}(hb:nth own i=some (.blk (ar e l r)))(j:Nat)(ho:off=j)(hj:j<l.length)(hK:K (v (l.getD j d))):LdAt i off .sc own K:=by
 subst ho
 refine⟨_,hb,?_⟩
 obtain⟨h1,h2⟩:=ar_el (e:=e) (sz:=1) (fun x=>by rw [he];rfl) (r:=r) d hj
 rw [Nat.mul_one,he] at h2
 refine⟨v (l.getD off d),?_,hn _,hK⟩
 rw [nth_eq]
 have h3:=congrArg (·[0]?) h2
 simpa using h3
theorem LdAt.row{n:Nat}(he:∀ x,(e x).length=n)(d:α){K:AV→Prop}(hb:nth own i=some (.blk (ar e l r)))(j:Nat)(ho:off=j*n)(hj:j<l.length)(hK:K (.agg (e (l.getD j d)))):LdAt i off (.ag n) own K:=by
 subst ho
 refine⟨_,hb,?_⟩
 obtain⟨h1,h2⟩:=ar_el (e:=e) he (r:=r) d hj
 exact⟨h1,by rw [h2];exact hK⟩
theorem StAt.el{n:Nat}(he:∀ x,(e x).length=n){K:Ow→Prop}{vs:List AV}(x:α)(hx:vs=e x)(hb:nth own i=some (.blk (ar e l r)))(j:Nat)(ho:off=j*n)(hj:j<l.length)(hK:K (own.set i (.blk (ar e (l.set j x) r)))):StAt i off vs own K:=by
 subst ho
 subst hx
 obtain⟨h1,h2⟩:=ar_el (e:=e) he (r:=r) x hj
 exact⟨_,hb,by rw [he];exact h1,by rw [ar_set he x hj];exact hK⟩
end
abbrev i1(x:Int):List AV:=[.int .i64 x]
theorem puL_app:∀ {a b:List AV},puL a=true→puL b=true→puL (a++b)=true
 |[],_,_,h=>h
 |x::a,b,h,h'=>by simp only [puL,Bool.and_eq_true,List.cons_append] at h ⊢;exact⟨h.1,puL_app h.2 h'⟩
theorem puL_ar{α:Type}{e:α→List AV}(he:∀ x,puL (e x)=true)(l:List α)(r:List Value):puL (ar e l r)=true:=by
 unfold ar
 refine puL_app ?_ ?_
 ·induction l with
  |nil=>rfl
  |cons x l ih=>rw [List.flatMap_cons];exact puL_app (he x) ih
 ·induction r with
  |nil=>rfl
  |cons x r ih=>simp only [List.map_cons,puL,Bool.and_eq_true];exact⟨rfl,ih⟩
theorem rnL1_app(J:List Nat):∀ (a b:List AV),rnL1 J (a++b)=rnL1 J a++rnL1 J b
 |[],_=>rfl
 |x::a,b=>by simp only [List.cons_append,rnL1,rnL1_app J a b]
theorem rnL1_ar{α:Type}{e:α→List AV}(J:List Nat)(he:∀ x,rnL1 J (e x)=e x)(l:List α)(r:List Value):rnL1 J (ar e l r)=ar e l r:=by
 unfold ar
 rw [rnL1_app]
 congr 1
 ·induction l with
  |nil=>rfl
  |cons x l ih=>rw [List.flatMap_cons,rnL1_app,he,ih]
 ·induction r with
  |nil=>rfl
  |cons x r ih=>simp only [List.map_cons,rnL1,ih];rfl
theorem RvJ.sl{own:Ow}{J I:List Nat}{k j off sz n c:Nat}(hk:nth J k=some j):RvJ own J I (.sl j off sz n c) (.sl k off sz n c):=fun S m ids base hl V hr=>by
 obtain⟨b,g1,g2⟩:=hr.sl
 exact⟨b,locsJ_nth hk g1,g2⟩
theorem RvJL.pu{own:Ow}{J I:List Nat}:∀ {vs:List AV},puL vs=true→RvJL own J I vs vs
 |[],_=>RvJL.nil
 |v::vs,h=>by simp only [puL,Bool.and_eq_true] at h;exact RvJL.cons (RvJ.pu h.1) (RvJL.pu h.2)
def SortC{α:Type}(e:α→List AV)(sz f n c:Nat)(l:List α)(r:List Value)(xs:List AV)(p:AV→Prop):Prop :=
 RetO Tryz.prog f [.blk (ar e l r)] (.sl 0 0 sz n c::xs) (fun x gs=>p x∧∃ l',l'.Perm l∧gs=[.blk (ar e l' r)])
theorem CallS.srt{α:Type}{e:α→List AV}{sz f n c:Nat}{l:List α}{r:List Value}{xs:List AV}{p:AV→Prop}{N:Nat}{E:En}{o:Oper}{K:Tm→Ow→Prop}{tm:Tm}{own:Ow}(h:SortC e sz f n c l r xs p)(hp:puL xs=true)(he:∀ x,puL (e x)=true)(he2:∀ x,rnL1 [0] (e x)=e x)
  (hK:∀ x l',p x→l'.Perm l→put N tm o.dst x fun tm=>K tm (.blk (ar e l' r)::own)):CallS Tryz.prog N E o f (.sl 0 0 sz n c::xs) K tm (.blk (ar e l r)::own):=by
 refine .call (CallN.upd [0] [] (RvJL.cons (RvJ.sl rfl) (RvJL.pu hp)) (Als.nil _) (by simp) (Giv.one rfl (by simp) (RcJ.pu (puL_ar he l r))) h (fun x gs ⟨h1,l',h2,h3⟩ _=>?_))
 subst h3
 have:=hK x l' h1 h2
 simp only [List.map_cons,List.map_nil,rnO,rnL1_ar [0] he2,putJ,killI,List.set_cons_zero]
 exact this
theorem CallS.srtP{α:Type}{e:α→List AV}{sz f n c:Nat}{l l0:List α}{r:List Value}{xs:List AV}{p:AV→Prop}{N:Nat}{E:En}{o:Oper}{K:Tm→Ow→Prop}{tm:Tm}{own:Ow}(h:SortC e sz f n c l r xs p)(h0:l.Perm l0)(hp:puL xs=true)(he:∀ x,puL (e x)=true)(he2:∀ x,rnL1 [0] (e x)=e x)
  (hK:∀ x l',p x→l'.Perm l0→l'.length=l0.length→put N tm o.dst x fun tm=>K tm (.blk (ar e l' r)::own)):CallS Tryz.prog N E o f (.sl 0 0 sz n c::xs) K tm (.blk (ar e l r)::own) :=
 .srt h hp he he2 fun x l' h1 h2=>hK x l' h1 (h2.trans h0) (h2.trans h0).length_eq
theorem okAr{l:List Int}{r:List Value}{k:Nat}:okO k [.blk (ar i1 l r)]=true:=by simp [okO,okL1_ar k (e:=i1) (fun x=>rfl)]
theorem okAr2{l:List Int}{r:List Value}{k:Nat}{v:AV}(h:ok1 k v=true):okO k [.blk (ar i1 l r),.blk [v]]=true:=by simp [okO,okL1_ar k (e:=i1) (fun x=>rfl),okL1,h]
theorem i1_len(x:Int):(i1 x).length=1:=rfl
section
variable{P:Program}{T:Tab}{o:Oper}{tm:Tm}{own:Ow}{K:AV→Prop}
theorem QAt.slLo(hT:TabOk P T){t e:Nat}{k:TK}{x y:Operand}{i off sz n c l:Nat}{ik:IntKind}(ho:o.op=.slice t x (some y) none none)(hs:look T.sl t=some e)(hk:look T.tk e=some k)(hx:ev tm x fun v=>v=.sl i off sz n c)(hy:ev tm y fun v=>v=.int ik (l:Int))(hz:szOf k=sz)(hl:l≤n)(hc:l<c)(hK:K (.sl i (off+l*sz) sz (n-l) (c-l))):QAt P o tm own K:=by
 refine⟨_,hK,fun N E S ids a w hs'=>?_⟩
 obtain⟨u,rfl,h1⟩:=ev_sound hx
 obtain⟨u',rfl,h2⟩:=ev_sound hy
 obtain⟨b,g1,g2⟩:=(h1 S w ids a hs'.sl).sl
 have g3:=(h2 S w ids a hs'.sl).int
 refine⟨.slice (some ⟨b,off+l*sz,none⟩) (n-l) (c-l),⟨b,g1,rfl⟩,fun w' hp=>?_⟩
 have hne:¬ c=l:=by omega
 have hl':(l:Int)≤n:=by omega
 unfold execOp
 simp only [ho]
 simp [Instr.sliceAt,Instr.slice,Instr.sliceBounds,Instr.sliceBound,asIntOf,run_underlying (hT.sl t e hs),g2,g3,hl,Nat.not_lt.2 hl,run_sz hT hk,hz,hne,addr_add]
theorem QAt.slHi(hT:TabOk P T){t e:Nat}{k:TK}{x y:Operand}{i off sz n c l:Nat}{ik:IntKind}(ho:o.op=.slice t x none (some y) none)(hs:look T.sl t=some e)(hk:look T.tk e=some k)(hx:ev tm x fun v=>v=.sl i off sz n c)(hy:ev tm y fun v=>v=.int ik (l:Int))(hz:szOf k=sz)(hl:l≤c)(hc:0<c)(hK:K (.sl i off sz l c)):QAt P o tm own K:=by
 refine⟨_,hK,fun N E S ids a w hs'=>?_⟩
 obtain⟨u,rfl,h1⟩:=ev_sound hx
 obtain⟨u',rfl,h2⟩:=ev_sound hy
 obtain⟨b,g1,g2⟩:=(h1 S w ids a hs'.sl).sl
 have g3:=(h2 S w ids a hs'.sl).int
 refine⟨.slice (some ⟨b,off,none⟩) l c,⟨b,g1,rfl⟩,fun w' hp=>?_⟩
 have hne:¬ c=0:=by omega
 have hl':(l:Int)≤c:=by omega
 unfold execOp
 simp only [ho]
 simp [Instr.sliceAt,Instr.slice,Instr.sliceBounds,Instr.sliceBound,asIntOf,run_underlying (hT.sl t e hs),g2,g3,hl,Nat.not_lt.2 hl,run_sz hT hk,hz,hne,addr_add]
end
theorem ar1(l:List Int)(r:List Value):ar i1 l r=l.map I++r.map AV.raw:=by
 unfold ar
 congr 1
 induction l with
 |nil=>rfl
 |cons x l ih=>rw [List.flatMap_cons,ih];rfl
theorem rep_R1{S:Nat→Prop}{w:World}{ids:List Loc}:∀ n:Nat,all2 (R1 S w ids) (List.replicate n (I 0)) (List.replicate n (.int .i64 0))
 |0=>trivial
 |n+1=>⟨rfl,rep_R1 n⟩
theorem zeroCells1(n:Nat):(Builtin.zeroCells #[.int .i64 0] n).toList=List.replicate n (.int .i64 0):=by
 unfold Builtin.zeroCells
 apply List.ext_getElem
 ·simp
 ·intro i h1 h2
  have e:i%1=0:=by omega
  simp [e]
theorem OpAt.clear1{P:Program}{T:Tab}(hT:TabOk P T){N:Nat}{E:En}{o:Oper}{K:Tm→Ow→Prop}{tm:Tm}{own:Ow}{t e:Nat}{x:Operand}{i off n c:Nat}{l:List Int}{r:List Value}(ho:o.op=.call { callee:=.builtin .clear,args:=#[x],argTypes:=#[t] })(hd:o.dst=none)(hs:look T.sl t=some e)(hz:∀ w,(zeroValue e).run P w=.ok (.int .i64 0) w)(hx:ev tm x fun v=>v=.sl i off 1 n c)(hn:0<n)(hb:nth own i=some (.blk (ar i1 l r)))(hl:off+n≤l.length)
  (hK:∀ l':List Int,l'.length=l.length→l'.take off=l.take off→K tm (own.set i (.blk (ar i1 l' r)))):OpAt P N E o K tm own:=by
 refine⟨fun S ids a w hs' Q=>?_⟩
 obtain⟨u,rfl,h1⟩:=ev_sound hx
 obtain⟨b,g1,g2⟩:=(h1 S w ids a hs'.sl).sl
 have hlen:(ar i1 l r).length=l.length+r.length:=by rw [ar1];simp
 have hst:=hs'.store (off:=off) (cs:=List.replicate n (I 0)) (vs:=List.replicate n (.int .i64 0)) hb g1 (rep_R1 n) (by rw [hlen,List.length_replicate];omega)
 obtain⟨b',ls,q1,q2,q3⟩:=hs'.blk hb
 obtain rfl:=Loc.at_inj (Option.some.inj (g1.symm.trans q1))
 have e1:(ar i1 l r).take off++(List.replicate n (I 0)++((ar i1 l r).drop off).drop (List.replicate n (I 0)).length)=ar i1 (l.take off++(List.replicate n 0++l.drop (off+n))) r:=by
  rw [ar1,ar1,List.length_replicate,List.drop_drop,List.take_append_of_le_length (by simp;omega),List.drop_append_of_le_length (by simp;omega),List.map_append,List.map_append,List.map_replicate,List.map_take,List.map_drop]
  simp only [List.append_assoc]
 rw [e1] at hst
 have hk:=hK (l.take off++(List.replicate n 0++l.drop (off+n))) (by simp;omega) (by rw [List.take_append_of_le_length (by rw [List.length_take];omega),List.take_take];simp)
 have hcell:∀ j,j<n→∃ v,ls[off+j]?=some v:=fun j hj=>by
  have hl2:ls.length=l.length+r.length:=by rw [q2.len,hlen]
  exact⟨ls[off+j],List.getElem?_eq_getElem (by omega)⟩
 have h2:=run_storeCells_cells (P:=P) b off (List.replicate n (Value.int .i64 0)) 0 w (fun j hj=>by
   rw [List.length_replicate] at hj
   obtain⟨v,hv⟩:=hcell j hj
   rw [Nat.add_zero]
   rw [q3.cell _ _ hv];exact rfl) (fun j hj=>by
   rw [List.length_replicate] at hj
   rw [Nat.add_zero]
   exact q3.free _ (by have hl2:ls.length=l.length+r.length:=(by rw [q2.len,hlen]);omega)) (fun x hx=>by rw [List.eq_of_mem_replicate hx];rfl)
 have hrun:(Builtin.clear_ #[t] o.type #[a.eval x]).run P w=.ok (.tuple #[]) (w.setCells b off (List.replicate n (.int .i64 0))):=by
  obtain⟨m,rfl⟩:∃ m,n=m+1:=⟨n-1,by omega⟩
  simp [Builtin.clear_,run_underlying (hT.sl t e hs),g2,hz,zeroCells1,Value.cells,h2]
  done
 unfold Oper.wp execOp
 simp only [ho,resolve,invoke,builtin,Sem.run_bind,Sem.run_pure,Result.andThen_ok,List.map_toArray,List.map_cons,List.map_nil,hrun]
 refine⟨tm,_,S,ids,hk,?_⟩
 rw [hd]
 exact hst
theorem mem_take1{l:List Int}{m:Nat}(h:m<l.length)(x:Int):x∈l.take (m+1)↔x∈l.take m∨x=l.getD m 0:=by
 rw [List.take_succ_eq_append_getElem h,List.mem_append,List.mem_singleton]
 simp [List.getD,h]
theorem mem_take_of{l:List Int}{m j:Nat}(h:j<m)(h2:j<l.length):l.getD j 0∈l.take m:=by
 rw [List.mem_take_iff_getElem]
 exact⟨j,by omega,by simp [List.getD,h2]⟩
theorem mem_set1{l:List Int}{m:Nat}(v:Int)(h:m<l.length)(x:Int):x∈(l.set m v).take (m+1)↔x∈l.take m∨x=v:=by
 rw [mem_take1 (by simpa using h),List.take_set_of_le (Nat.le_refl _)]
 simp [List.getD,h]
theorem compactO(l:List Int)(r:List Value)(n c:Nat)(hn:l.length=n)(h0:0<n)(hnc:n≤c)(hc:n≤1000000) :
  RetV Tryz.prog 202 [.blk (ar i1 l r)] [.sl 0 0 1 n c] (fun v gs=>∃ (k:Nat) (l':List Int),k≤n∧v=.sl 0 0 1 k c∧gs=[.blk (ar i1 l' r)]∧l'.length=l.length∧∀ x,x∈l'.take k↔x∈l):=by
 have fin:∀ (k:Nat) (l':List Int),k≤n→l'.length=l.length→(∀ x,x∈l'.take k↔x∈l)→FinV 1 [.sl 0 0 1 k c] [.blk (ar i1 l' r)] (fun v gs=>∃ (k:Nat) (l':List Int),k≤n∧v=.sl 0 0 1 k c∧gs=[.blk (ar i1 l' r)]∧l'.length=l.length∧∀ x,x∈l'.take k↔x∈l):=fun k l' h1 h2 h3 =>
  ⟨_,rfl,rfl,rfl,Nat.le_refl _,okAr,k,l',h1,rfl,rfl,h2,h3⟩
 have all:∀ x,x∈l.take n↔x∈l:=fun x=>by rw [List.take_of_length_le (by omega)]
 refine enterV tabOk (N:=61) (gs:=[_]) (args:=[_]) Tryz.func202 rfl rfl rfl (nLe rfl) (fun E hE=>?_)
 conv=>whnf
 repeat' ((refine Br.d (fun h=>?_) (fun h=>?_))<;>conv=>whnf)
 ·exact fin n l (Nat.le_refl _) rfl all
 ·refine LoopAt.rule tabOk [(0,_)] (fun (k:Nat)=>[(3,.int .i64 (k:Int))]) (fun (k:Nat)=>[.blk (ar i1 l r)]) (fun (k:Nat)=>1≤k∧k≤n) (fun (k:Nat)=>n-k) 1 (by (repeat refine And.intro (by first|rfl|exact congrArg (fun z=>some (AV.int .i64 z)) (by first|omega|(dsimp only;omega))) ?_);exact trivial) ⟨Nat.le_refl _,h0⟩ (by (repeat refine And.intro (by first|rfl|exact congrArg (fun z=>some (AV.int .i64 z)) (by first|omega|(dsimp only;omega))) ?_);exact trivial) (by (repeat refine And.intro (by first|rfl|exact congrArg (fun z=>some (AV.int .i64 z)) (by first|omega|(dsimp only;omega))) ?_);exact trivial) (fun _=>⟨rfl,rfl,okAr,by simp [hE]⟩) (fun k hk=>?_)
  obtain⟨hk1,hk2⟩:=hk
  conv=>whnf
  repeat' (first|((first|with_reducible refine Ix.nat _ ?_|refine Ix.tn (by omega) ?_|refine Pc.sym ?_|refine LdAt.one (e:=i1) (v:=I) (fun _=>rfl) (fun _=>rfl) 0 rfl _ rfl (by omega) ?_|refine QAt.slLo tabOk (l:=k) rfl rfl rfl rfl rfl rfl (by omega) (by omega) ?_|refine Ob.mk (by omega) ?_|refine Ob.mk (by unfold W.I64 at *;omega) ?_|refine Drw.loose (by kernel_rfl) ?_);conv=>whnf)|((refine Br.d (fun h=>?_) (fun h=>?_))<;>conv=>whnf))
  ·have hkk:l.getD k 0=l.getD (k-1) 0:=by
    have:=h
    simpa using this
   refine LoopAt.rule tabOk [(0,_),(4,_)] (fun (q:Nat×Nat×List Int)=>[(3,.int .i64 (q.1:Int)),(5,.int .i64 (q.2.1:Int))]) (fun (q:Nat×Nat×List Int)=>[.blk (ar i1 q.2.2 r)]) (fun (q:Nat×Nat×List Int)=>k≤q.1∧q.1+1≤k+q.2.1∧k+q.2.1≤n∧1≤q.2.1∧q.2.2.length=l.length∧(∀ j,k+q.2.1≤j+1→q.2.2.getD j 0=l.getD j 0)∧∀ x,x∈q.2.2.take q.1↔x∈l.take (k+q.2.1)) (fun (q:Nat×Nat×List Int)=>n-k-q.2.1) (k,1,l) (by (repeat refine And.intro (by first|rfl|exact congrArg (fun z=>some (AV.int .i64 z)) (by first|omega|(dsimp only;omega))) ?_);exact trivial) ⟨Nat.le_refl _,Nat.le_refl _,by dsimp only;omega,Nat.le_refl _,rfl,fun _ _=>rfl,fun x=>?_⟩ (by (repeat refine And.intro (by first|rfl|exact congrArg (fun z=>some (AV.int .i64 z)) (by first|omega|(dsimp only;omega))) ?_);exact trivial) (by (repeat refine And.intro (by first|rfl|exact congrArg (fun z=>some (AV.int .i64 z)) (by first|omega|(dsimp only;omega))) ?_);exact trivial) (fun _=>⟨rfl,rfl,okAr,by simp [hE]⟩) (fun q hk=>?_)
   ·dsimp only
    rw [mem_take1 (by omega),hkk]
    exact⟨.inl,fun h=>h.elim id fun e=>e ▸ mem_take_of (by omega) (by omega)⟩
   obtain⟨q,k2,l1⟩:=q
   obtain⟨g1,g2,g3,g4,g5,g6,g7⟩:=hk
   dsimp only at g1 g2 g3 g4 g5 g6 g7 ⊢
   conv=>whnf
   repeat' (first|((first|with_reducible refine Ix.nat _ ?_|refine Ix.tn (by omega) ?_|refine Pc.sym ?_|refine LdAt.one (e:=i1) (v:=I) (fun _=>rfl) (fun _=>rfl) 0 rfl _ rfl (by omega) ?_|refine StAt.el (e:=i1) (n:=1) i1_len _ rfl rfl _ (Nat.mul_one _).symm (by first|omega|(simp only [List.length_set];omega)) ?_|refine QAt.slLo tabOk (l:=q) rfl rfl rfl rfl rfl rfl (by omega) (by omega) ?_|refine QAt.slHi tabOk (l:=q) rfl rfl rfl rfl rfl rfl (by omega) (by omega) ?_|refine OpAt.clear1 tabOk rfl rfl rfl (fun w=>by kernel_rfl) rfl (by omega) rfl (by omega) (fun l' e1 e2=>?_)|refine Ob.mk (by omega) ?_|refine Ob.mk (by unfold W.I64 at *;omega) ?_|refine Drw.loose (by kernel_rfl) ?_);conv=>whnf)|((first|refine Br.d (fun h=>?_) (fun h=>?_)|refine Br.n (fun h=>?_) (fun h=>?_))<;>conv=>whnf))
   ·have hv:l1.getD (0+k*1+k2*1) 0=l.getD (k+k2) 0:=by
     rw [show 0+k*1+k2*1=k+k2 by omega]
     exact g6 _ (by omega)
    refine⟨(q+1,k2+1,_),⟨by dsimp only;omega,by dsimp only;omega,by dsimp only;omega,by dsimp only;omega,?_,?_,?_⟩,by dsimp only;omega,(by (repeat refine And.intro (by first|rfl|exact congrArg (fun z=>some (AV.int .i64 z)) (by first|omega|(dsimp only;omega))) ?_);exact trivial),(by trivial),(by trivial)⟩
    ·simpa using g5
    ·intro j hj
     dsimp only at hj ⊢
     rw [← g6 j (by omega)]
     simp only [List.getD_eq_getElem?_getD]
     rw [List.getElem?_set_ne (by omega)]
    ·intro x
     dsimp only
     rw [show 0+q*1=q by omega,mem_set1 _ (by omega),g7,hv,show k+(k2+1)=k+k2+1 by omega,mem_take1 (by omega)]
   ·have hv:l.getD (k+k2) 0=l.getD (k+k2-1) 0:=by
     rw [← g6 (k+k2) (by omega),← g6 (k+k2-1) (by omega)]
     have h2:=h
     rw [show 0+k*1+k2*1=k+k2 by omega,show 0+k*1+((k2:Int)-1).toNat*1=k+k2-1 by omega] at h2
     simpa using h2
    refine⟨(q,k2+1,l1),⟨by dsimp only;omega,by dsimp only;omega,by dsimp only;omega,by dsimp only;omega,g5,fun j hj=>g6 j (by dsimp only at hj;omega),?_⟩,by dsimp only;omega,(by (repeat refine And.intro (by first|rfl|exact congrArg (fun z=>some (AV.int .i64 z)) (by first|omega|(dsimp only;omega))) ?_);exact trivial),(by trivial),(by trivial)⟩
    intro x
    dsimp only
    rw [g7,show k+(k2+1)=k+k2+1 by omega,mem_take1 (by omega),hv]
    exact⟨.inl,fun h=>h.elim id fun e=>e ▸ mem_take_of (by omega) (by omega)⟩
   ·refine fin q l' (by omega) (by omega) (fun x=>?_)
    have e3:l'.take q=l1.take q:=by simpa using e2
    rw [e3,g7,show k+k2=n by omega]
    exact all x
  ·exact⟨k+1,⟨by omega,by omega⟩,by omega,(by (repeat refine And.intro (by first|rfl|exact congrArg (fun z=>some (AV.int .i64 z)) (by first|omega|(dsimp only;omega))) ?_);exact trivial),(by trivial),(by trivial)⟩
  ·exact fin n l (Nat.le_refl _) rfl all
theorem nan64(a:Int):Ret Tryz.prog 241 [I a] (·=.bool false):=by
 refine enterO tabOk (N:=6) (gs:=[]) (args:=[_]) Tryz.func241 rfl rfl rfl (nLe rfl) (fun E hE=>?_)
 conv=>whnf
 repeat' ((refine FinAt.val rfl ?_);conv=>whnf)
 exact eqB (by simp)
theorem less(a b:Int):Ret Tryz.prog 231 [I a,I b] (·=.bool (decide (a<b))):=by
 refine enterO tabOk (N:=17) (gs:=[]) (args:=[_,_]) Tryz.func231 rfl rfl rfl (nLe rfl) (fun E hE=>?_)
 conv=>whnf
 repeat' ((first|refine Br.of rfl ?_|refine CallS.q (nan64 _) rfl ?_|refine FinAt.val rfl ?_);conv=>whnf)
 all_goals rfl
theorem insertO(l:List Int)(r:List Value)(n c:Nat)(x y:Int)(hn:l.length=n)(h0:0≤x)(hab:x≤y)(hb:y≤n)(hc:n≤1000000) :
  SortC i1 1 225 n c l r [I x,I y] (·=.tup []):=by
 obtain⟨a,rfl⟩:=Int.eq_ofNat_of_zero_le h0
 obtain⟨b,rfl⟩:=Int.eq_ofNat_of_zero_le (show 0≤y by omega)
 refine enterO tabOk (N:=49) (gs:=[_]) (args:=[_,_,_]) Tryz.func225 rfl rfl rfl (nLe rfl) (fun E hE=>?_)
 conv=>whnf
 repeat' ((refine Ob.mk (by unfold W.I64 at *;omega) ?_);conv=>whnf)
 refine LoopAt.rule tabOk [(0,_),(1,_),(2,_)] (fun (i:Nat×List Int)=>[(6,.int .i64 (i.1:Int))]) (fun (i:Nat×List Int)=>[.blk (ar i1 i.2 r)]) (fun (i:Nat×List Int)=>i.2.Perm l∧a<i.1∧i.1≤b+1) (fun (i:Nat×List Int)=>b+1-i.1) (a+1,l) (by (repeat refine And.intro (by first|rfl|exact congrArg (fun z=>some (AV.int .i64 z)) (by first|omega|(dsimp only;omega))) ?_);exact trivial) ⟨.refl _,by omega,by dsimp only;omega⟩ (by (repeat refine And.intro (by first|rfl|exact congrArg (fun z=>some (AV.int .i64 z)) (by first|omega|(dsimp only;omega))) ?_);exact trivial) (by (repeat refine And.intro (by first|rfl|exact congrArg (fun z=>some (AV.int .i64 z)) (by first|omega|(dsimp only;omega))) ?_);exact trivial) (fun _=>⟨rfl,rfl,okAr,by simp [hE]⟩) (fun i hk=>?_)
 obtain⟨i,l1⟩:=i
 obtain⟨hp,hi,hi2⟩:=hk
 dsimp only at hp hi hi2 ⊢
 by_cases hlt:i<b
 ·conv=>whnf
  repeat' ((refine Br.pt (by omega) ?_);conv=>whnf)
  refine LoopAt.rule tabOk [(0,_),(1,_),(2,_),(6,_)] (fun (j:Nat×List Int)=>[(7,.int .i64 (j.1:Int))]) (fun (j:Nat×List Int)=>[.blk (ar i1 j.2 r)]) (fun (j:Nat×List Int)=>j.2.Perm l∧a≤j.1∧j.1≤i) (fun (j:Nat×List Int)=>j.1) (i,l1) (by (repeat refine And.intro (by first|rfl|exact congrArg (fun z=>some (AV.int .i64 z)) (by first|omega|(dsimp only;omega))) ?_);exact trivial) ⟨hp,by dsimp only;omega,Nat.le_refl _⟩ (by (repeat refine And.intro (by first|rfl|exact congrArg (fun z=>some (AV.int .i64 z)) (by first|omega|(dsimp only;omega))) ?_);exact trivial) (by (repeat refine And.intro (by first|rfl|exact congrArg (fun z=>some (AV.int .i64 z)) (by first|omega|(dsimp only;omega))) ?_);exact trivial) (fun _=>⟨rfl,rfl,okAr,by simp [hE]⟩) (fun j hk=>?_)
  obtain⟨j,l2⟩:=j
  obtain⟨hp2,hj,hj2⟩:=hk
  dsimp only at hp2 hj hj2 ⊢
  have hl2:=hp2.length_eq
  conv=>whnf
  repeat' (first|((first|with_reducible refine Ix.nat _ ?_|refine Ix.tn (by omega) ?_|refine Pc.sym ?_|refine LdAt.one (e:=i1) (v:=I) (fun _=>rfl) (fun _=>rfl) 0 rfl _ rfl (by omega) ?_|refine StAt.el (e:=i1) (n:=1) i1_len _ rfl rfl _ (Nat.mul_one _).symm (by first|omega|(simp only [List.length_set];omega)) ?_|(refine Drw.len 18 15 rfl rfl ?_;refine Drw.lateP tabOk [0,1,5,6,7,8,9,10,11,12,13,14] [2,3,4] [15,16,17] (by kernel_rfl) (by kernel_rfl) ?_)|refine Br.pt (by assumption) ?_|refine Br.pf (by assumption) ?_|refine Br.of rfl ?_|refine CallX.pu (less _ _) rfl rfl ?_|refine Ob.mk (by omega) ?_|refine Ob.mk (by unfold W.I64 at *;omega) ?_|refine Drw.loose (by kernel_rfl) ?_);conv=>whnf)|((refine Br.d (fun h=>?_) (fun h=>?_))<;>conv=>whnf))
  ·refine⟨(j-1,_),⟨?_,?_,?_⟩,?_,(by (repeat refine And.intro (by first|rfl|exact congrArg (fun z=>some (AV.int .i64 z)) (by first|omega|(dsimp only;omega))) ?_);exact trivial),(by trivial),(by trivial)⟩
   ·exact(swap_perm 0 (by omega) (by omega)).trans hp2
   all_goals dsimp only;omega
  all_goals
   refine⟨(i+1,l2),⟨hp2,?_,?_⟩,?_,(by trivial),(by trivial),(by trivial)⟩
   all_goals dsimp only;omega
 ·conv=>whnf
  repeat' ((refine Br.pf (by omega) ?_);conv=>whnf)
  refine FinAt.asis (ars:=[]) [] RvL.nil (by simp) (by show 1≤_;simp) okAr ⟨rfl,l1,hp,rfl⟩
theorem siftO(l:List Int)(r:List Value)(n c:Nat)(x y z:Int)(hn:l.length=n)(h0:0≤x)(hlo:x≤y)(h1:0≤z)(hb:z+y≤n)(hc:n≤1000000) :
  SortC i1 1 238 n c l r [I x,I y,I z] (·=.tup []):=by
 obtain⟨lo,rfl⟩:=Int.eq_ofNat_of_zero_le h0
 obtain⟨hi,rfl⟩:=Int.eq_ofNat_of_zero_le (show 0≤y by omega)
 obtain⟨first,rfl⟩:=Int.eq_ofNat_of_zero_le h1
 refine enterO tabOk (N:=76) (gs:=[_]) (args:=[_,_,_,_]) Tryz.func238 rfl rfl rfl (nLe rfl) (fun E hE=>?_)
 conv=>whnf
 refine LoopAt.rule tabOk [(0,_),(2,_),(3,_)] (fun (q:Nat×List Int)=>[(8,.int .i64 (q.1:Int))]) (fun (q:Nat×List Int)=>[.blk (ar i1 q.2 r)]) (fun (q:Nat×List Int)=>q.2.Perm l∧q.1≤hi) (fun (q:Nat×List Int)=>hi-q.1) (lo,l) (by (repeat refine And.intro (by first|rfl|exact congrArg (fun z=>some (AV.int .i64 z)) (by first|omega|(dsimp only;omega))) ?_);exact trivial) ⟨.refl _,by dsimp only;omega⟩ (by (repeat refine And.intro (by first|rfl|exact congrArg (fun z=>some (AV.int .i64 z)) (by first|omega|(dsimp only;omega))) ?_);exact trivial) (by (repeat refine And.intro (by first|rfl|exact congrArg (fun z=>some (AV.int .i64 z)) (by first|omega|(dsimp only;omega))) ?_);exact trivial) (fun _=>⟨rfl,rfl,okAr,by simp [hE]⟩) (fun q hk=>?_)
 obtain⟨q,l1⟩:=q
 obtain⟨hp,hq⟩:=hk
 dsimp only at hp hq ⊢
 have hl1:=hp.length_eq
 conv=>whnf
 repeat' (first|((first|refine Ix.tn (by omega) ?_|refine Pc.sym ?_|refine LdAt.one (e:=i1) (v:=I) (fun _=>rfl) (fun _=>rfl) 0 rfl _ rfl (by omega) ?_|refine StAt.el (e:=i1) (n:=1) i1_len _ rfl rfl _ (Nat.mul_one _).symm (by first|omega|(simp only [List.length_set];omega)) ?_|(refine Drw.len 24 21 rfl rfl ?_;refine Drw.lateP tabOk [0,1,2,3,8,9,10,11,12,13,14,15,16,17,18,19,20] [4,5,6,7] [21,22,23] (by kernel_rfl) (by kernel_rfl) ?_)|refine Br.pt (by assumption) ?_|refine Br.pf (by assumption) ?_|refine Br.of rfl ?_|refine CallX.pu (less _ _) rfl rfl ?_|refine Ob.mk (by omega) ?_|refine Ob.mk (by unfold W.I64 at *;omega) ?_|refine Drw.loose (by kernel_rfl) ?_);conv=>whnf)|((first|refine Br.d (fun h=>?_) (fun h=>?_)|refine Br.n (fun h=>?_) (fun h=>?_))<;>conv=>whnf))
 all_goals try exact FinAt.asis (ars:=[]) [] RvL.nil (by simp) (by show 1≤_;simp) okAr ⟨rfl,l1,hp,rfl⟩
 ·refine⟨(2*q+1+1,_),⟨?_,by dsimp only;omega⟩,by dsimp only;omega,(by (repeat refine And.intro (by first|rfl|exact congrArg (fun z=>some (AV.int .i64 z)) (by first|omega|(dsimp only;omega))) ?_);exact trivial),(by trivial),(by trivial)⟩
  exact(swap_perm 0 (by omega) (by omega)).trans hp
 all_goals
  refine⟨(2*q+1,_),⟨?_,by dsimp only;omega⟩,by dsimp only;omega,(by (repeat refine And.intro (by first|rfl|exact congrArg (fun z=>some (AV.int .i64 z)) (by first|omega|(dsimp only;omega))) ?_);exact trivial),(by trivial),(by trivial)⟩
  exact(swap_perm 0 (by omega) (by omega)).trans hp
theorem revO(l:List Int)(r:List Value)(n c:Nat)(x y:Int)(hn:l.length=n)(h0:0≤x)(hab:x<y)(hb:y≤n)(hc:n≤1000000) :
  SortC i1 1 229 n c l r [I x,I y] (·=.tup []):=by
 obtain⟨a,rfl⟩:=Int.eq_ofNat_of_zero_le h0
 obtain⟨b,rfl⟩:=Int.eq_ofNat_of_zero_le (show 0≤y by omega)
 refine enterO tabOk (N:=32) (gs:=[_]) (args:=[_,_,_]) Tryz.func229 rfl rfl rfl (nLe rfl) (fun E hE=>?_)
 conv=>whnf
 repeat' ((refine Ob.mk (by unfold W.I64 at *;omega) ?_);conv=>whnf)
 refine LoopAt.rule tabOk [(0,_)] (fun (q:Nat×Nat×List Int)=>[(6,.int .i64 (q.1:Int)),(7,.int .i64 (q.2.1:Int))]) (fun (q:Nat×Nat×List Int)=>[.blk (ar i1 q.2.2 r)]) (fun (q:Nat×Nat×List Int)=>q.2.2.Perm l∧q.1≤n∧q.2.1<n) (fun (q:Nat×Nat×List Int)=>q.2.1) (a,b-1,l) (by (repeat refine And.intro (by first|rfl|exact congrArg (fun z=>some (AV.int .i64 z)) (by first|omega|(dsimp only;omega))) ?_);exact trivial) ⟨.refl _,by omega,by dsimp only;omega⟩ (by (repeat refine And.intro (by first|rfl|exact congrArg (fun z=>some (AV.int .i64 z)) (by first|omega|(dsimp only;omega))) ?_);exact trivial) (by (repeat refine And.intro (by first|rfl|exact congrArg (fun z=>some (AV.int .i64 z)) (by first|omega|(dsimp only;omega))) ?_);exact trivial) (fun _=>⟨rfl,rfl,okAr,by simp [hE]⟩) (fun q hk=>?_)
 obtain⟨q,p,l1⟩:=q
 obtain⟨hp,hq,hq2⟩:=hk
 dsimp only at hp hq hq2 ⊢
 have hl1:=hp.length_eq
 conv=>whnf
 repeat' (first|((first|with_reducible refine Ix.nat _ ?_|refine Pc.sym ?_|refine LdAt.one (e:=i1) (v:=I) (fun _=>rfl) (fun _=>rfl) 0 rfl _ rfl (by omega) ?_|refine StAt.el (e:=i1) (n:=1) i1_len _ rfl rfl _ (Nat.mul_one _).symm (by first|omega|(simp only [List.length_set];omega)) ?_|(refine Drw.len 16 13 rfl rfl ?_;refine Drw.lateP tabOk [0,1,4,5,6,7,8,9,10,11,12] [2,3] [13,14,15] (by kernel_rfl) (by kernel_rfl) ?_)|refine Ob.mk (by omega) ?_|refine Ob.mk (by unfold W.I64 at *;omega) ?_);conv=>whnf)|((refine Br.d (fun h=>?_) (fun h=>?_))<;>conv=>whnf))
 ·refine⟨(q+1,p-1,_),⟨?_,by dsimp only;omega,by dsimp only;omega⟩,by dsimp only;omega,(by (repeat refine And.intro (by first|rfl|exact congrArg (fun z=>some (AV.int .i64 z)) (by first|omega|(dsimp only;omega))) ?_);exact trivial),(by trivial),(by trivial)⟩
  exact(swap_perm 0 (by omega) (by omega)).trans hp
 ·exact FinAt.asis (ars:=[]) [] RvL.nil (by simp) (by show 1≤_;simp) okAr ⟨rfl,l1,hp,rfl⟩
theorem heapO(l:List Int)(r:List Value)(n c:Nat)(x y:Int)(hn:l.length=n)(h0:0≤x)(hab:x<y)(hb:y≤n)(hc:n≤1000000) :
  SortC i1 1 226 n c l r [I x,I y] (·=.tup []):=by
 obtain⟨a,rfl⟩:=Int.eq_ofNat_of_zero_le h0
 obtain⟨b,rfl⟩:=Int.eq_ofNat_of_zero_le (show 0≤y by omega)
 refine enterO tabOk (N:=56) (gs:=[_]) (args:=[_,_,_]) Tryz.func226 rfl rfl rfl (nLe rfl) (fun E hE=>?_)
 conv=>whnf
 repeat' ((refine Ob.mk (by unfold W.I64 at *;omega) ?_);conv=>whnf)
 refine LoopAt.rule tabOk [(0,_),(6,_),(7,_),(8,_)] (fun (q:Nat×List Int)=>[(9,.int .i64 ((q.1:Int)-1))]) (fun (q:Nat×List Int)=>[.blk (ar i1 q.2 r)]) (fun (q:Nat×List Int)=>q.2.Perm l∧q.1≤b-a) (fun (q:Nat×List Int)=>q.1) ((b-a-1)/2+1,l) (by (repeat refine And.intro (by first|rfl|exact congrArg (fun z=>some (AV.int .i64 z)) (by first|omega|(dsimp only;omega))) ?_);exact trivial) ⟨.refl _,by dsimp only;omega⟩ (by (repeat refine And.intro (by first|rfl|exact congrArg (fun z=>some (AV.int .i64 z)) (by first|omega|(dsimp only;omega))) ?_);exact trivial) (by (repeat refine And.intro (by first|rfl|exact congrArg (fun z=>some (AV.int .i64 z)) (by first|omega|(dsimp only;omega))) ?_);exact trivial) (fun _=>⟨rfl,rfl,okAr,by simp [hE]⟩) (fun q hk=>?_)
 obtain⟨q,l1⟩:=q
 obtain⟨hp,hq⟩:=hk
 dsimp only at hp hq ⊢
 have hl1:=hp.length_eq
 conv=>whnf
 repeat' (first|((refine Ob.mk (by unfold W.I64 at *;omega) ?_);conv=>whnf)|((refine Br.d (fun h=>?_) (fun h=>?_))<;>conv=>whnf))
 ·refine CallS.srt (siftO l1 r n c _ _ _ (by omega) (by omega) (by omega) (by omega) (by omega) hc) rfl (fun _=>rfl) (fun _=>rfl) (fun x l' hx hp'=>?_)
  subst hx
  conv=>whnf
  repeat' ((refine Ob.mk (by unfold W.I64 at *;omega) ?_);conv=>whnf)
  exact⟨(q-1,l'),⟨hp'.trans hp,by dsimp only;omega⟩,by dsimp only;omega,(by (repeat refine And.intro (by first|rfl|exact congrArg (fun z=>some (AV.int .i64 z)) (by first|omega|(dsimp only;omega))) ?_);exact trivial),(by trivial),(by trivial)⟩
 ·refine LoopAt.rule tabOk [(0,_),(6,_),(7,_)] (fun (q:Nat×List Int)=>[(10,.int .i64 ((q.1:Int)-1))]) (fun (q:Nat×List Int)=>[.blk (ar i1 q.2 r)]) (fun (q:Nat×List Int)=>q.2.Perm l∧q.1≤b-a) (fun (q:Nat×List Int)=>q.1) (b-a,l1) (by (repeat refine And.intro (by first|rfl|exact congrArg (fun z=>some (AV.int .i64 z)) (by first|omega|(dsimp only;omega))) ?_);exact trivial) ⟨hp,by dsimp only;omega⟩ (by (repeat refine And.intro (by first|rfl|exact congrArg (fun z=>some (AV.int .i64 z)) (by first|omega|(dsimp only;omega))) ?_);exact trivial) (by (repeat refine And.intro (by first|rfl|exact congrArg (fun z=>some (AV.int .i64 z)) (by first|omega|(dsimp only;omega))) ?_);exact trivial) (fun _=>⟨rfl,rfl,okAr,by simp [hE]⟩) (fun q hk=>?_)
  obtain⟨q,l2⟩:=q
  obtain⟨hp2,hq⟩:=hk
  dsimp only at hp2 hq ⊢
  have hl2:=hp2.length_eq
  conv=>whnf
  repeat' (first|((first|with_reducible refine Ix.nat _ ?_|refine Ix.tn (by omega) ?_|refine Pc.sym ?_|refine LdAt.one (e:=i1) (v:=I) (fun _=>rfl) (fun _=>rfl) 0 rfl _ rfl (by omega) ?_|refine StAt.el (e:=i1) (n:=1) i1_len _ rfl rfl _ (Nat.mul_one _).symm (by first|omega|(simp only [List.length_set];omega)) ?_|(refine Drw.len 20 17 rfl rfl ?_;refine Drw.lateP tabOk [0,1,6,7,8,9,10,11,12,13,14,15,16] [2,3,4,5] [17,18,19] (by kernel_rfl) (by kernel_rfl) ?_)|refine Ob.mk (by omega) ?_|refine Ob.mk (by unfold W.I64 at *;omega) ?_);conv=>whnf)|((refine Br.d (fun h=>?_) (fun h=>?_))<;>conv=>whnf))
  ·refine CallS.srt (siftO _ r n c _ _ _ (by rw [List.length_set,List.length_set];omega) (by omega) (by omega) (by omega) (by omega) hc) rfl (fun _=>rfl) (fun _=>rfl) (fun x l' hx hp'=>?_)
   subst hx
   conv=>whnf
   repeat' ((refine Ob.mk (by unfold W.I64 at *;omega) ?_);conv=>whnf)
   refine⟨(q-1,l'),⟨?_,by dsimp only;omega⟩,by dsimp only;omega,(by (repeat refine And.intro (by first|rfl|exact congrArg (fun z=>some (AV.int .i64 z)) (by first|omega|(dsimp only;omega))) ?_);exact trivial),(by trivial),(by trivial)⟩
   exact hp'.trans ((swap_perm 0 (by omega) (by omega)).trans hp2)
  ·exact FinAt.asis (ars:=[]) [] RvL.nil (by simp) (by show 1≤_;simp) okAr ⟨rfl,l2,hp2,rfl⟩
def PivIs(x y:Int)(v:AV):Prop:=∃ (p:Int) (b:Bool),v=.tup [I p,.bool b]∧x≤p∧p<y
theorem partO(l:List Int)(r:List Value)(n c:Nat)(x y z:Int)(hn:l.length=n)(h0:0≤x)(hz:x≤z)(hz2:z<y)(hb:y≤n)(hc:n≤1000000) :
  SortC i1 1 233 n c l r [I x,I y,I z] (PivIs x y):=by
 obtain⟨a,rfl⟩:=Int.eq_ofNat_of_zero_le h0
 obtain⟨b,rfl⟩:=Int.eq_ofNat_of_zero_le (show 0≤y by omega)
 obtain⟨p,rfl⟩:=Int.eq_ofNat_of_zero_le (show 0≤z by omega)
 refine enterO tabOk (N:=168) (gs:=[_]) (args:=[_,_,_,_]) Tryz.func233 rfl rfl rfl (nLe rfl) (fun E hE=>?_)
 conv=>whnf
 repeat' ((first|with_reducible refine Ix.nat _ ?_|refine Pc.sym ?_|refine LdAt.one (e:=i1) (v:=I) (fun _=>rfl) (fun _=>rfl) 0 rfl _ rfl (by omega) ?_|refine StAt.el (e:=i1) (n:=1) i1_len _ rfl rfl _ (Nat.mul_one _).symm (by first|omega|(simp only [List.length_set];omega)) ?_|(refine Drw.len 16 13 rfl rfl ?_;refine Drw.lateP tabOk [0,1,4,5,6,7,8,9,10,11,12] [2,3] [13,14,15] (by kernel_rfl) (by kernel_rfl) ?_)|refine Ob.mk (by omega) ?_|refine Ob.mk (by unfold W.I64 at *;omega) ?_);conv=>whnf)
 refine LoopAt.rule tabOk [(0,_),(1,_),(11,_)] (fun (q:Nat×List Int)=>[(10,.int .i64 (q.1:Int))]) (fun (q:Nat×List Int)=>[.blk (ar i1 q.2 r)]) (fun (q:Nat×List Int)=>q.2.Perm l∧a+1≤q.1∧q.1≤b) (fun (q:Nat×List Int)=>b-q.1) (a+1,_) (by (repeat refine And.intro (by first|rfl|exact congrArg (fun z=>some (AV.int .i64 z)) (by first|omega|(dsimp only;omega))) ?_);exact trivial) ?_ (by (repeat refine And.intro (by first|rfl|exact congrArg (fun z=>some (AV.int .i64 z)) (by first|omega|(dsimp only;omega))) ?_);exact trivial) (by (repeat refine And.intro (by first|rfl|exact congrArg (fun z=>some (AV.int .i64 z)) (by first|omega|(dsimp only;omega))) ?_);exact trivial) (fun _=>⟨rfl,rfl,okAr,by simp [hE]⟩) (fun q hk=>?_)
 ·exact⟨swap_perm 0 (by omega) (by omega),by dsimp only;omega,by dsimp only;omega⟩
 obtain⟨i,l1⟩:=q
 obtain⟨hp,hi,hi2⟩:=hk
 dsimp only at hp hi hi2 ⊢
 have hl1:=hp.length_eq
 conv=>whnf
 repeat' (first|((first|with_reducible refine Ix.nat _ ?_|refine Pc.sym ?_|refine LdAt.one (e:=i1) (v:=I) (fun _=>rfl) (fun _=>rfl) 0 rfl _ rfl (by omega) ?_|refine Br.pt (by assumption) ?_|refine Br.pf (by assumption) ?_|refine Br.of rfl ?_|refine CallX.pu (less _ _) rfl rfl ?_|refine Ob.mk (by omega) ?_|refine Ob.mk (by unfold W.I64 at *;omega) ?_|refine Drw.loose (by kernel_rfl) ?_);conv=>whnf)|((refine Br.d (fun h=>?_) (fun h=>?_))<;>conv=>whnf))
 ·exact⟨(i+1,l1),⟨hp,by dsimp only;omega,by dsimp only;omega⟩,by dsimp only;omega,(by (repeat refine And.intro (by first|rfl|exact congrArg (fun z=>some (AV.int .i64 z)) (by first|omega|(dsimp only;omega))) ?_);exact trivial),(by trivial),(by trivial)⟩
 all_goals
  refine LoopAt.rule tabOk [(0,_),(1,_),(10,_)] (fun (q:Nat×List Int)=>[(11,.int .i64 (q.1:Int))]) (fun (q:Nat×List Int)=>[.blk (ar i1 q.2 r)]) (fun (q:Nat×List Int)=>q.2.Perm l∧a≤q.1∧q.1<b) (fun (q:Nat×List Int)=>q.1) (b-1,l1) (by (repeat refine And.intro (by first|rfl|exact congrArg (fun z=>some (AV.int .i64 z)) (by first|omega|(dsimp only;omega))) ?_);exact trivial) ⟨hp,by dsimp only;omega,by dsimp only;omega⟩ (by (repeat refine And.intro (by first|rfl|exact congrArg (fun z=>some (AV.int .i64 z)) (by first|omega|(dsimp only;omega))) ?_);exact trivial) (by (repeat refine And.intro (by first|rfl|exact congrArg (fun z=>some (AV.int .i64 z)) (by first|omega|(dsimp only;omega))) ?_);exact trivial) (fun _=>⟨rfl,rfl,okAr,by simp [hE]⟩) (fun q hk=>?_)
  obtain⟨j,l2⟩:=q
  obtain⟨hp2,hj,hj2⟩:=hk
  dsimp only at hp2 hj hj2 ⊢
  have hl2:=hp2.length_eq
  conv=>whnf
  repeat' (first|((first|with_reducible refine Ix.nat _ ?_|refine Pc.sym ?_|refine LdAt.one (e:=i1) (v:=I) (fun _=>rfl) (fun _=>rfl) 0 rfl _ rfl (by omega) ?_|refine StAt.el (e:=i1) (n:=1) i1_len _ rfl rfl _ (Nat.mul_one _).symm (by first|omega|(simp only [List.length_set];omega)) ?_|(refine Drw.len 16 13 rfl rfl ?_;refine Drw.lateP tabOk [0,1,4,5,6,7,8,9,10,11,12] [2,3] [13,14,15] (by kernel_rfl) (by kernel_rfl) ?_)|refine Br.pt (by assumption) ?_|refine Br.pf (by assumption) ?_|refine Br.pt (by omega) ?_|refine Br.pf (by omega) ?_|refine Br.of rfl ?_|refine CallX.pu (less _ _) rfl rfl ?_|refine Ob.mk (by omega) ?_|refine Ob.mk (by unfold W.I64 at *;omega) ?_|refine Drw.loose (by kernel_rfl) ?_);conv=>whnf)|((first|refine Br.d (fun h=>?_) (fun h=>?_)|refine Br.n (fun h=>?_) (fun h=>?_))<;>conv=>whnf))
  all_goals try exact Exists.intro (j-1,l2) ⟨⟨hp2,by dsimp only;omega,by dsimp only;omega⟩,by dsimp only;omega,(by (repeat refine And.intro (by first|rfl|exact congrArg (fun z=>some (AV.int .i64 z)) (by first|omega|(dsimp only;omega))) ?_);exact trivial),(by trivial),(by trivial)⟩
  all_goals try refine FinAt.asis (ars:=[I _,.bool true]) [] (RvL.pu rfl) (by simp) (by show 1≤_;simp) okAr ⟨⟨j,true,rfl,by omega,by omega⟩,_,(swap_perm 0 (by omega) (by omega)).trans hp2,rfl⟩
  all_goals
   refine LoopAt.rule tabOk [(0,_),(1,_)] (fun (q:Nat×Nat×List Int)=>[(10,.int .i64 (q.1:Int)),(11,.int .i64 (q.2.1:Int))]) (fun (q:Nat×Nat×List Int)=>[.blk (ar i1 q.2.2 r)]) (fun (q:Nat×Nat×List Int)=>q.2.2.Perm l∧a+1≤q.1∧q.1≤b∧a≤q.2.1∧q.2.1<b) (fun (q:Nat×Nat×List Int)=>q.2.1) (i+1,j-1,_) (by (repeat refine And.intro (by first|rfl|exact congrArg (fun z=>some (AV.int .i64 z)) (by first|omega|(dsimp only;omega))) ?_);exact trivial) ?_ (by (repeat refine And.intro (by first|rfl|exact congrArg (fun z=>some (AV.int .i64 z)) (by first|omega|(dsimp only;omega))) ?_);exact trivial) (by (repeat refine And.intro (by first|rfl|exact congrArg (fun z=>some (AV.int .i64 z)) (by first|omega|(dsimp only;omega))) ?_);exact trivial) (fun _=>⟨rfl,rfl,okAr,by simp [hE]⟩) (fun q hk=>?_)
   ·exact⟨(swap_perm 0 (by omega) (by omega)).trans hp2,by dsimp only;omega,by dsimp only;omega,by dsimp only;omega,by dsimp only;omega⟩
   obtain⟨i',j',l3⟩:=q
   obtain⟨hp3,hi',hi2',hj',hj2'⟩:=hk
   dsimp only at hp3 hi' hi2' hj' hj2' ⊢
   have hl3:=hp3.length_eq
   conv=>whnf
   refine LoopAt.rule tabOk [(0,_),(1,_),(11,_)] (fun (q:Nat×List Int)=>[(10,.int .i64 (q.1:Int))]) (fun (q:Nat×List Int)=>[.blk (ar i1 q.2 r)]) (fun (q:Nat×List Int)=>q.2.Perm l∧a+1≤q.1∧q.1≤b) (fun (q:Nat×List Int)=>b-q.1) (i',l3) (by (repeat refine And.intro (by first|rfl|exact congrArg (fun z=>some (AV.int .i64 z)) (by first|omega|(dsimp only;omega))) ?_);exact trivial) ⟨hp3,hi',hi2'⟩ (by (repeat refine And.intro (by first|rfl|exact congrArg (fun z=>some (AV.int .i64 z)) (by first|omega|(dsimp only;omega))) ?_);exact trivial) (by (repeat refine And.intro (by first|rfl|exact congrArg (fun z=>some (AV.int .i64 z)) (by first|omega|(dsimp only;omega))) ?_);exact trivial) (fun _=>⟨rfl,rfl,okAr,by simp [hE]⟩) (fun q hk=>?_)
   obtain⟨i2,l4⟩:=q
   obtain⟨hp4,hi3,hi4⟩:=hk
   dsimp only at hp4 hi3 hi4 ⊢
   have hl4:=hp4.length_eq
   conv=>whnf
   repeat' (first|((first|with_reducible refine Ix.nat _ ?_|refine Pc.sym ?_|refine LdAt.one (e:=i1) (v:=I) (fun _=>rfl) (fun _=>rfl) 0 rfl _ rfl (by omega) ?_|refine Br.pt (by assumption) ?_|refine Br.pf (by assumption) ?_|refine Br.of rfl ?_|refine CallX.pu (less _ _) rfl rfl ?_|refine Ob.mk (by omega) ?_|refine Ob.mk (by unfold W.I64 at *;omega) ?_|refine Drw.loose (by kernel_rfl) ?_);conv=>whnf)|((refine Br.d (fun h=>?_) (fun h=>?_))<;>conv=>whnf))
   ·exact⟨(i2+1,l4),⟨hp4,by dsimp only;omega,by dsimp only;omega⟩,by dsimp only;omega,(by (repeat refine And.intro (by first|rfl|exact congrArg (fun z=>some (AV.int .i64 z)) (by first|omega|(dsimp only;omega))) ?_);exact trivial),(by trivial),(by trivial)⟩
   all_goals
    refine LoopAt.rule tabOk [(0,_),(1,_),(10,_)] (fun (q:Nat×List Int)=>[(11,.int .i64 (q.1:Int))]) (fun (q:Nat×List Int)=>[.blk (ar i1 q.2 r)]) (fun (q:Nat×List Int)=>q.2.Perm l∧a≤q.1∧q.1≤j') (fun (q:Nat×List Int)=>q.1) (j',l4) (by (repeat refine And.intro (by first|rfl|exact congrArg (fun z=>some (AV.int .i64 z)) (by first|omega|(dsimp only;omega))) ?_);exact trivial) ⟨hp4,hj',Nat.le_refl _⟩ (by (repeat refine And.intro (by first|rfl|exact congrArg (fun z=>some (AV.int .i64 z)) (by first|omega|(dsimp only;omega))) ?_);exact trivial) (by (repeat refine And.intro (by first|rfl|exact congrArg (fun z=>some (AV.int .i64 z)) (by first|omega|(dsimp only;omega))) ?_);exact trivial) (fun _=>⟨rfl,rfl,okAr,by simp [hE]⟩) (fun q hk=>?_)
    obtain⟨j2,l5⟩:=q
    obtain⟨hp5,hj3,hj4⟩:=hk
    dsimp only at hp5 hj3 hj4 ⊢
    have hl5:=hp5.length_eq
    conv=>whnf
    repeat' (first|((first|with_reducible refine Ix.nat _ ?_|refine Pc.sym ?_|refine LdAt.one (e:=i1) (v:=I) (fun _=>rfl) (fun _=>rfl) 0 rfl _ rfl (by omega) ?_|refine StAt.el (e:=i1) (n:=1) i1_len _ rfl rfl _ (Nat.mul_one _).symm (by first|omega|(simp only [List.length_set];omega)) ?_|(refine Drw.len 16 13 rfl rfl ?_;refine Drw.lateP tabOk [0,1,4,5,6,7,8,9,10,11,12] [2,3] [13,14,15] (by kernel_rfl) (by kernel_rfl) ?_)|refine Br.pt (by assumption) ?_|refine Br.pf (by assumption) ?_|refine Br.pt (by omega) ?_|refine Br.pf (by omega) ?_|refine Br.of rfl ?_|refine CallX.pu (less _ _) rfl rfl ?_|refine Ob.mk (by omega) ?_|refine Ob.mk (by unfold W.I64 at *;omega) ?_|refine Drw.loose (by kernel_rfl) ?_);conv=>whnf)|((first|refine Br.d (fun h=>?_) (fun h=>?_)|refine Br.n (fun h=>?_) (fun h=>?_))<;>conv=>whnf))
    all_goals try exact Exists.intro (j2-1,l5) ⟨⟨hp5,by dsimp only;omega,by dsimp only;omega⟩,by dsimp only;omega,(by (repeat refine And.intro (by first|rfl|exact congrArg (fun z=>some (AV.int .i64 z)) (by first|omega|(dsimp only;omega))) ?_);exact trivial),(by trivial),(by trivial)⟩
    all_goals try refine FinAt.asis (ars:=[I _,.bool false]) [] (RvL.pu rfl) (by simp) (by show 1≤_;simp) okAr ⟨⟨j2,false,rfl,by omega,by omega⟩,_,(swap_perm 0 (by omega) (by omega)).trans hp5,rfl⟩
    all_goals
     refine⟨(i2+1,j2-1,_),⟨?_,by dsimp only;omega,by dsimp only;omega,by dsimp only;omega,by dsimp only;omega⟩,by dsimp only;omega,(by (repeat refine And.intro (by first|rfl|exact congrArg (fun z=>some (AV.int .i64 z)) (by first|omega|(dsimp only;omega))) ?_);exact trivial),(by trivial),(by trivial)⟩
     exact(swap_perm 0 (by omega) (by omega)).trans hp5
theorem partEqO(l:List Int)(r:List Value)(n c:Nat)(x y z:Int)(hn:l.length=n)(h0:0≤x)(hz:x≤z)(hz2:z<y)(hb:y≤n)(hc:n≤1000000) :
  SortC i1 1 232 n c l r [I x,I y,I z] (fun v=>∃ p,v=I p∧x<p∧p≤y):=by
 obtain⟨a,rfl⟩:=Int.eq_ofNat_of_zero_le h0
 obtain⟨b,rfl⟩:=Int.eq_ofNat_of_zero_le (show 0≤y by omega)
 obtain⟨p,rfl⟩:=Int.eq_ofNat_of_zero_le (show 0≤z by omega)
 refine enterO tabOk (N:=84) (gs:=[_]) (args:=[_,_,_,_]) Tryz.func232 rfl rfl rfl (nLe rfl) (fun E hE=>?_)
 conv=>whnf
 repeat' ((first|with_reducible refine Ix.nat _ ?_|refine Pc.sym ?_|refine LdAt.one (e:=i1) (v:=I) (fun _=>rfl) (fun _=>rfl) 0 rfl _ rfl (by omega) ?_|refine StAt.el (e:=i1) (n:=1) i1_len _ rfl rfl _ (Nat.mul_one _).symm (by first|omega|(simp only [List.length_set];omega)) ?_|(refine Drw.len 16 13 rfl rfl ?_;refine Drw.lateP tabOk [0,1,4,5,6,7,8,9,10,11,12] [2,3] [13,14,15] (by kernel_rfl) (by kernel_rfl) ?_)|refine Ob.mk (by omega) ?_|refine Ob.mk (by unfold W.I64 at *;omega) ?_);conv=>whnf)
 refine LoopAt.rule tabOk [(0,_),(1,_)] (fun (q:Nat×Nat×List Int)=>[(9,.int .i64 (q.1:Int)),(10,.int .i64 (q.2.1:Int))]) (fun (q:Nat×Nat×List Int)=>[.blk (ar i1 q.2.2 r)]) (fun (q:Nat×Nat×List Int)=>q.2.2.Perm l∧a+1≤q.1∧q.1≤b∧a≤q.2.1∧q.2.1<b) (fun (q:Nat×Nat×List Int)=>q.2.1) (a+1,b-1,_) (by (repeat refine And.intro (by first|rfl|exact congrArg (fun z=>some (AV.int .i64 z)) (by first|omega|(dsimp only;omega))) ?_);exact trivial) ?_ (by (repeat refine And.intro (by first|rfl|exact congrArg (fun z=>some (AV.int .i64 z)) (by first|omega|(dsimp only;omega))) ?_);exact trivial) (by (repeat refine And.intro (by first|rfl|exact congrArg (fun z=>some (AV.int .i64 z)) (by first|omega|(dsimp only;omega))) ?_);exact trivial) (fun _=>⟨rfl,rfl,okAr,by simp [hE]⟩) (fun q hk=>?_)
 ·exact⟨swap_perm 0 (by omega) (by omega),by dsimp only;omega,by dsimp only;omega,by dsimp only;omega,by dsimp only;omega⟩
 obtain⟨i',j',l3⟩:=q
 obtain⟨hp3,hi',hi2',hj',hj2'⟩:=hk
 dsimp only at hp3 hi' hi2' hj' hj2' ⊢
 have hl3:=hp3.length_eq
 conv=>whnf
 refine LoopAt.rule tabOk [(0,_),(1,_),(10,_)] (fun (q:Nat×List Int)=>[(9,.int .i64 (q.1:Int))]) (fun (q:Nat×List Int)=>[.blk (ar i1 q.2 r)]) (fun (q:Nat×List Int)=>q.2.Perm l∧a+1≤q.1∧q.1≤b) (fun (q:Nat×List Int)=>b-q.1) (i',l3) (by (repeat refine And.intro (by first|rfl|exact congrArg (fun z=>some (AV.int .i64 z)) (by first|omega|(dsimp only;omega))) ?_);exact trivial) ⟨hp3,hi',hi2'⟩ (by (repeat refine And.intro (by first|rfl|exact congrArg (fun z=>some (AV.int .i64 z)) (by first|omega|(dsimp only;omega))) ?_);exact trivial) (by (repeat refine And.intro (by first|rfl|exact congrArg (fun z=>some (AV.int .i64 z)) (by first|omega|(dsimp only;omega))) ?_);exact trivial) (fun _=>⟨rfl,rfl,okAr,by simp [hE]⟩) (fun q hk=>?_)
 obtain⟨i2,l4⟩:=q
 obtain⟨hp4,hi3,hi4⟩:=hk
 dsimp only at hp4 hi3 hi4 ⊢
 have hl4:=hp4.length_eq
 conv=>whnf
 repeat' (first|((first|with_reducible refine Ix.nat _ ?_|refine Pc.sym ?_|refine LdAt.one (e:=i1) (v:=I) (fun _=>rfl) (fun _=>rfl) 0 rfl _ rfl (by omega) ?_|refine Br.pt (by assumption) ?_|refine Br.pf (by assumption) ?_|refine Br.of rfl ?_|refine CallX.pu (less _ _) rfl rfl ?_|refine Ob.mk (by omega) ?_|refine Ob.mk (by unfold W.I64 at *;omega) ?_|refine Drw.loose (by kernel_rfl) ?_);conv=>whnf)|((first|refine Br.d (fun h=>?_) (fun h=>?_)|refine Br.n (fun h=>?_) (fun h=>?_))<;>conv=>whnf))
 all_goals try exact Exists.intro (i2+1,l4) ⟨⟨hp4,by dsimp only;omega,by dsimp only;omega⟩,by dsimp only;omega,(by (repeat refine And.intro (by first|rfl|exact congrArg (fun z=>some (AV.int .i64 z)) (by first|omega|(dsimp only;omega))) ?_);exact trivial),(by trivial),(by trivial)⟩
 all_goals
  refine LoopAt.rule tabOk [(0,_),(1,_),(9,_)] (fun (q:Nat×List Int)=>[(10,.int .i64 (q.1:Int))]) (fun (q:Nat×List Int)=>[.blk (ar i1 q.2 r)]) (fun (q:Nat×List Int)=>q.2.Perm l∧a≤q.1∧q.1≤j') (fun (q:Nat×List Int)=>q.1) (j',l4) (by (repeat refine And.intro (by first|rfl|exact congrArg (fun z=>some (AV.int .i64 z)) (by first|omega|(dsimp only;omega))) ?_);exact trivial) ⟨hp4,hj',Nat.le_refl _⟩ (by (repeat refine And.intro (by first|rfl|exact congrArg (fun z=>some (AV.int .i64 z)) (by first|omega|(dsimp only;omega))) ?_);exact trivial) (by (repeat refine And.intro (by first|rfl|exact congrArg (fun z=>some (AV.int .i64 z)) (by first|omega|(dsimp only;omega))) ?_);exact trivial) (fun _=>⟨rfl,rfl,okAr,by simp [hE]⟩) (fun q hk=>?_)
  obtain⟨j2,l5⟩:=q
  obtain⟨hp5,hj3,hj4⟩:=hk
  dsimp only at hp5 hj3 hj4 ⊢
  have hl5:=hp5.length_eq
  conv=>whnf
  repeat' (first|((first|with_reducible refine Ix.nat _ ?_|refine Pc.sym ?_|refine LdAt.one (e:=i1) (v:=I) (fun _=>rfl) (fun _=>rfl) 0 rfl _ rfl (by omega) ?_|refine StAt.el (e:=i1) (n:=1) i1_len _ rfl rfl _ (Nat.mul_one _).symm (by first|omega|(simp only [List.length_set];omega)) ?_|(refine Drw.len 16 13 rfl rfl ?_;refine Drw.lateP tabOk [0,1,4,5,6,7,8,9,10,11,12] [2,3] [13,14,15] (by kernel_rfl) (by kernel_rfl) ?_)|refine Br.pt (by assumption) ?_|refine Br.pf (by assumption) ?_|refine Br.pt (by omega) ?_|refine Br.pf (by omega) ?_|refine Br.of rfl ?_|refine CallX.pu (less _ _) rfl rfl ?_|refine Ob.mk (by omega) ?_|refine Ob.mk (by unfold W.I64 at *;omega) ?_|refine Drw.loose (by kernel_rfl) ?_);conv=>whnf)|((refine Br.d (fun h=>?_) (fun h=>?_))<;>conv=>whnf))
  all_goals try exact Exists.intro (j2-1,l5) ⟨⟨hp5,by dsimp only;omega,by dsimp only;omega⟩,by dsimp only;omega,(by (repeat refine And.intro (by first|rfl|exact congrArg (fun z=>some (AV.int .i64 z)) (by first|omega|(dsimp only;omega))) ?_);exact trivial),(by trivial),(by trivial)⟩
  all_goals try refine FinAt.asis (ars:=[I _]) [] (RvL.pu rfl) (by simp) (by show 1≤_;simp) okAr ⟨⟨i2,rfl,by omega,by omega⟩,_,hp5,rfl⟩
  all_goals
   refine⟨(i2+1,j2-1,_),⟨?_,by dsimp only;omega,by dsimp only;omega,by dsimp only;omega,by dsimp only;omega⟩,by dsimp only;omega,(by (repeat refine And.intro (by first|rfl|exact congrArg (fun z=>some (AV.int .i64 z)) (by first|omega|(dsimp only;omega))) ?_);exact trivial),(by trivial),(by trivial)⟩
   exact(swap_perm 0 (by omega) (by omega)).trans hp5
theorem partInsO(l:List Int)(r:List Value)(n c:Nat)(x y:Int)(hn:l.length=n)(h0:0≤x)(hz:x<y)(hb:y≤n)(hc:n≤1000000) :
  SortC i1 1 230 n c l r [I x,I y] (fun v=>∃ p,v=.bool p):=by
 obtain⟨a,rfl⟩:=Int.eq_ofNat_of_zero_le h0
 obtain⟨b,rfl⟩:=Int.eq_ofNat_of_zero_le (show 0≤y by omega)
 refine enterO tabOk (N:=133) (gs:=[_]) (args:=[_,_,_]) Tryz.func230 rfl rfl rfl (nLe rfl) (fun E hE=>?_)
 conv=>whnf
 repeat' ((refine Ob.mk (by unfold W.I64 at *;omega) ?_);conv=>whnf)
 refine LoopAt.rule tabOk [(0,_),(1,_),(2,_)] (fun (q:Nat×Nat×List Int)=>[(7,.int .i64 (q.1:Int)),(8,.int .i64 (q.2.1:Int))]) (fun (q:Nat×Nat×List Int)=>[.blk (ar i1 q.2.2 r)]) (fun (q:Nat×Nat×List Int)=>q.2.2.Perm l∧a+1≤q.1∧q.1≤b∧q.2.1≤5) (fun (q:Nat×Nat×List Int)=>5-q.2.1) (a+1,0,l) (by (repeat refine And.intro (by first|rfl|exact congrArg (fun z=>some (AV.int .i64 z)) (by first|omega|(dsimp only;omega))) ?_);exact trivial) ⟨.refl _,by dsimp only;omega,by dsimp only;omega,by dsimp only;omega⟩ (by (repeat refine And.intro (by first|rfl|exact congrArg (fun z=>some (AV.int .i64 z)) (by first|omega|(dsimp only;omega))) ?_);exact trivial) (by (repeat refine And.intro (by first|rfl|exact congrArg (fun z=>some (AV.int .i64 z)) (by first|omega|(dsimp only;omega))) ?_);exact trivial) (fun _=>⟨rfl,rfl,okAr,by simp [hE]⟩) (fun q hk=>?_)
 obtain⟨i',j',l3⟩:=q
 obtain⟨hp3,hi',hi2',hj'⟩:=hk
 dsimp only at hp3 hi' hi2' hj' ⊢
 have hl3:=hp3.length_eq
 conv=>whnf
 repeat' ((refine Br.d (fun h=>?_) (fun h=>?_))<;>conv=>whnf)
 all_goals try refine FinAt.asis (ars:=[.bool _]) [] (RvL.pu rfl) (by simp) (by show 1≤_;simp) okAr ⟨⟨_,rfl⟩,_,hp3,rfl⟩
 refine LoopAt.rule tabOk [(0,_),(1,_),(2,_),(8,_)] (fun (q:Nat×List Int)=>[(7,.int .i64 (q.1:Int))]) (fun (q:Nat×List Int)=>[.blk (ar i1 q.2 r)]) (fun (q:Nat×List Int)=>q.2.Perm l∧a+1≤q.1∧q.1≤b) (fun (q:Nat×List Int)=>b-q.1) (i',l3) (by (repeat refine And.intro (by first|rfl|exact congrArg (fun z=>some (AV.int .i64 z)) (by first|omega|(dsimp only;omega))) ?_);exact trivial) ⟨hp3,hi',hi2'⟩ (by (repeat refine And.intro (by first|rfl|exact congrArg (fun z=>some (AV.int .i64 z)) (by first|omega|(dsimp only;omega))) ?_);exact trivial) (by (repeat refine And.intro (by first|rfl|exact congrArg (fun z=>some (AV.int .i64 z)) (by first|omega|(dsimp only;omega))) ?_);exact trivial) (fun _=>⟨rfl,rfl,okAr,by simp [hE]⟩) (fun q hk=>?_)
 obtain⟨i2,l4⟩:=q
 obtain⟨hp4,hi3,hi4⟩:=hk
 dsimp only at hp4 hi3 hi4 ⊢
 have hl4:=hp4.length_eq
 conv=>whnf
 repeat' (first|((first|with_reducible refine Ix.nat _ ?_|refine Ix.tn (by omega) ?_|refine Pc.sym ?_|refine LdAt.one (e:=i1) (v:=I) (fun _=>rfl) (fun _=>rfl) 0 rfl _ rfl (by omega) ?_|refine StAt.el (e:=i1) (n:=1) i1_len _ rfl rfl _ (Nat.mul_one _).symm (by first|omega|(simp only [List.length_set];omega)) ?_|(refine Drw.len 18 15 rfl rfl ?_;refine Drw.lateP tabOk [0,1,5,6,7,8,9,10,11,12,13,14] [2,3,4] [15,16,17] (by kernel_rfl) (by kernel_rfl) ?_)|refine Br.pt (by assumption) ?_|refine Br.pf (by assumption) ?_|refine Br.pt (by omega) ?_|refine Br.pf (by omega) ?_|refine Br.of rfl ?_|refine CallX.pu (less _ _) rfl rfl ?_|refine Ob.mk (by omega) ?_|refine Ob.mk (by unfold W.I64 at *;omega) ?_|refine Drw.loose (by kernel_rfl) ?_);conv=>whnf)|((first|refine Br.d (fun h=>?_) (fun h=>?_)|refine Br.n (fun h=>?_) (fun h=>?_))<;>conv=>whnf))
 all_goals try exact Exists.intro (i2+1,l4) ⟨⟨hp4,by dsimp only;omega,by dsimp only;omega⟩,by dsimp only;omega,(by (repeat refine And.intro (by first|rfl|exact congrArg (fun z=>some (AV.int .i64 z)) (by first|omega|(dsimp only;omega))) ?_);exact trivial),(by trivial),(by trivial)⟩
 all_goals try refine FinAt.asis (ars:=[.bool _]) [] (RvL.pu rfl) (by simp) (by show 1≤_;simp) okAr ⟨⟨_,rfl⟩,_,hp4,rfl⟩
 ·refine LoopAt.rule tabOk [(0,_),(1,_),(2,_),(7,_),(8,_)] (fun (q:Nat×List Int)=>[(9,.int .i64 (q.1:Int))]) (fun (q:Nat×List Int)=>[.blk (ar i1 q.2 r)]) (fun (q:Nat×List Int)=>q.2.Perm l∧q.1<i2) (fun (q:Nat×List Int)=>q.1) (i2-1,_) (by (repeat refine And.intro (by first|rfl|exact congrArg (fun z=>some (AV.int .i64 z)) (by first|omega|(dsimp only;omega))) ?_);exact trivial) ?_ (by (repeat refine And.intro (by first|rfl|exact congrArg (fun z=>some (AV.int .i64 z)) (by first|omega|(dsimp only;omega))) ?_);exact trivial) (by (repeat refine And.intro (by first|rfl|exact congrArg (fun z=>some (AV.int .i64 z)) (by first|omega|(dsimp only;omega))) ?_);exact trivial) (fun _=>⟨rfl,rfl,okAr,by simp [hE]⟩) (fun q hk=>?_)
  ·exact⟨(swap_perm 0 (by omega) (by omega)).trans hp4,by dsimp only;omega⟩
  obtain⟨j1,l5⟩:=q
  obtain⟨hp5,hj1⟩:=hk
  dsimp only at hp5 hj1 ⊢
  have hl5:=hp5.length_eq
  conv=>whnf
  repeat' (first|((first|with_reducible refine Ix.nat _ ?_|refine Ix.tn (by omega) ?_|refine Pc.sym ?_|refine LdAt.one (e:=i1) (v:=I) (fun _=>rfl) (fun _=>rfl) 0 rfl _ rfl (by omega) ?_|refine StAt.el (e:=i1) (n:=1) i1_len _ rfl rfl _ (Nat.mul_one _).symm (by first|omega|(simp only [List.length_set];omega)) ?_|(refine Drw.len 18 15 rfl rfl ?_;refine Drw.lateP tabOk [0,1,5,6,7,8,9,10,11,12,13,14] [2,3,4] [15,16,17] (by kernel_rfl) (by kernel_rfl) ?_)|refine CallX.pu (less _ _) rfl rfl ?_|refine Ob.mk (by omega) ?_|refine Ob.mk (by unfold W.I64 at *;omega) ?_|refine Drw.loose (by kernel_rfl) ?_);conv=>whnf)|((first|refine Br.d (fun h=>?_) (fun h=>?_)|refine Br.n (fun h=>?_) (fun h=>?_))<;>conv=>whnf))
  all_goals try
   refine Exists.intro (j1-1,_) ⟨⟨?_,by dsimp only;omega⟩,by dsimp only;omega,(by (repeat refine And.intro (by first|rfl|exact congrArg (fun z=>some (AV.int .i64 z)) (by first|omega|(dsimp only;omega))) ?_);exact trivial),(by trivial),(by trivial)⟩
   exact(swap_perm 0 (by omega) (by omega)).trans hp5
  all_goals try exact Exists.intro (i2,j'+1,l5) ⟨⟨hp5,by dsimp only;omega,by dsimp only;omega,by dsimp only;omega⟩,by dsimp only;omega,(by (repeat refine And.intro (by first|rfl|exact congrArg (fun z=>some (AV.int .i64 z)) (by first|omega|(dsimp only;omega))) ?_);exact trivial),(by trivial),(by trivial)⟩
  all_goals
   refine LoopAt.rule tabOk [(0,_),(1,_),(2,_),(7,_),(8,_)] (fun (q:Nat×List Int)=>[(10,.int .i64 (q.1:Int))]) (fun (q:Nat×List Int)=>[.blk (ar i1 q.2 r)]) (fun (q:Nat×List Int)=>q.2.Perm l∧i2+1≤q.1∧q.1≤b) (fun (q:Nat×List Int)=>b-q.1) (i2+1,_) (by (repeat refine And.intro (by first|rfl|exact congrArg (fun z=>some (AV.int .i64 z)) (by first|omega|(dsimp only;omega))) ?_);exact trivial) ?_ (by (repeat refine And.intro (by first|rfl|exact congrArg (fun z=>some (AV.int .i64 z)) (by first|omega|(dsimp only;omega))) ?_);exact trivial) (by (repeat refine And.intro (by first|rfl|exact congrArg (fun z=>some (AV.int .i64 z)) (by first|omega|(dsimp only;omega))) ?_);exact trivial) (fun _=>⟨rfl,rfl,okAr,by simp [hE]⟩) (fun q hk=>?_)
   ·exact⟨hp5,by dsimp only;omega,by dsimp only;omega⟩
   obtain⟨j2,l6⟩:=q
   obtain⟨hp6,hj3,hj4⟩:=hk
   dsimp only at hp6 hj3 hj4 ⊢
   have hl6:=hp6.length_eq
   conv=>whnf
   repeat' (first|((first|with_reducible refine Ix.nat _ ?_|refine Ix.tn (by omega) ?_|refine Pc.sym ?_|refine LdAt.one (e:=i1) (v:=I) (fun _=>rfl) (fun _=>rfl) 0 rfl _ rfl (by omega) ?_|refine StAt.el (e:=i1) (n:=1) i1_len _ rfl rfl _ (Nat.mul_one _).symm (by first|omega|(simp only [List.length_set];omega)) ?_|(refine Drw.len 18 15 rfl rfl ?_;refine Drw.lateP tabOk [0,1,5,6,7,8,9,10,11,12,13,14] [2,3,4] [15,16,17] (by kernel_rfl) (by kernel_rfl) ?_)|refine CallX.pu (less _ _) rfl rfl ?_|refine Ob.mk (by omega) ?_|refine Ob.mk (by unfold W.I64 at *;omega) ?_|refine Drw.loose (by kernel_rfl) ?_);conv=>whnf)|((first|refine Br.d (fun h=>?_) (fun h=>?_)|refine Br.n (fun h=>?_) (fun h=>?_))<;>conv=>whnf))
   all_goals try
    refine Exists.intro (j2+1,_) ⟨⟨?_,by dsimp only;omega,by dsimp only;omega⟩,by dsimp only;omega,(by (repeat refine And.intro (by first|rfl|exact congrArg (fun z=>some (AV.int .i64 z)) (by first|omega|(dsimp only;omega))) ?_);exact trivial),(by trivial),(by trivial)⟩
    exact(swap_perm 0 (by omega) (by omega)).trans hp6
   all_goals exact Exists.intro (i2,j'+1,l6) ⟨⟨hp6,by dsimp only;omega,by dsimp only;omega,by dsimp only;omega⟩,by dsimp only;omega,(by (repeat refine And.intro (by first|rfl|exact congrArg (fun z=>some (AV.int .i64 z)) (by first|omega|(dsimp only;omega))) ?_);exact trivial),(by trivial),(by trivial)⟩
 ·refine LoopAt.rule tabOk [(0,_),(1,_),(2,_),(7,_),(8,_)] (fun (q:Nat×List Int)=>[(10,.int .i64 (q.1:Int))]) (fun (q:Nat×List Int)=>[.blk (ar i1 q.2 r)]) (fun (q:Nat×List Int)=>q.2.Perm l∧i2+1≤q.1∧q.1≤b) (fun (q:Nat×List Int)=>b-q.1) (i2+1,_) (by (repeat refine And.intro (by first|rfl|exact congrArg (fun z=>some (AV.int .i64 z)) (by first|omega|(dsimp only;omega))) ?_);exact trivial) ?_ (by (repeat refine And.intro (by first|rfl|exact congrArg (fun z=>some (AV.int .i64 z)) (by first|omega|(dsimp only;omega))) ?_);exact trivial) (by (repeat refine And.intro (by first|rfl|exact congrArg (fun z=>some (AV.int .i64 z)) (by first|omega|(dsimp only;omega))) ?_);exact trivial) (fun _=>⟨rfl,rfl,okAr,by simp [hE]⟩) (fun q hk=>?_)
  ·exact⟨(swap_perm 0 (by omega) (by omega)).trans hp4,by dsimp only;omega,by dsimp only;omega⟩
  obtain⟨j2,l6⟩:=q
  obtain⟨hp6,hj3,hj4⟩:=hk
  dsimp only at hp6 hj3 hj4 ⊢
  have hl6:=hp6.length_eq
  conv=>whnf
  repeat' (first|((first|with_reducible refine Ix.nat _ ?_|refine Ix.tn (by omega) ?_|refine Pc.sym ?_|refine LdAt.one (e:=i1) (v:=I) (fun _=>rfl) (fun _=>rfl) 0 rfl _ rfl (by omega) ?_|refine StAt.el (e:=i1) (n:=1) i1_len _ rfl rfl _ (Nat.mul_one _).symm (by first|omega|(simp only [List.length_set];omega)) ?_|(refine Drw.len 18 15 rfl rfl ?_;refine Drw.lateP tabOk [0,1,5,6,7,8,9,10,11,12,13,14] [2,3,4] [15,16,17] (by kernel_rfl) (by kernel_rfl) ?_)|refine CallX.pu (less _ _) rfl rfl ?_|refine Ob.mk (by omega) ?_|refine Ob.mk (by unfold W.I64 at *;omega) ?_|refine Drw.loose (by kernel_rfl) ?_);conv=>whnf)|((first|refine Br.d (fun h=>?_) (fun h=>?_)|refine Br.n (fun h=>?_) (fun h=>?_))<;>conv=>whnf))
  all_goals try
   refine Exists.intro (j2+1,_) ⟨⟨?_,by dsimp only;omega,by dsimp only;omega⟩,by dsimp only;omega,(by (repeat refine And.intro (by first|rfl|exact congrArg (fun z=>some (AV.int .i64 z)) (by first|omega|(dsimp only;omega))) ?_);exact trivial),(by trivial),(by trivial)⟩
   exact(swap_perm 0 (by omega) (by omega)).trans hp6
  all_goals exact Exists.intro (i2,j'+1,l6) ⟨⟨hp6,by dsimp only;omega,by dsimp only;omega,by dsimp only;omega⟩,by dsimp only;omega,(by (repeat refine And.intro (by first|rfl|exact congrArg (fun z=>some (AV.int .i64 z)) (by first|omega|(dsimp only;omega))) ?_);exact trivial),(by trivial),(by trivial)⟩
end Y
end Go.Proofs.YtllemifiammnnaaGreat
