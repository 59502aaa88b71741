/- Part 13 of the proof. No condition. -/
import Derived.Test.YtllemifiammnnaaGreatG11
import Derived.Test.YtllemifiammnnaaGreatG05
import Derived.Test.YtllemifiammnnaaGreatG04
import Derived.Test.YtllemifiammnnaaGreatG12
set_option linter.unusedVariables false
set_option linter.unusedSimpArgs false
set_option maxRecDepth 100000
set_option maxHeartbeats 4000000
namespace Go.Proofs.YtllemifiammnnaaGreat
section
theorem W.mul_bd{a b A B:Int}(h1:-A≤a)(h2:a≤A)(h3:-B≤b)(h4:b≤B):-(A*B)≤a*b∧a*b≤A*B:=by
 have ha:a.natAbs≤A.toNat:=by omega
 have hb:b.natAbs≤B.toNat:=by omega
 have h:(a*b).natAbs≤A.toNat*B.toNat:=by rw [Int.natAbs_mul];exact Nat.mul_le_mul ha hb
 have e:((A.toNat*B.toNat:Nat):Int)=A*B:=by
  rw [Int.natCast_mul,Int.toNat_of_nonneg (by omega),Int.toNat_of_nonneg (by omega)]
 omega
theorem W.up_bd(a b:Int)(h0:0≤a)(h1:a≤1000000000000000000)(hb:1≤b):0≤W.up a b∧W.up a b≤1000000000000000000:=by
 unfold W.up
 refine⟨Int.ediv_nonneg (by omega) (by omega),?_⟩
 have h2:a+b-1<(a+1)*b:=by
  have:a*1≤a*b:=Int.mul_le_mul_of_nonneg_left hb h0
  rw [Int.add_mul];omega
 have:=Int.ediv_lt_of_lt_mul (by omega) h2
 omega
theorem W.ediv_bd(a b M:Int)(hb:1≤b)(h0:-M≤a)(h1:a≤M)(hM:0≤M):-M≤a/b∧a/b≤M:=by
 refine⟨?_,?_⟩
 ·refine(Int.le_ediv_iff_mul_le (by omega)).2 ?_
  have:M*1≤M*b:=Int.mul_le_mul_of_nonneg_left hb hM
  rw [Int.neg_mul];omega
 ·have:M*1≤M*b:=Int.mul_le_mul_of_nonneg_left hb hM
  have h3:a<(M+1)*b:=by rw [Int.add_mul];omega
  have:=Int.ediv_lt_of_lt_mul (by omega) h3
  omega
theorem W.tdiv_down(a b:Int)(hb:1≤b):W.down a b=if a.tmod b<0 then a.tdiv b-1 else a.tdiv b:=by
 have h1:=Int.mul_ediv_add_emod a b
 have h0:=Int.mul_tdiv_add_tmod a b
 have h2:=Int.emod_nonneg a (show b≠0 by omega)
 have h3:=Int.emod_lt_of_pos a (show 0<b by omega)
 have h4:=Int.tmod_lt_of_pos a (show 0<b by omega)
 have h5:-b<a.tmod b:=by
  have:=Int.lt_tmod_of_pos a (show 0<b by omega)
  exact this
 unfold W.down
 generalize a.tdiv b=q at *
 generalize a.tmod b=r at *
 generalize a/b=q2 at *
 generalize a%b=r2 at *
 have key:∀ x y:Int,b*x+y=a→0≤y→y<b→x=q2:=by
  intro x y e1 e2 e3
  have e4:b*(x-q2)=r2-y:=by rw [Int.mul_sub];omega
  rcases Int.lt_trichotomy x q2 with h|h|h
  ·have:b*(x-q2)≤b*(-1):=Int.mul_le_mul_of_nonneg_left (by omega) (by omega)
   omega
  ·exact h
  ·have:b*1≤b*(x-q2):=Int.mul_le_mul_of_nonneg_left (by omega) (by omega)
   omega
 split
 ·exact(key (q-1) (r+b) (by rw [Int.mul_sub];omega) (by omega) (by omega)).symm
 ·exact(key q r h0 (by omega) h4).symm
theorem W.errorR_bd(c:W.Conf)(r:Int)(h0:0≤c.radBase)(h1:c.radBase≤1048576)(h2:0≤c.radPart)(h3:c.radPart≤65536)(r0:-2147483648≤r)(r1:r≤2147483648):0≤c.errorR r∧c.errorR r≤2147483648:=by
 unfold W.Conf.errorR
 have ha:0≤(if r<0 then -r else r)∧(if r<0 then -r else r)≤2147483648:=by split<;>omega
 generalize (if r<0 then -r else r)=a at *
 have h5:0≤a*c.radPart:=Int.mul_nonneg ha.1 h2
 have h6:a*c.radPart≤2147483648*65536:=Int.mul_le_mul ha.2 h3 h2 (by omega)
 omega
theorem W.may_eq(l:List W.Piece)(n:Int)(h1:0<l.length)(h2:l.length≤64)(h0:(W.pieceAt l 0).from_=0):W.may l n=W.allB (W.mayAt l n) l.length:=by
 unfold W.may
 rw [decide_eq_true (by omega),Bool.true_and]
theorem W.may_no(l:List W.Piece)(n:Int)(h:l.length<1∨64<l.length∨(W.pieceAt l 0).from_≠0):W.may l n=false:=by
 unfold W.may
 rw [decide_eq_false (by omega),Bool.false_and]
theorem W.segMay_no{s:W.Seg}{m:Int}(h:s.length<1∨1099511627776<s.length∨W.may s.pieces s.length=false∨2<s.next.length∨(∃ k,k<s.next.length∧¬ (0≤s.next.getD k 0∧s.next.getD k 0<m))):W.segMay s m=false:=by
 unfold W.segMay
 rcases h with h|h|h|h|⟨k,hk,h⟩
 ·rw [decide_eq_false (by omega)];simp
 ·rw [decide_eq_false (by omega)];simp
 ·rw [h];simp
 ·simp;intros;omega
 ·rw [W.allB_no hk (decide_eq_false h)];simp
theorem W.segMay_yes{s:W.Seg}{m:Int}{b:Bool}(h1:1≤s.length∧s.length≤1099511627776)(h2:W.may s.pieces s.length=true)(h3:s.next.length≤2)(h4:∀ j,j<s.next.length→W.nextAt s m j=true)(h5:b=decide (s.next.length<2∨s.next.getD 0 0<s.next.getD 1 0)):W.segMay s m=b:=by
 unfold W.segMay
 rw [decide_eq_true h1,h2,decide_eq_true h3,W.allB_yes h4,h5]
 simp
theorem W.follows_out{t:W.Trk}{a b:Int}(h:a<0∨(t.segs.length:Int)≤a):W.follows t a b=false:=by
 unfold W.follows
 rcases h with h|h
 ·rw [decide_eq_false (by omega)];simp
 ·rw [decide_eq_false (show ¬ a<(t.segs.length:Int) by omega)];simp
theorem W.follows_in{t:W.Trk}{i:Nat}{b:Int}{X:List Int}(h:i<t.segs.length)(hX:(t.sg i).next=X):W.follows t i b=(List.range X.length).any fun k=>decide (X.getD k 0=b):=by
 unfold W.follows
 rw [decide_eq_true (by omega),decide_eq_true (show (i:Int)<(t.segs.length:Int) by omega)]
 simp only [Bool.true_and]
 rw [show t.seg (i:Int)=t.sg i by simp [W.Trk.seg,W.Trk.sg],hX]
theorem any_yes{n k:Nat}{p:Nat→Bool}(hk:k<n)(h:p k=true):(List.range n).any p=true:=List.any_eq_true.2 ⟨k,List.mem_range.2 hk,h⟩
theorem any_no{n:Nat}{p:Nat→Bool}(h:∀ k,k<n→p k=false):(List.range n).any p=false:=by
 rw [List.any_eq_false];exact fun k hk=>by simp [h k (List.mem_range.1 hk)]
theorem W.checkR_many{t:W.Trk}(h:t.segs.length<1∨200<t.segs.length∨400<t.grps.length):t.checkR=(13,0):=by
 unfold W.Trk.checkR;rw [if_pos h]
theorem W.checkR_seg{t:W.Trk}{k:Nat}(h:¬ (t.segs.length<1∨200<t.segs.length∨400<t.grps.length))(h1:∀ j,j<k→(!W.segMay (t.sg j) t.segs.length)=false)(hk:k<t.segs.length)(h2:W.segMay (t.sg k) t.segs.length=false):t.checkR=(11,(k:Int)):=by
 unfold W.Trk.checkR
 rw [if_neg h,W.firstI_hit (p:=fun i=>!W.segMay (t.sg i) t.segs.length) h1 hk (by simp [h2]),if_pos (by omega)]
theorem W.checkR_grp{t:W.Trk}{k:Nat}(h:¬ (t.segs.length<1∨200<t.segs.length∨400<t.grps.length))(h1:∀ j,j<t.segs.length→(!W.segMay (t.sg j) t.segs.length)=false)(h3:∀ j,j<k→(!W.grpMay t j)=false)(hk:k<t.grps.length)(h2:W.grpMay t k=false):t.checkR=(16,(k:Int)):=by
 unfold W.Trk.checkR
 rw [if_neg h,W.firstI_none (p:=fun i=>!W.segMay (t.sg i) t.segs.length) h1,if_neg (by omega),W.firstI_hit (p:=fun i=>!W.grpMay t i) h3 hk (by simp [h2]),if_pos (by omega)]
theorem W.checkR_ok{t:W.Trk}(h:¬ (t.segs.length<1∨200<t.segs.length∨400<t.grps.length))(h1:∀ j,j<t.segs.length→(!W.segMay (t.sg j) t.segs.length)=false)(h3:∀ j,j<t.grps.length→(!W.grpMay t j)=false):t.checkR=(0,0):=by
 unfold W.Trk.checkR
 rw [if_neg h,W.firstI_none (p:=fun i=>!W.segMay (t.sg i) t.segs.length) h1,if_neg (by omega),W.firstI_none (p:=fun i=>!W.grpMay t i) h3,if_neg (by omega)]
theorem W.up_le(a b:Int)(h0:0≤a)(hb:1≤b):W.up a b≤a:=by
 unfold W.up
 have h2:a+b-1<(a+1)*b:=by
  have:a*1≤a*b:=Int.mul_le_mul_of_nonneg_left hb h0
  rw [Int.add_mul];omega
 have:=Int.ediv_lt_of_lt_mul (by omega) h2
 omega
theorem W.wrongR_ok{c:W.Conf}(h:c.wrongR=0):(1≤c.pulses∧c.pulses≤1024)∧(131072≤c.circLo∧c.circLo≤8388608∧c.circLo≤c.circHi∧c.circHi≤8388608)∧(c.circHi-c.circLo)*16≤c.circLo∧(0≤c.radBase∧c.radBase≤1048576∧0≤c.radPart∧c.radPart≤65536)∧(0≤c.accErr∧c.accErr≤1048576)∧(1≤c.maxSpeed∧c.maxSpeed≤16777216∧1≤c.maxAccel∧c.maxAccel≤1048576)∧c.maxSpeed*c.pulses≤32000*c.circLo∧(0≤c.antenna∧c.antenna≤1048576)∧(1≤c.still∧c.still≤1000∧1≤c.timeout∧c.timeout≤1000)∧(W.up c.circHi c.pulses≤c.stillSpeed∧3*c.radBase≤c.stillSpeed∧c.stillSpeed≤16777216)∧(0≤c.roll∧c.roll≤1073741824)∧(1≤c.brake∧c.brake≤1048576):=by
 unfold W.Conf.wrongR at h
 generalize c.maxSpeed*c.pulses=p at *
 generalize W.up c.circHi c.pulses=u at *
 repeat (split at h;· cases h)
 omega
theorem W.len_sg(t:W.Trk)(k:Nat):t.len k=(t.sg k).length:=by simp [W.Trk.len,W.Trk.seg,W.Trk.sg]
def W.LensOk(t:W.Trk):Prop:=∀ k,k<t.segs.length→0≤(t.sg k).length∧(t.sg k).length≤1099511627776
def W.InOk(t:W.Trk)(l:List Int):Prop:=∀ k,k<l.length→0≤l.getD k 0∧l.getD k 0<t.segs.length
theorem W.startOf_bd{t:W.Trk}{l:List Int}(h:W.LensOk t)(hl:W.InOk t l):∀ k,k≤l.length→0≤W.startOf t l k∧W.startOf t l k≤1099511627776*k:=by
 intro k
 induction k with
 |zero=>intro _;simp [W.startOf]
 |succ k ih =>
  intro hk
  have h1:=ih (by omega)
  have h2:=hl k (by omega)
  obtain⟨m,hm⟩:∃ m:Nat,l.getD k 0=m:=⟨(l.getD k 0).toNat,by omega⟩
  have h3:=h m (by omega)
  unfold W.startOf
  rw [hm,W.len_sg]
  omega
def W.VOk(s:W.Script)(n:Nat):Prop:=(-1000000000000000≤s.start∧s.start≤1000000000000000)∧∀ k,k<n→-1000000000000000≤(s.tick k).v∧(s.tick k).v≤1000000000000000
theorem W.place_bd{s:W.Script}{n:Nat}(h:W.VOk s n):∀ k,k≤n→-(1000000000000000*((k:Int)+1))≤s.place k∧s.place k≤1000000000000000*(k+1):=by
 intro k
 induction k with
 |zero=>intro _;have:=h.1;simp [W.Script.place];omega
 |succ k ih =>
  intro hk
  have h1:=ih (by omega)
  have h2:=h.2 k (by omega)
  unfold W.Script.place
  omega
structure W.NumOk(s:W.Script)(n:Nat):Prop where
 v:∀ k,k<n→-16777216≤(s.tick k).v∧(s.tick k).v≤16777216
 slip0:∀ k,k<n→-1099511627776≤(s.tick k).slip0∧(s.tick k).slip0≤1099511627776
 slip1:∀ k,k<n→-1099511627776≤(s.tick k).slip1∧(s.tick k).slip1≤1099511627776
 phase0:0≤s.phase0∧s.phase0≤8388608
 phase1:0≤s.phase1∧s.phase1≤8388608
 circ0:131072≤s.circ0∧s.circ0≤8388608
 circ1:131072≤s.circ1∧s.circ1≤8388608
theorem W.turned_bd{s:W.Script}{n:Nat}(h:W.NumOk s n){p:Int}(p0:1≤p)(p1:p≤1024)(i:Nat):∀ k,k≤n→-(1200000000000*((k:Int)+1))≤s.turned p i k∧s.turned p i k≤1200000000000*(k+1):=by
 intro k
 induction k with
 |zero =>
  intro _
  have h1:=h.phase0
  have h2:=h.phase1
  simp only [W.Script.turned,W.Script.phase]
  split<;>omega
 |succ k ih =>
  intro hk
  have h1:=ih (by omega)
  have h2:=h.v k (by omega)
  have h3:=h.slip0 k (by omega)
  have h4:=h.slip1 k (by omega)
  have h5:=W.mul_bd (a:=p) (b:=(s.tick k).v) (A:=1024) (B:=16777216) (by omega) (by omega) (by omega) (by omega)
  simp only [W.Script.turned,W.Tick.slip]
  split<;>omega
def W.PcsOk(t:W.Trk):Prop:=∀ k,k<t.segs.length→0<(t.sg k).pieces.length∧(t.sg k).pieces.length≤1000
theorem W.gradeOn_hit{t:W.Trk}{l:List Int}{at_:Int}{k:Nat}{s:W.Seg}(h:∀ j,j<k→W.gradeHere t l at_ j=false)(hk:k<l.length)(h2:W.gradeHere t l at_ k=true)(hs:t.seg (l.getD k 0)=s):W.gradeOn t l at_=W.gradeAt s.pieces (at_-W.startOf t l k) s.pieces.length:=by
 unfold W.gradeOn
 rw [W.firstI_hit h hk h2]
 simp only [Int.toNat_natCast]
 rw [if_pos (by omega),hs]
theorem W.gradeOn_none{t:W.Trk}{l:List Int}{at_:Int}(h:∀ j,j<l.length→W.gradeHere t l at_ j=false):W.gradeOn t l at_=0:=by
 unfold W.gradeOn
 rw [W.firstI_none h]
 simp
theorem W.firstI_cases(p:Nat→Bool)(n:Nat):W.firstI p n=-1∨∃ m:Nat,W.firstI p n=m∧m<n∧p m=true∧∀ j,j<m→p j=false:=by
 unfold W.firstI
 cases h:(List.range n).find? p with
 |none=>exact .inl rfl
 |some i =>
  rw [List.find?_range_eq_some] at h
  exact .inr ⟨i,rfl,List.mem_range.1 h.2.1,h.1,fun j hj=>by simpa using h.2.2 j hj⟩
theorem W.nominal_no{t:W.Trk}{s:W.Script}{r:W.Read}(h:W.findId t r.group<0∨r.index<0∨(s.route.length:Int)≤r.index∨s.route.getD r.index.toNat 0≠(t.grp (W.findId t r.group)).seg):W.nominal t s r=(0,false):=by
 unfold W.nominal;rw [if_pos h]
theorem W.nominal_yes{t:W.Trk}{s:W.Script}{r:W.Read}(h:¬ (W.findId t r.group<0∨r.index<0∨(s.route.length:Int)≤r.index∨s.route.getD r.index.toNat 0≠(t.grp (W.findId t r.group)).seg)):W.nominal t s r=(W.startOf t s.route r.index.toNat+(t.grp (W.findId t r.group)).offset,true):=by
 unfold W.nominal;rw [if_neg h]
theorem W.routeMay_no{t:W.Trk}{l:List Int}(h:l.length<1∨400<l.length):W.routeMay t l=false:=by
 unfold W.routeMay;rw [decide_eq_false (by omega),Bool.false_and]
theorem W.routeMay_eq{t:W.Trk}{l:List Int}(h:1≤l.length∧l.length≤400):W.routeMay t l=W.allB (W.routeAt t l) l.length:=by
 unfold W.routeMay;rw [decide_eq_true h,Bool.true_and]
theorem W.routeAt_no{t:W.Trk}{l:List Int}{k:Nat}{x:Int}(hx:l.getD k 0=x)(h:x<0∨(t.segs.length:Int)≤x):W.routeAt t l k=false:=by
 unfold W.routeAt;rw [hx,decide_eq_false (by omega),Bool.false_and]
theorem W.routeAt_zero{t:W.Trk}{l:List Int}{k:Nat}{x:Int}(hx:l.getD k 0=x)(h:0≤x∧x<t.segs.length)(hk:k=0):W.routeAt t l k=true:=by
 unfold W.routeAt;rw [hx,decide_eq_true h,decide_eq_true hk];rfl
theorem W.routeAt_succ{t:W.Trk}{l:List Int}{k m:Nat}{x y:Int}{b:Bool}(hx:l.getD k 0=x)(h:0≤x∧x<t.segs.length)(hk:k=m+1)(hy:l.getD m 0=y)(hf:W.follows t y x=b):W.routeAt t l k=b:=by
 subst hk
 unfold W.routeAt;rw [hx,decide_eq_true h,decide_eq_false (by omega),Nat.add_sub_cancel,hy,hf];rfl
theorem W.speedsMay_v0{c:W.Conf}{s:W.Script}(h:W.far s.v0 c.maxSpeed=true):W.speedsMay c s=false:=by
 unfold W.speedsMay;rw [h];rfl
theorem W.speedsMay_eq{c:W.Conf}{s:W.Script}(h:W.far s.v0 c.maxSpeed=false):W.speedsMay c s=W.allB (W.speedAt c s) s.ticks.length:=by
 unfold W.speedsMay;rw [h];rfl
theorem W.far_iffn(x m:Int):W.far x m=false↔(-m≤x∧x≤m):=by unfold W.far;rw [decide_eq_false_iff_not];omega
theorem W.onMay_no{t:W.Trk}{s:W.Script}{e:Int}(he:e=W.startOf t s.route s.route.length)(h:¬ (s.ticks.length≤4096∧0≤s.start∧s.start≤e)):W.onMay t s=false:=by
 unfold W.onMay;subst he;simp only;rw [decide_eq_false h,Bool.false_and]
theorem W.onMay_eq{t:W.Trk}{s:W.Script}{e:Int}(he:e=W.startOf t s.route s.route.length)(h:s.ticks.length≤4096∧0≤s.start∧s.start≤e):W.onMay t s=W.allB (W.onAt s e) s.ticks.length:=by
 unfold W.onMay;subst he;simp only;rw [decide_eq_true h,Bool.true_and]
theorem W.onAt_far{s:W.Script}{e:Int}{k:Nat}{v:Int}(hv:(s.tick k).v=v)(h:W.far v e=true):W.onAt s e k=false:=by
 unfold W.onAt;rw [hv,h];rfl
theorem W.onAt_eq{s:W.Script}{e:Int}{k:Nat}{v a:Int}{b:Bool}(hv:(s.tick k).v=v)(h:W.far v e=false)(ha:a=s.place k)(hb:b=decide (0≤a+v∧a+v≤e)):W.onAt s e k=b:=by
 unfold W.onAt;rw [hv,h,hb,ha,W.Script.place,hv];rfl
theorem W.numbersMay_5{c:W.Conf}{s:W.Script}{k:Nat}(hk:k<2)(h:W.circMay c (s.circ k) (s.phase k)=false):W.numbersMay c s=5:=by
 unfold W.numbersMay
 rcases(by omega:k=0∨k=1) with rfl|rfl
 ·rw [if_pos (by simp [show W.circMay c s.circ0 s.phase0=false from h])]
 ·rw [if_pos (by simp [show W.circMay c s.circ1 s.phase1=false from h])]
theorem W.numbersMay_eq{c:W.Conf}{s:W.Script}(h:∀ j,j<2→W.circMay c (s.circ j) (s.phase j)=true):W.numbersMay c s=if W.allB (fun i=>W.tickMay c (s.tick i)) s.ticks.length then 0 else 6:=by
 unfold W.numbersMay
 rw [if_neg (by simp [show W.circMay c s.circ0 s.phase0=true from h 0 (by omega),show W.circMay c s.circ1 s.phase1=true from h 1 (by omega)])]
end
namespace Y
open Go Go.RowKit Go.Sort
theorem yUp13(a b:Int)(a0:0≤a)(a1:a≤1000000000000000000)(b0:1≤b)(b1:b≤1000000000000000000):Ret Tryz.prog 21 [I a,I b] (·=I (W.up a b)):=by
 refine enterO tabOk (N:=11) (gs:=[]) (args:=[_,_]) Tryz.func21 rfl rfl rfl (nLe rfl) (fun E hE=>?_)
 conv=>whnf
 repeat' ((first|refine Ob.mk (by unfold W.I64 at *;omega) ?_|refine FinAt.val rfl ?_);conv=>whnf)
 all_goals rfl
theorem yFar(x m:Int)(m0:-9223372036854775807≤m)(m1:m≤9223372036854775807):Ret Tryz.prog 39 [I x,I m] (·=.bool (W.far x m)):=by
 have h1:∀ b:Bool,(x < -m∨m<x→b=true)→(¬ (x < -m∨m<x)→b=false)→AV.bool b=AV.bool (W.far x m):=fun b p q=>by
  unfold W.far
  by_cases h:x < -m∨m<x
  ·rw [p h,decide_eq_true h]
  ·rw [q h,decide_eq_false h]
 refine enterO tabOk (N:=14) (gs:=[]) (args:=[_,_]) Tryz.func39 rfl rfl rfl (nLe rfl) (fun E hE=>?_)
 conv=>whnf
 repeat' (first|((first|refine Br.pt (by assumption) ?_|refine Br.pf (by assumption) ?_|refine Ob.mk (by unfold W.I64 at *;omega) ?_|refine FinAt.val rfl ?_);conv=>whnf)|((refine Br.d (fun h=>?_) (fun h=>?_))<;>conv=>whnf))
 all_goals exact h1 _ (fun h=>by first|rfl|omega|(simp;omega)) (fun h=>by first|rfl|omega|(simp;omega))
theorem yDelta(a b:Int)(a0:0≤a)(a1:a<65536)(b0:0≤b)(b1:b<65536):Ret Tryz.prog 71 [I a,I b] (·=I (W.deltaR a b)):=by
 have e:W.deltaR a b=if 32768≤(b-a+65536)%65536 then (b-a+65536)%65536-65536 else (b-a+65536)%65536:=rfl
 refine enterO tabOk (N:=16) (gs:=[]) (args:=[_,_]) Tryz.func71 rfl rfl rfl (nLe rfl) (fun E hE=>?_)
 conv=>whnf
 repeat' (first|((first|refine Ob.mk (by omega) ?_|refine Ob.mk (by unfold W.I64 at *;omega) ?_|refine FinAt.val rfl ?_);conv=>whnf)|((refine Br.d (fun h=>?_) (fun h=>?_))<;>conv=>whnf))
 all_goals first
  |(rw [e,if_pos (by omega)];rfl)
  |(rw [e,if_neg (by omega)];rfl)
theorem yError(c:W.Conf)(r:Int)(h0:0≤c.radBase)(h1:c.radBase≤1048576)(h2:0≤c.radPart)(h3:c.radPart≤65536)(r0:-2147483648≤r)(r1:r≤2147483648):Ret Tryz.prog 69 [confV c,I r] (·=I (c.errorR r)):=by
 have p1:0≤r→0≤r*c.radPart:=fun h=>Int.mul_nonneg h h2
 have p2:r<0→0≤-r*c.radPart:=fun h=>Int.mul_nonneg (by omega) h2
 have q1:=W.mul_bd (a:=r) (b:=c.radPart) (A:=2147483648) (B:=65536) (by omega) (by omega) (by omega) (by omega)
 have q2:=W.mul_bd (a:=-r) (b:=c.radPart) (A:=2147483648) (B:=65536) (by omega) (by omega) (by omega) (by omega)
 have e:c.errorR r=c.radBase+(if r<0 then -r else r)*c.radPart/1048576:=rfl
 refine enterO tabOk (N:=17) (gs:=[]) (args:=[_,_]) Tryz.func69 rfl rfl rfl (nLe rfl) (fun E hE=>?_)
 conv=>whnf
 repeat' (first|((first|refine Ob.mk (by unfold W.I64 at *;omega) ?_|refine FinAt.val rfl ?_);conv=>whnf)|((refine Br.d (fun h=>?_) (fun h=>?_))<;>conv=>whnf))
 all_goals first
  |(rw [e,if_pos (by omega)];rfl)
  |(rw [e,if_neg (by omega)];rfl)
theorem yRadar(c:W.Conf)(r:Int)(h0:0≤c.radBase)(h1:c.radBase≤1048576)(h2:0≤c.radPart)(h3:c.radPart≤65536)(r0:-2147483648≤r)(r1:r≤2147483648):Ret Tryz.prog 70 [confV c,I r] (·=.tup [I (W.radarR c r).1,I (W.radarR c r).2]):=by
 have e:=W.errorR_bd c r h0 h1 h2 h3 r0 r1
 have eE:=yError c r h0 h1 h2 h3 r0 r1
 refine enterO tabOk (N:=16) (gs:=[]) (args:=[_,_]) Tryz.func70 rfl rfl rfl (nLe rfl) (fun E hE=>?_)
 conv=>whnf
 repeat' ((first|refine CallS.q (eE) rfl ?_|refine Ob.mk (by unfold W.I64 at *;omega) ?_|refine FinAt.val rfl ?_);conv=>whnf)
 all_goals rfl
theorem Ret.raw1{P:Program}{f:Nat}{a:Int}{l:List AV}{post:AV→Prop}(h:Ret P f (.raw (.int .i64 a)::l) post):Ret P f (I a::l) post:=fun S w bs Vs hG hlt hV=>h S w bs Vs hG hlt (by
 cases Vs with
 |nil=>exact hV
 |cons v r=>exact hV)
theorem QAt.remD{P:Program}{o:Oper}{tm:Tm}{own:Ow}{K:AV→Prop}{t t':TypeId}{x y:Operand}{p b:Int}(hb:1≤b)(ho:o.op=.binOp .rem t x y t')(hx:ev tm x fun v=>v=.raw (.int .i64 p))(hy:ev tm y fun v=>v=I b)(hK:K (I (p.tmod b))):QAt P o tm own K :=
 QAt.bin ho hx hy rfl rfl (r:=I (p.tmod b)) rfl (fun w=>by
  simp only [val]
  rw [Sem.run_bind,guard_int]
  have h0:¬ b=0:=by omega
  simp [binOp,Op.intDiv,h0]) hK
theorem QAt.quoD{P:Program}{o:Oper}{tm:Tm}{own:Ow}{K:AV→Prop}{t t':TypeId}{x y:Operand}{p b:Int}(hb:1≤b)(hp:-1000000000000000000≤p∧p≤1000000000000000000)(ho:o.op=.binOp .quo t x y t')(hx:ev tm x fun v=>v=.raw (.int .i64 p))(hy:ev tm y fun v=>v=I b)(hK:K (I (p.tdiv b))):QAt P o tm own K :=
 QAt.bin ho hx hy rfl rfl (r:=I (p.tdiv b)) rfl (fun w=>by
  simp only [val]
  rw [Sem.run_bind,guard_int]
  have h0:¬ b=0:=by omega
  have hi:W.I64 (p.tdiv b):=by
   have e:=W.tdiv_down p b hb
   have h1:=W.ediv_bd p b 1000000000000000000 hb hp.1 hp.2 (by omega)
   unfold W.down at e
   unfold W.I64
   split at e<;>omega
  simp [binOp,Op.intDiv,h0,wrap_i64 hi]) hK
theorem yDown(a b:Int)(a0:-1000000000000000000≤a)(a1:a≤1000000000000000000)(b0:1≤b)(b1:b≤1000000000000000000):Ret Tryz.prog 110 [I a,I b] (·=I (W.down a b)):=by
 have e:=W.tdiv_down a b b0
 have h1:=W.ediv_bd a b 1000000000000000000 b0 a0 a1 (by omega)
 unfold W.down at e
 have hi:-1000000000000000000≤a.tdiv b∧a.tdiv b≤1000000000000000001:=by split at e<;>omega
 refine Ret.raw1 ?_
 refine enterO tabOk (N:=16) (gs:=[]) (args:=[_,_]) Tryz.func110 rfl rfl rfl (nLe rfl) (fun E hE=>?_)
 conv=>whnf
 repeat' (first|((first|refine QAt.remD b0 rfl rfl rfl ?_|refine QAt.quoD b0 ⟨a0,a1⟩ rfl rfl rfl ?_|refine Ob.mk (by unfold W.I64 at *;omega) ?_|refine FinAt.val rfl ?_);conv=>whnf)|((refine Br.d (fun h=>?_) (fun h=>?_))<;>conv=>whnf))
 all_goals first
  |(rw [if_pos (by omega)] at e;exact eqI e.symm)
  |(rw [if_neg (by omega)] at e;exact eqI e.symm)
theorem yUp15(a b:Int)(a0:-1000000000000000000≤a)(a1:a≤1000000000000000000)(b0:1≤b)(b1:b≤1000000000000000000):Ret Tryz.prog 113 [I a,I b] (·=I (W.upR a b)):=by
 have eD:=yDown (-a) b (by omega) (by omega) b0 b1
 have h1:=W.ediv_bd (-a) b 1000000000000000000 b0 (by omega) (by omega) (by omega)
 have h2:W.down (-a) b=-a/b:=rfl
 refine enterO tabOk (N:=10) (gs:=[]) (args:=[_,_]) Tryz.func113 rfl rfl rfl (nLe rfl) (fun E hE=>?_)
 conv=>whnf
 repeat' ((first|refine CallS.q (eD) rfl ?_|refine Ob.mk (by unfold W.I64 at *;omega) ?_|refine FinAt.val rfl ?_);conv=>whnf)
 all_goals rfl
theorem yTacho(d lo hi p:Int)(d0:-32768≤d)(d1:d≤32767)(l0:0≤lo)(l1:lo≤8388608)(h0:0≤hi)(h1:hi≤8388608)(p0:1≤p)(p1:p≤1024):Ret Tryz.prog 72 [I d,I lo,I hi,I p] (·=.tup [I (W.tachoR d lo hi p).1,I (W.tachoR d lo hi p).2]):=by
 have m1:=W.mul_bd (a:=d-1) (b:=lo) (A:=32769) (B:=8388608) (by omega) (by omega) (by omega) (by omega)
 have m2:=W.mul_bd (a:=d-1) (b:=hi) (A:=32769) (B:=8388608) (by omega) (by omega) (by omega) (by omega)
 have m3:=W.mul_bd (a:=d+1) (b:=lo) (A:=32769) (B:=8388608) (by omega) (by omega) (by omega) (by omega)
 have m4:=W.mul_bd (a:=d+1) (b:=hi) (A:=32769) (B:=8388608) (by omega) (by omega) (by omega) (by omega)
 have e1:=yDown ((d-1)*lo) p (by omega) (by omega) p0 (by omega)
 have e2:=yDown ((d-1)*hi) p (by omega) (by omega) p0 (by omega)
 have e3:=yUp15 ((d+1)*hi) p (by omega) (by omega) p0 (by omega)
 have e4:=yUp15 ((d+1)*lo) p (by omega) (by omega) p0 (by omega)
 refine enterO tabOk (N:=42) (gs:=[]) (args:=[_,_,_,_]) Tryz.func72 rfl rfl rfl (nLe rfl) (fun E hE=>?_)
 conv=>whnf
 repeat' (first|((first|refine Br.pf (by omega) ?_|refine CallS.q (e1) rfl ?_|refine CallS.q (e2) rfl ?_|refine CallS.q (e3) rfl ?_|refine CallS.q (e4) rfl ?_|refine Ob.mk (by unfold W.I64 at *;omega) ?_|refine FinAt.val rfl ?_);conv=>whnf)|((refine Br.d (fun h=>?_) (fun h=>?_))<;>conv=>whnf))
 all_goals
  unfold W.tachoR
  dsimp only
  first
   |(rw [if_pos (by omega),if_pos (by omega)]<;>rfl)
   |(rw [if_pos (by omega),if_neg (by omega)]<;>rfl)
   |(rw [if_neg (by omega),if_neg (by omega)]<;>rfl)
theorem yWrong13(c:W.Conf):Ret Tryz.prog 35 [confV c] (·=I c.wrongR):=by
 have hm:1≤c.maxSpeed∧c.maxSpeed≤16777216∧1≤c.pulses∧c.pulses≤1024→0≤c.maxSpeed*c.pulses∧c.maxSpeed*c.pulses≤17179869184:=fun h=>by
  have:=W.mul_bd (a:=c.maxSpeed) (b:=c.pulses) (A:=16777216) (B:=1024) (by omega) (by omega) (by omega) (by omega)
  have:=Int.mul_nonneg (show 0≤c.maxSpeed by omega) (show 0≤c.pulses by omega)
  omega
 have eU:=fun h1 h2 h3 h4=>yUp13 c.circHi c.pulses h1 h2 h3 h4
 refine enterO tabOk (N:=156) (gs:=[]) (args:=[_]) Tryz.func35 rfl rfl rfl (nLe rfl) (fun E hE=>?_)
 conv=>whnf
 repeat' (first|((first|refine Br.pt (by assumption) ?_|refine Br.pf (by assumption) ?_|refine Br.ot rfl ?_|refine CallX.pu (eU (by omega) (by omega) (by omega) (by omega)) rfl rfl ?_|refine Ob.mk (by unfold W.I64 at *;omega) ?_|refine Drw.loose (by kernel_rfl) ?_|refine FinAt.val rfl ?_);conv=>whnf)|((refine Br.d (fun h=>?_) (fun h=>?_))<;>conv=>whnf))
 all_goals
  refine eqI ?_
  unfold W.Conf.wrongR
  repeat (first|rw [if_pos (by omega)]|rw [if_neg (by omega)])
theorem yGrowth(c:W.Conf)(hw:c.wrongR=0):Ret Tryz.prog 12 [confV c] (·=.tup [I c.growth.1,I c.growth.2]):=by
 have ho:=W.wrongR_ok hw
 have u1:=W.up_bd (1048576*(c.circHi-c.circLo)) c.circLo (by omega) (by omega) (by omega)
 have u2:=W.up_bd c.circHi c.pulses (by omega) (by omega) (by omega)
 have v1:=W.up_le (1048576*(c.circHi-c.circLo)) c.circLo (by omega) (by omega)
 have v2:=W.up_le c.circHi c.pulses (by omega) (by omega)
 have e1:=yUp13 (1048576*(c.circHi-c.circLo)) c.circLo (by omega) (by omega) (by omega) (by omega)
 have e2:=yUp13 c.circHi c.pulses (by omega) (by omega) (by omega) (by omega)
 refine enterO tabOk (N:=29) (gs:=[]) (args:=[_]) Tryz.func12 rfl rfl rfl (nLe rfl) (fun E hE=>?_)
 conv=>whnf
 repeat' ((first|refine CallX.pu (e1) rfl rfl ?_|refine CallX.pu (e2) rfl rfl ?_|refine Ob.mk (by unfold W.I64 at *;omega) ?_|refine Drw.loose (by kernel_rfl) ?_|refine FinAt.val rfl ?_);conv=>whnf)
 all_goals rfl
abbrev tickC(y:W.Tick):List AV:=[I y.v,I y.slip0,I y.slip1,I y.rad,I y.acc,I y.lost0,I y.lost1,I y.lost2,I y.lost3,textsV y.junk,I y.command]
abbrev readC(r:W.Read):List AV:=[I r.cycle,I r.index,I r.group,I r.point]
abbrev ticksV(l:List W.Tick):AV:=.lst 11 l.length fun i=>tickC (l.getD i default)
abbrev readsV(l:List W.Read):AV:=.lst 4 l.length fun i=>readC (l.getD i default)
abbrev scrC(s:W.Script):List AV:=[isV s.route,I s.start,I s.v0,I s.circ0,I s.circ1,I s.phase0,I s.phase1,ticksV s.ticks,readsV s.reads]
abbrev scrV(s:W.Script):AV:=.agg (scrC s)
def ScrB(s:W.Script):Prop:=∀ y∈s.ticks,∀ l∈y.junk,∀ x∈l,x<256
theorem yFind(t:W.Trk)(id:Int)(h:t.grps.length≤1000):Ret Tryz.prog 10 [trkV t,I id] (·=I (W.findId t id)):=by
 refine enterO tabOk (N:=22) (gs:=[]) (args:=[_,_]) Tryz.func10 rfl rfl rfl (nLe rfl) (fun E hE=>?_)
 conv=>whnf
 refine LoopAt.rule tabOk [(1,_),(2,_)] (fun (i:Nat)=>[(5,.int .i64 (i:Int))]) (fun (i:Nat)=>[.blk [sgsV t.segs,gpsV t.grps]]) (fun (i:Nat)=>i≤t.grps.length∧∀ j,j<i→decide ((t.gp j).id=id)=false) (fun (i:Nat)=>t.grps.length-i) 0 (by trivial) ⟨Nat.zero_le _,fun j hj=>absurd hj (by omega)⟩ (by trivial) (by trivial) (fun _=>⟨rfl,rfl,rfl,by simp [hE]⟩) (fun i hk=>?_)
 obtain⟨hk,hno⟩:=hk
 by_cases hlt:i<t.grps.length
 ·have er:(t.gp i).id=(t.grps.getD i default).id:=rfl
  conv=>whnf
  repeat' (first|((first|refine Br.pt (by omega) ?_|refine Ob.mk (by omega) ?_|refine Ob.mk (by unfold W.I64 at *;omega) ?_|refine Ix.nat _ ?_|refine FinAt.val rfl ?_);conv=>whnf)|((refine Br.d (fun h=>?_) (fun h=>?_))<;>conv=>whnf))
  ·unfold W.findId
   rw [W.firstI_hit hno hlt (by rw [er];exact decide_eq_true (by assumption))]
   rfl
  ·exact⟨i+1,⟨hlt,W.all_step hno (by rw [er];exact decide_eq_false (by assumption))⟩,by omega,(by trivial),(by trivial),(by trivial)⟩
 ·obtain rfl:i=t.grps.length:=by omega
  conv=>whnf
  repeat' ((first|refine Br.pf (by omega) ?_|refine FinAt.val rfl ?_);conv=>whnf)
  unfold W.findId
  rw [W.firstI_none hno]
  rfl
theorem yStart(t:W.Trk)(l:List Int)(i:Int)(hn:0≤i)(hnl:i≤l.length)(hl4:l.length≤1000000)(hlen:W.LensOk t)(hin:W.InOk t l):Ret Tryz.prog 38 [trkV t,isV l,I i] (·=I (W.startOf t l i.toNat)):=by
 obtain⟨n,rfl⟩:=Int.eq_ofNat_of_zero_le hn
 have bd:=W.startOf_bd hlen hin
 show Ret _ _ _ (·=I (W.startOf t l n))
 refine enterO tabOk (N:=26) (gs:=[]) (args:=[_,_,_]) Tryz.func38 rfl rfl rfl (nLe rfl) (fun E hE=>?_)
 conv=>whnf
 refine LoopAt.rule tabOk [(1,_),(2,_),(3,_),(6,_)] (fun (i:Nat)=>[(7,.int .i64 (W.startOf t l i)),(8,.int .i64 (i:Int))]) (fun (i:Nat)=>[.blk [sgsV t.segs,gpsV t.grps]]) (fun (i:Nat)=>i≤n) (fun (i:Nat)=>n-i) 0 (by trivial) (Nat.zero_le _) (by trivial) (by trivial) (fun _=>⟨rfl,rfl,rfl,by simp [hE]⟩) (fun i hk=>?_)
 by_cases hlt:i<n
 ·have h1:=hin i (by omega)
  have h2:=bd i (by omega)
  have h3:0≤(t.segs.getD (l.getD i 0).toNat default).length∧(t.segs.getD (l.getD i 0).toNat default).length≤1099511627776:=hlen (l.getD i 0).toNat (by omega)
  conv=>whnf
  repeat' ((first|refine Br.pt (by omega) ?_|refine Ob.mk (by omega) ?_|refine Ob.mk (by unfold W.I64 at *;omega) ?_|refine Drw.loose (by kernel_rfl) ?_|refine Ix.nat _ ?_|refine Ix.tn (by omega) ?_);conv=>whnf)
  all_goals exact⟨i+1,hlt,by omega,(by trivial),(by trivial),(by trivial)⟩
 ·obtain rfl:i=n:=by omega
  conv=>whnf
  repeat' ((first|refine Br.pf (by omega) ?_|refine FinAt.val rfl ?_);conv=>whnf)
  all_goals rfl
theorem yAt(s:W.Script)(i:Int)(hb:ScrB s)(hn:0≤i)(hnl:i≤s.ticks.length)(hl4:s.ticks.length≤4100)(hv:W.VOk s i.toNat):Ret Tryz.prog 66 [scrV s,I i] (·=I (s.place i.toNat)):=by
 obtain⟨n,rfl⟩:=Int.eq_ofNat_of_zero_le hn
 have bd:=W.place_bd hv
 have hv2:∀ k,k<n→-1000000000000000≤(s.ticks.getD k default).v∧(s.ticks.getD k default).v≤1000000000000000:=hv.2
 have bd:∀ k,k≤n→-(1000000000000000*((k:Int)+1))≤s.place k∧s.place k≤1000000000000000*(k+1):=bd
 show Ret _ _ _ (·=I (s.place n))
 refine enterO tabOk (N:=23) (gs:=[]) (args:=[_,_]) Tryz.func66 rfl rfl rfl (nLe rfl) (fun E hE=>?_)
 conv=>whnf
 refine LoopAt.rule tabOk [(1,_),(2,_),(4,_)] (fun (i:Nat)=>[(5,.int .i64 (s.place i)),(6,.int .i64 (i:Int))]) (fun (i:Nat)=>[.blk (scrC s)]) (fun (i:Nat)=>i≤n) (fun (i:Nat)=>n-i) 0 (by trivial) (Nat.zero_le _) (by trivial) (by trivial) (fun _=>⟨rfl,rfl,rfl,by simp [hE]⟩) (fun i hk=>?_)
 by_cases hlt:i<n
 ·have h1:=hv2 i hlt
  have h2:=bd i (by omega)
  conv=>whnf
  repeat' ((first|refine Br.pt (by omega) ?_|refine Ob.mk (by omega) ?_|refine Ob.mk (by unfold W.I64 at *;omega) ?_|refine Ix.nat _ ?_);conv=>whnf)
  all_goals exact⟨i+1,hlt,by omega,(by trivial),(by trivial),(by trivial)⟩
 ·obtain rfl:i=n:=by omega
  conv=>whnf
  repeat' ((first|refine Br.pf (by omega) ?_|refine FinAt.val rfl ?_);conv=>whnf)
  all_goals rfl
theorem yAt10(l:List W.Piece)(y:Int)(h0:0<l.length)(h1:l.length≤1000):Ret Tryz.prog 111 [pcsV l,I y] (·=I (W.gradeAt l y l.length)):=by
 refine enterO tabOk (N:=30) (gs:=[]) (args:=[_,_]) Tryz.func111 rfl rfl rfl (nLe rfl) (fun E hE=>?_)
 conv=>whnf
 repeat' ((first|refine Ob.mk (by omega) ?_|refine Ix.of 0 rfl ?_);conv=>whnf)
 refine LoopAt.rule tabOk [(0,_),(1,_),(4,_)] (fun (i:Nat)=>[(5,.int .i64 (W.gradeAt l y i)),(6,.int .i64 (i:Int))]) (fun (i:Nat)=>[]) (fun (i:Nat)=>i≤l.length) (fun (i:Nat)=>l.length-i) 0 (by trivial) (Nat.zero_le _) (by trivial) (by trivial) (fun _=>⟨rfl,rfl,rfl,by simp [hE]⟩) (fun i hk=>?_)
 by_cases hlt:i<l.length
 ·by_cases hc:(l.getD i default).from_≤y
  ·have e:W.gradeAt l y (i+1)=(l.getD i default).grade:=if_pos hc
   conv=>whnf
   repeat' ((first|refine Br.pt (by assumption) ?_|refine Br.pt (by omega) ?_|refine Ob.mk (by omega) ?_|refine Ob.mk (by unfold W.I64 at *;omega) ?_|refine Ix.nat _ ?_);conv=>whnf)
   all_goals first
    |omega
    |exact⟨i+1,hlt,by omega,⟨congrArg (fun z=>some (AV.int .i64 z)) e.symm,rfl,trivial⟩,(by trivial),(by trivial)⟩
  ·have e:W.gradeAt l y (i+1)=W.gradeAt l y i:=if_neg hc
   conv=>whnf
   repeat' ((first|refine Br.pf (by assumption) ?_|refine Br.pt (by omega) ?_|refine Ob.mk (by omega) ?_|refine Ob.mk (by unfold W.I64 at *;omega) ?_|refine Ix.nat _ ?_);conv=>whnf)
   all_goals first
    |omega
    |exact⟨i+1,hlt,by omega,⟨congrArg (fun z=>some (AV.int .i64 z)) e.symm,rfl,trivial⟩,(by trivial),(by trivial)⟩
 ·obtain rfl:i=l.length:=by omega
  conv=>whnf
  repeat' ((first|refine Br.pf (by omega) ?_|refine FinAt.val rfl ?_);conv=>whnf)
  all_goals rfl
theorem yGrade(t:W.Trk)(l:List Int)(y:Int)(hl4:l.length≤1000)(hlen:W.LensOk t)(hin:W.InOk t l)(hpc:W.PcsOk t)(y0:-1000000000000000000≤y)(y1:y≤1000000000000000000):Ret Tryz.prog 65 [trkV t,isV l,I y] (·=I (W.gradeOn t l y)):=by
 have bd:=W.startOf_bd hlen hin
 refine enterO tabOk (N:=44) (gs:=[]) (args:=[_,_,_]) Tryz.func65 rfl rfl rfl (nLe rfl) (fun E hE=>?_)
 conv=>whnf
 refine LoopAt.rule tabOk [(1,_),(2,_),(3,_)] (fun (i:Nat)=>[(7,.int .i64 (i:Int))]) (fun (i:Nat)=>[.blk [sgsV t.segs,gpsV t.grps]]) (fun (i:Nat)=>i≤l.length∧∀ j,j<i→W.gradeHere t l y j=false) (fun (i:Nat)=>l.length-i) 0 (by trivial) ⟨Nat.zero_le _,fun j hj=>absurd hj (by omega)⟩ (by trivial) (by trivial) (fun _=>⟨rfl,rfl,rfl,by simp [hE]⟩) (fun i hk=>?_)
 obtain⟨hk,hno⟩:=hk
 by_cases hlt:i<l.length
 ·have h1:=hin i hlt
  have b0:=bd i (by omega)
  have b1:=bd (i+1) (by omega)
  have e0:=yStart t l ((i:Int)+1) (by omega) (by omega) (by omega) hlen hin
  rw [show ((i:Int)+1).toNat=i+1 by omega] at e0
  have e1:=yStart t l (i:Int) (by omega) (by omega) (by omega) hlen hin
  rw [show ((i:Int)).toNat=i by omega] at e1
  by_cases hc:y<W.startOf t l (i+1)∨i+1=l.length
  ·have hg:W.gradeHere t l y i=true:=decide_eq_true hc
   have hp:=hpc (l.getD i 0).toNat (by omega)
   have hp':0<(t.segs.getD (l.getD i 0).toNat default).pieces.length∧(t.segs.getD (l.getD i 0).toNat default).pieces.length≤1000:=hp
   have e2:=yAt10 (t.segs.getD (l.getD i 0).toNat default).pieces (y-W.startOf t l i) hp'.1 hp'.2
   rw [W.gradeOn_hit hno hlt hg rfl]
   rcases hc with hc|hc
   ·conv=>whnf
    repeat' ((first|refine Br.pt (by assumption) ?_|refine Br.pt (by omega) ?_|refine Br.ot rfl ?_|refine CallS.q (e0) rfl ?_|refine CallX.pu (e1) rfl rfl ?_|refine CallX.pu (e2) rfl rfl ?_|refine Ob.mk (by omega) ?_|refine Ob.mk (by unfold W.I64 at *;omega) ?_|refine Drw.loose (by kernel_rfl) ?_|refine Ix.nat _ ?_|refine Ix.tn (by omega) ?_|refine FinAt.val rfl ?_);conv=>whnf)
    all_goals first
     |omega
     |rfl
   ·by_cases hc2:y<W.startOf t l (i+1)
    ·conv=>whnf
     repeat' ((first|refine Br.pt (by assumption) ?_|refine Br.pt (by omega) ?_|refine Br.ot rfl ?_|refine CallS.q (e0) rfl ?_|refine CallX.pu (e1) rfl rfl ?_|refine CallX.pu (e2) rfl rfl ?_|refine Ob.mk (by omega) ?_|refine Ob.mk (by unfold W.I64 at *;omega) ?_|refine Drw.loose (by kernel_rfl) ?_|refine Ix.nat _ ?_|refine Ix.tn (by omega) ?_|refine FinAt.val rfl ?_);conv=>whnf)
     all_goals first
      |omega
      |rfl
    ·conv=>whnf
     repeat' ((first|refine Br.pf (by assumption) ?_|refine Br.pt (by omega) ?_|refine CallS.q (e0) rfl ?_|refine CallX.pu (e1) rfl rfl ?_|refine CallX.pu (e2) rfl rfl ?_|refine Ob.mk (by omega) ?_|refine Ob.mk (by unfold W.I64 at *;omega) ?_|refine Drw.loose (by kernel_rfl) ?_|refine Ix.nat _ ?_|refine Ix.tn (by omega) ?_|refine FinAt.val rfl ?_);conv=>whnf)
     all_goals first
      |omega
      |rfl
  ·have hg:W.gradeHere t l y i=false:=decide_eq_false hc
   conv=>whnf
   repeat' ((first|refine Br.pt (by omega) ?_|refine Br.pf (by omega) ?_|refine CallS.q (e0) rfl ?_|refine Ob.mk (by unfold W.I64 at *;omega) ?_);conv=>whnf)
   all_goals first
    |omega
    |exact⟨i+1,⟨hlt,W.all_step hno hg⟩,by omega,(by trivial),(by trivial),(by trivial)⟩
 ·obtain rfl:i=l.length:=by omega
  rw [W.gradeOn_none hno]
  conv=>whnf
  repeat' ((first|refine Br.pf (by omega) ?_|refine FinAt.val rfl ?_);conv=>whnf)
  all_goals rfl
theorem yNominal(t:W.Trk)(s:W.Script)(r:W.Read)(hb:ScrB s)(h0:t.grps.length≤1000)(hl4:s.route.length≤1000)(hlen:W.LensOk t)(hin:W.InOk t s.route)(hof:∀ k,k<t.grps.length→0≤(t.gp k).offset∧(t.gp k).offset≤1099511627776):Ret Tryz.prog 74 [trkV t,scrV s,.agg (readC r)] (·=.tup [I (W.nominal t s r).1,.bool (W.nominal t s r).2]):=by
 have eF:=yFind t r.group h0
 have bd:=W.startOf_bd hlen hin
 rcases W.firstI_cases (fun i=>decide ((t.gp i).id=r.group)) t.grps.length with q|⟨m,q,hm,_,_⟩
 ·have q':W.findId t r.group=-1:=q
  rw [W.nominal_no (.inl (by omega))]
  rw [q'] at eF
  refine enterO tabOk (N:=56) (gs:=[]) (args:=[_,_,_]) Tryz.func74 rfl rfl rfl (nLe rfl) (fun E hE=>?_)
  conv=>whnf
  repeat' ((first|refine Br.pt (by omega) ?_|refine Br.ot rfl ?_|refine CallS.q (eF) rfl ?_|refine Drw.loose (by kernel_rfl) ?_|refine FinAt.val rfl ?_);conv=>whnf)
  all_goals first|rfl|omega
 ·have q':W.findId t r.group=(m:Int):=q
  rw [q'] at eF
  have ho:0≤(t.grps.getD m default).offset∧(t.grps.getD m default).offset≤1099511627776:=hof m hm
  by_cases c1:r.index<0
  ·rw [W.nominal_no (.inr (.inl c1))]
   refine enterO tabOk (N:=56) (gs:=[]) (args:=[_,_,_]) Tryz.func74 rfl rfl rfl (nLe rfl) (fun E hE=>?_)
   conv=>whnf
   repeat' ((first|refine Br.pt (by assumption) ?_|refine Br.pf (by omega) ?_|refine Br.ot rfl ?_|refine CallS.q (eF) rfl ?_|refine Drw.loose (by kernel_rfl) ?_|refine FinAt.val rfl ?_);conv=>whnf)
   all_goals first|rfl|omega
  by_cases c2:(s.route.length:Int)≤r.index
  ·rw [W.nominal_no (.inr (.inr (.inl c2)))]
   refine enterO tabOk (N:=56) (gs:=[]) (args:=[_,_,_]) Tryz.func74 rfl rfl rfl (nLe rfl) (fun E hE=>?_)
   conv=>whnf
   repeat' ((first|refine Br.pt (by assumption) ?_|refine Br.pf (by assumption) ?_|refine Br.pf (by omega) ?_|refine Br.ot rfl ?_|refine CallS.q (eF) rfl ?_|refine Drw.loose (by kernel_rfl) ?_|refine FinAt.val rfl ?_);conv=>whnf)
   all_goals first|rfl|omega
  have eS:=yStart t s.route r.index (by omega) (by omega) (by omega) hlen hin
  have b0:=bd r.index.toNat (by omega)
  have eg:(t.grp (W.findId t r.group))=t.grps.getD m default:=by rw [q'];rfl
  by_cases c3:s.route.getD r.index.toNat 0=(t.grps.getD m default).seg
  ·rw [W.nominal_yes (by rw [q',show t.grp (m:Int)=t.grps.getD m default from rfl];omega),eg]
   refine enterO tabOk (N:=56) (gs:=[]) (args:=[_,_,_]) Tryz.func74 rfl rfl rfl (nLe rfl) (fun E hE=>?_)
   conv=>whnf
   repeat' ((first|refine Br.pf (by assumption) ?_|refine Br.nf (by assumption) ?_|refine Br.pf (by omega) ?_|refine CallS.q (eF) rfl ?_|refine CallX.pu (eS) rfl rfl ?_|refine Ob.mk (by omega) ?_|refine Ob.mk (by unfold W.I64 at *;omega) ?_|refine Drw.loose (by kernel_rfl) ?_|refine Ix.nat _ ?_|refine Ix.tn (by omega) ?_|refine FinAt.val rfl ?_);conv=>whnf)
   all_goals first|rfl|omega
  ·rw [W.nominal_no (.inr (.inr (.inr (by rw [eg];exact c3))))]
   refine enterO tabOk (N:=56) (gs:=[]) (args:=[_,_,_]) Tryz.func74 rfl rfl rfl (nLe rfl) (fun E hE=>?_)
   conv=>whnf
   repeat' ((first|refine Br.pf (by assumption) ?_|refine Br.nt (by assumption) ?_|refine Br.pf (by omega) ?_|refine CallS.q (eF) rfl ?_|refine Ob.mk (by omega) ?_|refine Drw.loose (by kernel_rfl) ?_|refine Ix.nat _ ?_|refine Ix.tn (by omega) ?_|refine FinAt.val rfl ?_);conv=>whnf)
   all_goals first|rfl|omega
theorem yFollows(t:W.Trk)(a b:Int)(h:∀ k,k<t.segs.length→(t.segs.getD k default).next.length≤1000000):Ret Tryz.prog 37 [trkV t,I a,I b] (·=.bool (W.follows t a b)):=by
 by_cases c1:a<0
 ·rw [W.follows_out (.inl c1)]
  refine enterO tabOk (N:=39) (gs:=[]) (args:=[_,_,_]) Tryz.func37 rfl rfl rfl (nLe rfl) (fun E hE=>?_)
  conv=>whnf
  repeat' ((first|refine Br.pt (by assumption) ?_|refine Br.ot rfl ?_|refine FinAt.val rfl ?_);conv=>whnf)
  all_goals first|rfl|omega
 by_cases c2:(t.segs.length:Int)≤a
 ·rw [W.follows_out (.inr c2)]
  refine enterO tabOk (N:=39) (gs:=[]) (args:=[_,_,_]) Tryz.func37 rfl rfl rfl (nLe rfl) (fun E hE=>?_)
  conv=>whnf
  repeat' ((first|refine Br.pt (by assumption) ?_|refine Br.pf (by assumption) ?_|refine FinAt.val rfl ?_);conv=>whnf)
  all_goals first|rfl|omega
 obtain⟨n,rfl⟩:=Int.eq_ofNat_of_zero_le (show 0≤a by omega)
 have hn:n<t.segs.length:=by omega
 have hh:=h n hn
 rw [W.follows_in hn (X:=(t.segs.getD n default).next) rfl]
 refine enterO tabOk (N:=39) (gs:=[]) (args:=[_,_,_]) Tryz.func37 rfl rfl rfl (nLe rfl) (fun E hE=>?_)
 conv=>whnf
 repeat' ((refine Br.pf (by assumption) ?_);conv=>whnf)
 all_goals try omega
 refine LoopAt.rule tabOk [(1,_),(2,_),(3,_)] (fun (i:Nat)=>[(7,.int .i64 (i:Int))]) (fun (i:Nat)=>[.blk [sgsV t.segs,gpsV t.grps]]) (fun (i:Nat)=>i≤(t.segs.getD n default).next.length∧∀ j,j<i→decide ((t.segs.getD n default).next.getD j 0=b)=false) (fun (i:Nat)=>(t.segs.getD n default).next.length-i) 0 (by trivial) ⟨Nat.zero_le _,fun j hj=>absurd hj (by omega)⟩ (by trivial) (by trivial) (fun _=>⟨rfl,rfl,rfl,by simp [hE]⟩) (fun i hk=>?_)
 obtain⟨hk,hno⟩:=hk
 by_cases hlt:i<(t.segs.getD n default).next.length
 ·conv=>whnf
  repeat' (first|((first|refine Br.pt (by omega) ?_|refine Ob.mk (by omega) ?_|refine Ob.mk (by unfold W.I64 at *;omega) ?_|refine Ix.nat _ ?_|refine FinAt.val rfl ?_);conv=>whnf)|((refine Br.d (fun h=>?_) (fun h=>?_))<;>conv=>whnf))
  ·rw [any_yes hlt (decide_eq_true (by assumption))]
   rfl
  ·exact⟨i+1,⟨hlt,W.all_step hno (decide_eq_false (by assumption))⟩,by omega,(by trivial),(by trivial),(by trivial)⟩
 ·obtain rfl:i=(t.segs.getD n default).next.length:=by omega
  rw [any_no hno]
  conv=>whnf
  repeat' ((first|refine Br.pf (by omega) ?_|refine Ob.mk (by omega) ?_|refine Ix.nat _ ?_|refine FinAt.val rfl ?_);conv=>whnf)
  all_goals rfl
theorem yMay(l:List W.Piece)(n:Int):Ret Tryz.prog 112 [pcsV l,I n] (·=.bool (W.may l n)):=by
 by_cases c1:l.length<1
 ·rw [W.may_no _ _ (.inl c1)]
  refine enterO tabOk (N:=66) (gs:=[]) (args:=[_,_]) Tryz.func112 rfl rfl rfl (nLe rfl) (fun E hE=>?_)
  conv=>whnf
  repeat' ((first|refine Br.pt (by omega) ?_|refine Br.ot rfl ?_|refine FinAt.val rfl ?_);conv=>whnf)
  all_goals first|rfl|omega
 by_cases c2:64<l.length
 ·rw [W.may_no _ _ (.inr (.inl c2))]
  refine enterO tabOk (N:=66) (gs:=[]) (args:=[_,_]) Tryz.func112 rfl rfl rfl (nLe rfl) (fun E hE=>?_)
  conv=>whnf
  repeat' ((first|refine Br.pt (by omega) ?_|refine Br.pf (by omega) ?_|refine Br.ot rfl ?_|refine FinAt.val rfl ?_);conv=>whnf)
  all_goals first|rfl|omega
 by_cases c3:(l.getD 0 default).from_≠0
 ·rw [W.may_no _ _ (.inr (.inr c3))]
  refine enterO tabOk (N:=66) (gs:=[]) (args:=[_,_]) Tryz.func112 rfl rfl rfl (nLe rfl) (fun E hE=>?_)
  conv=>whnf
  repeat' ((first|refine Br.nt (by assumption) ?_|refine Br.pf (by omega) ?_|refine Ob.mk (by omega) ?_|refine Ix.of 0 rfl ?_|refine FinAt.val rfl ?_);conv=>whnf)
  all_goals first|rfl|omega
 have c3:(l.getD 0 default).from_=0:=by omega
 rw [W.may_eq _ _ (by omega) (by omega) c3]
 refine enterO tabOk (N:=66) (gs:=[]) (args:=[_,_]) Tryz.func112 rfl rfl rfl (nLe rfl) (fun E hE=>?_)
 conv=>whnf
 repeat' ((first|refine Br.nf (by assumption) ?_|refine Br.pf (by omega) ?_|refine Ob.mk (by omega) ?_|refine Ix.of 0 rfl ?_);conv=>whnf)
 all_goals try omega
 refine LoopAt.rule tabOk [(0,_),(1,_)] (fun (i:Nat)=>[(5,.int .i64 (i:Int))]) (fun (i:Nat)=>[]) (fun (i:Nat)=>i≤l.length∧∀ j,j<i→W.mayAt l n j=true) (fun (i:Nat)=>l.length-i) 0 (by trivial) ⟨Nat.zero_le _,fun j hj=>absurd hj (by omega)⟩ (by trivial) (by trivial) (fun _=>⟨rfl,rfl,rfl,by simp [hE]⟩) (fun i hk=>?_)
 obtain⟨hk,hno⟩:=hk
 by_cases hlt:i<l.length
 ·have no:¬ (-1048576≤(l.getD i default).grade∧(l.getD i default).grade≤1048576∧(l.getD i default).from_<n∧(i=0∨(l.getD (i-1) default).from_<(l.getD i default).from_))→AV.bool false=.bool (W.allB (W.mayAt l n) l.length):=fun hf=>by
   rw [W.allB_no hlt (show W.mayAt l n i=false from decide_eq_false hf)]
  have yes:(-1048576≤(l.getD i default).grade∧(l.getD i default).grade≤1048576∧(l.getD i default).from_<n∧(i=0∨(l.getD (i-1) default).from_<(l.getD i default).from_))→W.mayAt l n i=true:=fun h=>decide_eq_true h
  rcases Nat.eq_zero_or_pos i with hi|hi
  ·subst hi
   conv=>whnf
   repeat' (first|((first|refine Br.pt (by assumption) ?_|refine Br.pf (by assumption) ?_|refine Br.pt (by omega) ?_|refine Br.pf (by omega) ?_|refine Br.ot rfl ?_|refine Br.of rfl ?_|refine Ob.mk (by omega) ?_|refine Ob.mk (by unfold W.I64 at *;omega) ?_|refine Drw.loose (by kernel_rfl) ?_|refine Ix.of 0 rfl ?_|refine FinAt.val rfl ?_);conv=>whnf)|((refine Br.d (fun h=>?_) (fun h=>?_))<;>conv=>whnf))
   all_goals first
    |exact no (by omega)
    |exact⟨1,⟨hlt,W.all_step hno (yes (by omega))⟩,by omega,(by trivial),(by trivial),(by trivial)⟩
  ·obtain⟨m,rfl⟩:∃ m,i=m+1:=⟨i-1,by omega⟩
   simp only [Nat.add_sub_cancel] at no yes
   have em:(l.getD (((m+1:Nat):Int)-1).toNat default).from_=(l.getD m default).from_:=by rw [show (((m+1:Nat):Int)-1).toNat=m by omega]
   conv=>whnf
   repeat' (first|((first|refine Br.pt (by assumption) ?_|refine Br.pf (by assumption) ?_|refine Br.pt (by omega) ?_|refine Br.ot rfl ?_|refine Ob.mk (by omega) ?_|refine Ob.mk (by unfold W.I64 at *;omega) ?_|refine Drw.loose (by kernel_rfl) ?_|refine Ix.nat _ ?_|refine Ix.tn (by omega) ?_|refine FinAt.val rfl ?_);conv=>whnf)|((refine Br.d (fun h=>?_) (fun h=>?_))<;>conv=>whnf))
   all_goals first
    |exact no (by omega)
    |exact⟨m+2,⟨hlt,W.all_step hno (yes (by omega))⟩,by omega,(by trivial),(by trivial),(by trivial)⟩
 ·obtain rfl:i=l.length:=by omega
  rw [W.allB_yes hno]
  conv=>whnf
  repeat' ((first|refine Br.pf (by omega) ?_|refine FinAt.val rfl ?_);conv=>whnf)
  all_goals rfl
theorem ySegment(s:W.Seg)(m:Int):Ret Tryz.prog 68 [.agg (sgC s),I m] (·=.bool (W.segMay s m)):=by
 have eM:=yMay s.pieces s.length
 by_cases c1:s.length<1
 ·rw [W.segMay_no (.inl c1)]
  refine enterO tabOk (N:=65) (gs:=[]) (args:=[_,_]) Tryz.func68 rfl rfl rfl (nLe rfl) (fun E hE=>?_)
  conv=>whnf
  repeat' ((first|refine Br.pt (by assumption) ?_|refine Br.ot rfl ?_|refine FinAt.val rfl ?_);conv=>whnf)
  all_goals first|rfl|omega
 by_cases c2:1099511627776<s.length
 ·rw [W.segMay_no (.inr (.inl c2))]
  refine enterO tabOk (N:=65) (gs:=[]) (args:=[_,_]) Tryz.func68 rfl rfl rfl (nLe rfl) (fun E hE=>?_)
  conv=>whnf
  repeat' ((first|refine Br.pt (by assumption) ?_|refine Br.pf (by assumption) ?_|refine Br.ot rfl ?_|refine FinAt.val rfl ?_);conv=>whnf)
  all_goals first|rfl|omega
 by_cases c3:W.may s.pieces s.length=false
 ·rw [W.segMay_no (.inr (.inr (.inl c3)))]
  rw [c3] at eM
  refine enterO tabOk (N:=65) (gs:=[]) (args:=[_,_]) Tryz.func68 rfl rfl rfl (nLe rfl) (fun E hE=>?_)
  conv=>whnf
  repeat' ((first|refine Br.pf (by assumption) ?_|refine Br.ot rfl ?_|refine CallS.q (eM) rfl ?_|refine FinAt.val rfl ?_);conv=>whnf)
  all_goals first|rfl|omega
 have c3:W.may s.pieces s.length=true:=by simpa using c3
 rw [c3] at eM
 by_cases c4:2<s.next.length
 ·rw [W.segMay_no (.inr (.inr (.inr (.inl c4))))]
  refine enterO tabOk (N:=65) (gs:=[]) (args:=[_,_]) Tryz.func68 rfl rfl rfl (nLe rfl) (fun E hE=>?_)
  conv=>whnf
  repeat' ((first|refine Br.pf (by assumption) ?_|refine Br.pt (by omega) ?_|refine Br.of rfl ?_|refine CallS.q (eM) rfl ?_|refine FinAt.val rfl ?_);conv=>whnf)
  all_goals first|rfl|omega
 refine enterO tabOk (N:=65) (gs:=[]) (args:=[_,_]) Tryz.func68 rfl rfl rfl (nLe rfl) (fun E hE=>?_)
 conv=>whnf
 repeat' ((first|refine Br.pf (by assumption) ?_|refine Br.pf (by omega) ?_|refine Br.of rfl ?_|refine CallS.q (eM) rfl ?_);conv=>whnf)
 all_goals try omega
 refine LoopAt.rule tabOk [(1,_),(2,_)] (fun (i:Nat)=>[(5,.int .i64 (i:Int))]) (fun (i:Nat)=>[.blk (sgC s)]) (fun (i:Nat)=>i≤s.next.length∧∀ j,j<i→W.nextAt s m j=true) (fun (i:Nat)=>s.next.length-i) 0 (by trivial) ⟨Nat.zero_le _,fun j hj=>absurd hj (by omega)⟩ (by trivial) (by trivial) (fun _=>⟨rfl,rfl,rfl,by simp [hE]⟩) (fun i hk=>?_)
 obtain⟨hk,hno⟩:=hk
 by_cases hlt:i<s.next.length
 ·have no:¬ (0≤s.next.getD i 0∧s.next.getD i 0<m)→AV.bool false=.bool (W.segMay s m):=fun hf=>by
   rw [W.segMay_no (.inr (.inr (.inr (.inr ⟨i,hlt,hf⟩))))]
  have yes:(0≤s.next.getD i 0∧s.next.getD i 0<m)→W.nextAt s m i=true:=fun h=>decide_eq_true h
  conv=>whnf
  repeat' (first|((first|refine Br.pt (by assumption) ?_|refine Br.pf (by assumption) ?_|refine Br.pt (by omega) ?_|refine Br.ot rfl ?_|refine Ob.mk (by omega) ?_|refine Ob.mk (by unfold W.I64 at *;omega) ?_|refine Ix.nat _ ?_|refine FinAt.val rfl ?_);conv=>whnf)|((refine Br.d (fun h=>?_) (fun h=>?_))<;>conv=>whnf))
  all_goals first
   |exact no (by omega)
   |exact⟨i+1,⟨hlt,W.all_step hno (yes (by omega))⟩,by omega,(by trivial),(by trivial),(by trivial)⟩
 ·obtain rfl:i=s.next.length:=by omega
  have fin:∀ b:Bool,b=decide (s.next.length<2∨s.next.getD 0 0<s.next.getD 1 0)→AV.bool b=.bool (W.segMay s m):=fun b hb=>by
   rw [W.segMay_yes (by omega) c3 (by omega) hno hb]
  conv=>whnf
  repeat' (first|((first|refine Br.pt (by assumption) ?_|refine Br.pf (by assumption) ?_|refine Br.pf (by omega) ?_|refine Ob.mk (by omega) ?_|refine Drw.loose (by kernel_rfl) ?_|refine Ix.of 0 rfl ?_|refine Ix.of 1 rfl ?_|refine FinAt.val rfl ?_);conv=>whnf)|((refine Br.d (fun h=>?_) (fun h=>?_))<;>conv=>whnf))
  all_goals exact fin _ (by first|exact(decide_eq_true (by omega)).symm|exact(decide_eq_false (by omega)).symm|exact decide_eq_decide.2 (by omega))
theorem yCheck11(t:W.Trk)(h:t.segs.length≤1000000)(h2:t.grps.length≤1000000):Ret Tryz.prog 36 [trkV t] (·=.tup [I t.checkR.1,I t.checkR.2]):=by
 by_cases c0:t.segs.length<1∨200<t.segs.length∨400<t.grps.length
 ·rw [W.checkR_many c0]
  refine enterO tabOk (N:=115) (gs:=[]) (args:=[_]) Tryz.func36 rfl rfl rfl (nLe rfl) (fun E hE=>?_)
  conv=>whnf
  repeat' (first|((first|refine Br.pt (by assumption) ?_|refine Br.pf (by assumption) ?_|refine Br.pt (by omega) ?_|refine Br.ot rfl ?_|refine FinAt.val rfl ?_);conv=>whnf)|((refine Br.d (fun h=>?_) (fun h=>?_))<;>conv=>whnf))
  all_goals first|rfl|omega
 refine enterO tabOk (N:=115) (gs:=[]) (args:=[_]) Tryz.func36 rfl rfl rfl (nLe rfl) (fun E hE=>?_)
 conv=>whnf
 repeat' ((refine Br.pf (by omega) ?_);conv=>whnf)
 all_goals try omega
 refine LoopAt.rule tabOk [(1,_)] (fun (i:Nat)=>[(4,.int .i64 (i:Int))]) (fun (i:Nat)=>[.blk [sgsV t.segs,gpsV t.grps]]) (fun (i:Nat)=>i≤t.segs.length∧∀ j,j<i→(!W.segMay (t.sg j) t.segs.length)=false) (fun (i:Nat)=>t.segs.length-i) 0 (by trivial) ⟨Nat.zero_le _,fun j hj=>absurd hj (by omega)⟩ (by trivial) (by trivial) (fun _=>⟨rfl,rfl,rfl,by simp [hE]⟩) (fun i hk=>?_)
 obtain⟨hk,hno⟩:=hk
 by_cases hlt:i<t.segs.length
 ·have eS:=ySegment (t.segs.getD i default) t.segs.length
  have er:W.segMay (t.sg i) t.segs.length=W.segMay (t.segs.getD i default) t.segs.length:=rfl
  cases hs:W.segMay (t.segs.getD i default) t.segs.length with
  |false =>
   rw [hs] at eS
   rw [W.checkR_seg c0 hno hlt (er.trans hs)]
   conv=>whnf
   repeat' ((first|refine Br.pt (by omega) ?_|refine Br.ot rfl ?_|refine CallX.pu (eS) rfl rfl ?_|refine Ob.mk (by omega) ?_|refine Drw.loose (by kernel_rfl) ?_|refine Ix.nat _ ?_|refine FinAt.val rfl ?_);conv=>whnf)
   all_goals rfl
  |true =>
   rw [hs] at eS
   conv=>whnf
   repeat' ((first|refine Br.pt (by omega) ?_|refine Br.of rfl ?_|refine CallX.pu (eS) rfl rfl ?_|refine Ob.mk (by omega) ?_|refine Ob.mk (by unfold W.I64 at *;omega) ?_|refine Drw.loose (by kernel_rfl) ?_|refine Ix.nat _ ?_);conv=>whnf)
   all_goals exact⟨i+1,⟨hlt,W.all_step hno (by rw [er,hs];rfl)⟩,by omega,(by trivial),(by trivial),(by trivial)⟩
 ·obtain rfl:i=t.segs.length:=by omega
  conv=>whnf
  repeat' ((refine Br.pf (by omega) ?_);conv=>whnf)
  refine LoopAt.rule tabOk [(1,_)] (fun (i:Nat)=>[(5,.int .i64 (W.lastId t i)),(6,.int .i64 (i:Int))]) (fun (i:Nat)=>[.blk [sgsV t.segs,gpsV t.grps]]) (fun (i:Nat)=>i≤t.grps.length∧∀ j,j<i→(!W.grpMay t j)=false) (fun (i:Nat)=>t.grps.length-i) 0 (by trivial) ⟨Nat.zero_le _,fun j hj=>absurd hj (by omega)⟩ (by trivial) (by trivial) (fun _=>⟨rfl,rfl,rfl,by simp [hE]⟩) (fun i hk=>?_)
  obtain⟨hk,hno2⟩:=hk
  by_cases hlt:i<t.grps.length
  ·have el:t.len (t.grps.getD i default).seg=(t.segs.getD (t.grps.getD i default).seg.toNat default).length:=rfl
   have yes:(W.lastId t i<(t.grps.getD i default).id∧(t.grps.getD i default).id≤65535∧0≤(t.grps.getD i default).seg∧(t.grps.getD i default).seg<t.segs.length∧0≤(t.grps.getD i default).offset∧(t.grps.getD i default).offset≤t.len (t.grps.getD i default).seg∧0≤(t.grps.getD i default).acc∧(t.grps.getD i default).acc≤1048576∧0≤(t.grps.getD i default).slack∧(t.grps.getD i default).slack≤16777216)→W.grpMay t i=true:=fun h=>decide_eq_true h
   have no:¬ (W.lastId t i<(t.grps.getD i default).id∧(t.grps.getD i default).id≤65535∧0≤(t.grps.getD i default).seg∧(t.grps.getD i default).seg<t.segs.length∧0≤(t.grps.getD i default).offset∧(t.grps.getD i default).offset≤t.len (t.grps.getD i default).seg∧0≤(t.grps.getD i default).acc∧(t.grps.getD i default).acc≤1048576∧0≤(t.grps.getD i default).slack∧(t.grps.getD i default).slack≤16777216)→AV.tup [I 16,I (i:Int)]=.tup [I t.checkR.1,I t.checkR.2]:=fun hf=>by
    rw [W.checkR_grp c0 hno hno2 hlt (show W.grpMay t i=false from decide_eq_false hf)]
   rw [el] at yes no
   conv=>whnf
   repeat' (first|((first|refine Br.pt (by assumption) ?_|refine Br.pf (by assumption) ?_|refine Br.pt (by omega) ?_|refine Br.ot rfl ?_|refine Ob.mk (by omega) ?_|refine Ob.mk (by unfold W.I64 at *;omega) ?_|refine Drw.loose (by kernel_rfl) ?_|refine Ix.nat _ ?_|refine Ix.tn (by omega) ?_|refine FinAt.val rfl ?_);conv=>whnf)|((refine Br.d (fun h=>?_) (fun h=>?_))<;>conv=>whnf))
   all_goals first
    |exact no (by omega)
    |exact⟨i+1,⟨hlt,W.all_step hno2 (by rw [yes (by omega)];rfl)⟩,by omega,(by trivial),(by trivial),(by trivial)⟩
  ·obtain rfl:i=t.grps.length:=by omega
   rw [W.checkR_ok c0 hno hno2]
   conv=>whnf
   repeat' ((first|refine Br.pf (by omega) ?_|refine FinAt.val rfl ?_);conv=>whnf)
   all_goals rfl
theorem yRoute(t:W.Trk)(l:List Int)(h0:t.segs.length≤1000000)(h1:l.length≤1000000)(h:∀ k,k<t.segs.length→(t.segs.getD k default).next.length≤1000000):Ret Tryz.prog 23 [trkV t,isV l] (·=.bool (W.routeMay t l)):=by
 by_cases c0:l.length<1∨400<l.length
 ·rw [W.routeMay_no c0]
  refine enterO tabOk (N:=51) (gs:=[]) (args:=[_,_]) Tryz.func23 rfl rfl rfl (nLe rfl) (fun E hE=>?_)
  conv=>whnf
  repeat' (first|((first|refine Br.pt (by assumption) ?_|refine Br.pf (by assumption) ?_|refine Br.pt (by omega) ?_|refine Br.ot rfl ?_|refine FinAt.val rfl ?_);conv=>whnf)|((refine Br.d (fun h=>?_) (fun h=>?_))<;>conv=>whnf))
  all_goals first|rfl|omega
 rw [W.routeMay_eq (by omega)]
 refine enterO tabOk (N:=51) (gs:=[]) (args:=[_,_]) Tryz.func23 rfl rfl rfl (nLe rfl) (fun E hE=>?_)
 conv=>whnf
 repeat' ((refine Br.pf (by omega) ?_);conv=>whnf)
 all_goals try omega
 refine LoopAt.rule tabOk [(1,_),(2,_)] (fun (i:Nat)=>[(5,.int .i64 (i:Int))]) (fun (i:Nat)=>[.blk [sgsV t.segs,gpsV t.grps]]) (fun (i:Nat)=>i≤l.length∧∀ j,j<i→W.routeAt t l j=true) (fun (i:Nat)=>l.length-i) 0 (by trivial) ⟨Nat.zero_le _,fun j hj=>absurd hj (by omega)⟩ (by trivial) (by trivial) (fun _=>⟨rfl,rfl,rfl,by simp [hE]⟩) (fun i hk=>?_)
 obtain⟨hk,hno⟩:=hk
 by_cases hlt:i<l.length
 ·have no:W.routeAt t l i=false→AV.bool false=.bool (W.allB (W.routeAt t l) l.length):=fun hf=>by rw [W.allB_no hlt hf]
  by_cases c1:l.getD i 0<0∨(t.segs.length:Int)≤l.getD i 0
  ·have hf:=no (W.routeAt_no rfl c1)
   conv=>whnf
   repeat' (first|((first|refine Br.pt (by assumption) ?_|refine Br.pf (by assumption) ?_|refine Br.pt (by omega) ?_|refine Br.ot rfl ?_|refine Ob.mk (by omega) ?_|refine Drw.loose (by kernel_rfl) ?_|refine Ix.nat _ ?_|refine FinAt.val rfl ?_);conv=>whnf)|((refine Br.d (fun h=>?_) (fun h=>?_))<;>conv=>whnf))
   all_goals first|exact hf|omega
  by_cases c2:i=0
  ·subst c2
   have hy:=W.routeAt_zero (t:=t) (l:=l) (x:=l.getD 0 0) rfl (by omega) rfl
   conv=>whnf
   repeat' ((first|refine Br.pt (by omega) ?_|refine Br.pf (by omega) ?_|refine Br.of rfl ?_|refine Ob.mk (by omega) ?_|refine Ob.mk (by unfold W.I64 at *;omega) ?_|refine Drw.loose (by kernel_rfl) ?_|refine Ix.of 0 rfl ?_);conv=>whnf)
   all_goals first
    |omega
    |exact⟨1,⟨hlt,W.all_step hno hy⟩,by omega,(by trivial),(by trivial),(by trivial)⟩
  ·obtain⟨m,rfl⟩:∃ m,i=m+1:=⟨i-1,by omega⟩
   have eF:Ret Tryz.prog 37 [trkV t,I (l.getD (((m+1:Nat):Int)-1).toNat 0),I (l.getD (m+1) 0)] (·=.bool (W.follows t (l.getD m 0) (l.getD (m+1) 0))):=by
    rw [show (((m+1:Nat):Int)-1).toNat=m by omega]
    exact yFollows t (l.getD m 0) (l.getD (m+1) 0) h
   cases hF:W.follows t (l.getD m 0) (l.getD (m+1) 0) with
   |false =>
    rw [hF] at eF
    have hf:=no (W.routeAt_succ (x:=l.getD (m+1) 0) rfl (by omega) rfl rfl hF)
    conv=>whnf
    repeat' ((first|refine Br.nt (by assumption) ?_|refine Br.pt (by omega) ?_|refine Br.pf (by omega) ?_|refine CallX.pu (eF) rfl rfl ?_|refine Ob.mk (by omega) ?_|refine Ob.mk (by unfold W.I64 at *;omega) ?_|refine Drw.loose (by kernel_rfl) ?_|refine Ix.nat _ ?_|refine Ix.tn (by omega) ?_|refine FinAt.val rfl ?_);conv=>whnf)
    all_goals first|exact hf|omega
   |true =>
    rw [hF] at eF
    have hy:=W.routeAt_succ (t:=t) (l:=l) (x:=l.getD (m+1) 0) rfl (by omega) rfl rfl hF
    conv=>whnf
    repeat' ((first|refine Br.pf (by assumption) ?_|refine Br.pt (by omega) ?_|refine Br.pf (by omega) ?_|refine CallX.pu (eF) rfl rfl ?_|refine Ob.mk (by omega) ?_|refine Ob.mk (by unfold W.I64 at *;omega) ?_|refine Drw.loose (by kernel_rfl) ?_|refine Ix.nat _ ?_|refine Ix.tn (by omega) ?_);conv=>whnf)
    all_goals first
     |omega
     |exact⟨m+2,⟨hlt,W.all_step hno hy⟩,by omega,(by trivial),(by trivial),(by trivial)⟩
 ·obtain rfl:i=l.length:=by omega
  rw [W.allB_yes hno]
  conv=>whnf
  repeat' ((first|refine Br.pf (by omega) ?_|refine FinAt.val rfl ?_);conv=>whnf)
  all_goals rfl
theorem ySpeeds(c:W.Conf)(s:W.Script)(hb:ScrB s)(h0:s.ticks.length≤1000000)(m0:0≤c.maxSpeed)(m1:c.maxSpeed≤16777216)(a0:0≤c.maxAccel)(a1:c.maxAccel≤1048576):Ret Tryz.prog 25 [confV c,scrV s] (·=.bool (W.speedsMay c s)):=by
 have e0:=yFar s.v0 c.maxSpeed (by omega) (by omega)
 cases hv:W.far s.v0 c.maxSpeed with
 |true =>
  rw [hv] at e0
  rw [W.speedsMay_v0 hv]
  refine enterO tabOk (N:=40) (gs:=[]) (args:=[_,_]) Tryz.func25 rfl rfl rfl (nLe rfl) (fun E hE=>?_)
  conv=>whnf
  repeat' ((first|refine Br.ot rfl ?_|refine CallS.q (e0) rfl ?_|refine FinAt.val rfl ?_);conv=>whnf)
  all_goals rfl
 |false =>
  rw [hv] at e0
  rw [W.speedsMay_eq hv]
  have hv':=(W.far_iffn _ _).1 hv
  refine enterO tabOk (N:=40) (gs:=[]) (args:=[_,_]) Tryz.func25 rfl rfl rfl (nLe rfl) (fun E hE=>?_)
  conv=>whnf
  repeat' ((first|refine Br.of rfl ?_|refine CallS.q (e0) rfl ?_);conv=>whnf)
  refine LoopAt.rule tabOk [(2,_),(3,_)] (fun (i:Nat)=>[(5,.int .i64 (s.ahead i)),(6,.int .i64 (i:Int))]) (fun (i:Nat)=>[.blk (confC c),.blk (scrC s)]) (fun (i:Nat)=>i≤s.ticks.length∧(∀ j,j<i→W.speedAt c s j=true)∧-c.maxSpeed≤s.ahead i∧s.ahead i≤c.maxSpeed) (fun (i:Nat)=>s.ticks.length-i) 0 (by trivial) ⟨Nat.zero_le _,fun j hj=>absurd hj (by omega),hv'.1,hv'.2⟩ (by trivial) (by trivial) (fun _=>⟨rfl,rfl,rfl,by simp [hE]⟩) (fun i hk=>?_)
  obtain⟨hk,hno,ha,hb'⟩:=hk
  by_cases hlt:i<s.ticks.length
  ·have es:W.speedAt c s i=(!W.far (s.ticks.getD i default).v c.maxSpeed && !W.far ((s.ticks.getD i default).v-s.ahead i) c.maxAccel):=rfl
   have no:W.speedAt c s i=false→AV.bool false=.bool (W.allB (W.speedAt c s) s.ticks.length):=fun hf=>by rw [W.allB_no hlt hf]
   have e1:=yFar (s.ticks.getD i default).v c.maxSpeed (by omega) (by omega)
   have e2:=yFar ((s.ticks.getD i default).v-s.ahead i) c.maxAccel (by omega) (by omega)
   cases h1:W.far (s.ticks.getD i default).v c.maxSpeed with
   |true =>
    rw [h1] at e1
    have hn:=no (by rw [es,h1];rfl)
    conv=>whnf
    repeat' ((first|refine Br.pt (by omega) ?_|refine Br.ot rfl ?_|refine CallS.q (e1) rfl ?_|refine Ob.mk (by omega) ?_|refine Ix.nat _ ?_|refine FinAt.val rfl ?_);conv=>whnf)
    all_goals exact hn
   |false =>
    rw [h1] at e1
    have h1':=(W.far_iffn _ _).1 h1
    cases h2:W.far ((s.ticks.getD i default).v-s.ahead i) c.maxAccel with
    |true =>
     rw [h2] at e2
     have hn:=no (by rw [es,h1,h2];rfl)
     conv=>whnf
     repeat' ((first|refine Br.pt (by omega) ?_|refine Br.ot rfl ?_|refine Br.of rfl ?_|refine CallS.q (e1) rfl ?_|refine CallS.q (e2) rfl ?_|refine Ob.mk (by omega) ?_|refine Ob.mk (by unfold W.I64 at *;omega) ?_|refine Ix.nat _ ?_|refine FinAt.val rfl ?_);conv=>whnf)
     all_goals exact hn
    |false =>
     rw [h2] at e2
     have hy:W.speedAt c s i=true:=by rw [es,h1,h2];rfl
     conv=>whnf
     repeat' ((first|refine Br.pt (by omega) ?_|refine Br.of rfl ?_|refine CallS.q (e1) rfl ?_|refine CallS.q (e2) rfl ?_|refine Ob.mk (by omega) ?_|refine Ob.mk (by unfold W.I64 at *;omega) ?_|refine Ix.nat _ ?_);conv=>whnf)
     all_goals exact⟨i+1,⟨hlt,W.all_step hno hy,h1'.1,h1'.2⟩,by omega,(by trivial),(by trivial),(by trivial)⟩
  ·obtain rfl:i=s.ticks.length:=by omega
   rw [W.allB_yes hno]
   conv=>whnf
   repeat' ((first|refine Br.pf (by omega) ?_|refine FinAt.val rfl ?_);conv=>whnf)
   all_goals rfl
theorem yOn(t:W.Trk)(s:W.Script)(hb:ScrB s)(h0:s.route.length≤400)(h1:s.ticks.length≤1000000)(hlen:W.LensOk t)(hin:W.InOk t s.route):Ret Tryz.prog 24 [trkV t,scrV s] (·=.bool (W.onMay t s)):=by
 have eS:=yStart t s.route s.route.length (by omega) (by omega) (by omega) hlen hin
 rw [show ((s.route.length:Nat):Int).toNat=s.route.length by omega] at eS
 have bd:=W.startOf_bd hlen hin s.route.length (Nat.le_refl _)
 generalize he:W.startOf t s.route s.route.length=e at *
 by_cases c0:s.ticks.length≤4096∧0≤s.start∧s.start≤e
 ·rw [W.onMay_eq he.symm c0]
  refine enterO tabOk (N:=60) (gs:=[]) (args:=[_,_]) Tryz.func24 rfl rfl rfl (nLe rfl) (fun E hE=>?_)
  conv=>whnf
  repeat' ((first|refine Br.pf (by omega) ?_|refine CallS.q (eS) rfl ?_);conv=>whnf)
  all_goals try omega
  refine LoopAt.rule tabOk [(2,_),(3,_),(5,_)] (fun (i:Nat)=>[(6,.int .i64 (s.place i)),(7,.int .i64 (i:Int))]) (fun (i:Nat)=>[.blk [sgsV t.segs,gpsV t.grps],.blk (scrC s)]) (fun (i:Nat)=>i≤s.ticks.length∧(∀ j,j<i→W.onAt s e j=true)∧0≤s.place i∧s.place i≤e) (fun (i:Nat)=>s.ticks.length-i) 0 (by trivial) ⟨Nat.zero_le _,fun j hj=>absurd hj (by omega),c0.2.1,c0.2.2⟩ (by trivial) (by trivial) (fun _=>⟨rfl,rfl,rfl,by simp [hE]⟩) (fun i hk=>?_)
  obtain⟨hk,hno,ha,hb'⟩:=hk
  by_cases hlt:i<s.ticks.length
  ·have no:W.onAt s e i=false→AV.bool false=.bool (W.allB (W.onAt s e) s.ticks.length):=fun hf=>by rw [W.allB_no hlt hf]
   have e1:=yFar (s.ticks.getD i default).v e (by omega) (by omega)
   cases h2:W.far (s.ticks.getD i default).v e with
   |true =>
    rw [h2] at e1
    have hn:=no (W.onAt_far rfl h2)
    conv=>whnf
    repeat' ((first|refine Br.pt (by omega) ?_|refine Br.ot rfl ?_|refine CallS.q (e1) rfl ?_|refine Ob.mk (by omega) ?_|refine Ix.nat _ ?_|refine FinAt.val rfl ?_);conv=>whnf)
    all_goals exact hn
   |false =>
    rw [h2] at e1
    have h2':=(W.far_iffn _ _).1 h2
    by_cases c1:0≤s.place i+(s.ticks.getD i default).v∧s.place i+(s.ticks.getD i default).v≤e
    ·have hy:W.onAt s e i=true:=W.onAt_eq rfl h2 rfl (decide_eq_true c1).symm
     conv=>whnf
     repeat' ((first|refine Br.pt (by omega) ?_|refine Br.pf (by omega) ?_|refine Br.of rfl ?_|refine CallS.q (e1) rfl ?_|refine Ob.mk (by omega) ?_|refine Ob.mk (by unfold W.I64 at *;omega) ?_|refine Ix.nat _ ?_);conv=>whnf)
     all_goals first
      |omega
      |exact⟨i+1,⟨hlt,W.all_step hno hy,c1.1,c1.2⟩,by omega,(by trivial),(by trivial),(by trivial)⟩
    ·have hn:=no (W.onAt_eq rfl h2 rfl (decide_eq_false c1).symm)
     conv=>whnf
     repeat' (first|((first|refine Br.pt (by assumption) ?_|refine Br.pf (by assumption) ?_|refine Br.pt (by omega) ?_|refine Br.ot rfl ?_|refine Br.of rfl ?_|refine CallS.q (e1) rfl ?_|refine Ob.mk (by omega) ?_|refine Ob.mk (by unfold W.I64 at *;omega) ?_|refine Ix.nat _ ?_|refine FinAt.val rfl ?_);conv=>whnf)|((refine Br.d (fun h=>?_) (fun h=>?_))<;>conv=>whnf))
     all_goals first
      |exact hn
      |omega
  ·obtain rfl:i=s.ticks.length:=by omega
   rw [W.allB_yes hno]
   conv=>whnf
   repeat' ((first|refine Br.pf (by omega) ?_|refine FinAt.val rfl ?_);conv=>whnf)
   all_goals rfl
 ·rw [W.onMay_no he.symm c0]
  refine enterO tabOk (N:=60) (gs:=[]) (args:=[_,_]) Tryz.func24 rfl rfl rfl (nLe rfl) (fun E hE=>?_)
  conv=>whnf
  repeat' (first|((first|refine Br.pt (by assumption) ?_|refine Br.pf (by assumption) ?_|refine Br.pt (by omega) ?_|refine Br.ot rfl ?_|refine CallS.q (eS) rfl ?_|refine FinAt.val rfl ?_);conv=>whnf)|((refine Br.d (fun h=>?_) (fun h=>?_))<;>conv=>whnf))
  all_goals first|rfl|omega
theorem yNumbers(c:W.Conf)(s:W.Script)(hb:ScrB s)(h0:s.ticks.length≤1000000)(a0:0≤c.accErr)(a1:c.accErr≤1048576):Ret Tryz.prog 26 [confV c,scrV s] (·=I (W.numbersMay c s)):=by
 by_cases c1:c.circLo≤s.circ0∧s.circ0≤c.circHi∧0≤s.phase0∧s.phase0<s.circ0
 rotate_left
 ·rw [W.numbersMay_5 (k:=0) (by omega) (decide_eq_false c1)]
  refine enterO tabOk (N:=80) (gs:=[]) (args:=[_,_]) Tryz.func26 rfl rfl rfl (nLe rfl) (fun E hE=>?_)
  conv=>whnf
  repeat' (first|((first|refine LoopAt.few tabOk 3 ?_|refine Br.pt (by assumption) ?_|refine Br.pf (by assumption) ?_|refine Br.pt (by omega) ?_|refine Br.ot rfl ?_|refine Ob.mk (by omega) ?_|refine Drw.loose (by kernel_rfl) ?_|refine Ix.of 0 rfl ?_|refine Pc.lit ?_|refine FinAt.val rfl ?_);conv=>whnf)|((refine Br.d (fun h=>?_) (fun h=>?_))<;>conv=>whnf))
  all_goals first|rfl|omega
 by_cases c2:c.circLo≤s.circ1∧s.circ1≤c.circHi∧0≤s.phase1∧s.phase1<s.circ1
 rotate_left
 ·rw [W.numbersMay_5 (k:=1) (by omega) (decide_eq_false c2)]
  refine enterO tabOk (N:=80) (gs:=[]) (args:=[_,_]) Tryz.func26 rfl rfl rfl (nLe rfl) (fun E hE=>?_)
  conv=>whnf
  repeat' (first|((first|refine LoopAt.few tabOk 3 ?_|refine Br.pt (by assumption) ?_|refine Br.pf (by assumption) ?_|refine Br.pt (by omega) ?_|refine Br.pf (by omega) ?_|refine Br.ot rfl ?_|refine Ob.mk (by omega) ?_|refine Ob.mk (by unfold W.I64 at *;omega) ?_|refine Drw.loose (by kernel_rfl) ?_|refine Ix.of 0 rfl ?_|refine Ix.of 1 rfl ?_|refine Pc.lit ?_|refine FinAt.val rfl ?_);conv=>whnf)|((refine Br.d (fun h=>?_) (fun h=>?_))<;>conv=>whnf))
  all_goals first|rfl|omega
 rw [W.numbersMay_eq (fun j hj=>by
  obtain rfl|rfl:j=0∨j=1:=by omega
  ·exact decide_eq_true c1
  ·exact decide_eq_true c2)]
 refine enterO tabOk (N:=80) (gs:=[]) (args:=[_,_]) Tryz.func26 rfl rfl rfl (nLe rfl) (fun E hE=>?_)
 conv=>whnf
 refine LoopAt.rule tabOk [(2,_),(3,_)] (fun (i:Nat)=>[(5,.int .i64 (i:Int))]) (fun (i:Nat)=>[.blk (confC c),.blk (scrC s)]) (fun (i:Nat)=>i≤2) (fun (i:Nat)=>2-i) 0 (by trivial) (Nat.zero_le _) (by trivial) (by trivial) (fun _=>⟨rfl,rfl,rfl,by simp [hE]⟩) (fun i hk=>?_)
 obtain rfl|rfl|rfl:i=0∨i=1∨i=2:=by omega
 ·conv=>whnf
  repeat' ((first|refine Br.pt (by omega) ?_|refine Br.pf (by omega) ?_|refine Ob.mk (by omega) ?_|refine Ob.mk (by unfold W.I64 at *;omega) ?_|refine Drw.loose (by kernel_rfl) ?_|refine Ix.of 0 rfl ?_|refine Pc.lit ?_);conv=>whnf)
  all_goals first
   |omega
   |exact⟨1,by omega,by omega,(by trivial),(by trivial),(by trivial)⟩
 ·conv=>whnf
  repeat' ((first|refine Br.pt (by omega) ?_|refine Br.pf (by omega) ?_|refine Ob.mk (by omega) ?_|refine Ob.mk (by unfold W.I64 at *;omega) ?_|refine Drw.loose (by kernel_rfl) ?_|refine Ix.of 1 rfl ?_|refine Pc.lit ?_);conv=>whnf)
  all_goals first
   |omega
   |exact⟨2,by omega,by omega,(by trivial),(by trivial),(by trivial)⟩
 ·conv=>whnf
  repeat' ((refine Br.nf (by assumption) ?_);conv=>whnf)
  refine LoopAt.rule tabOk [(2,_),(3,_)] (fun (i:Nat)=>[(6,.int .i64 (i:Int))]) (fun (i:Nat)=>[.blk (confC c),.blk (scrC s)]) (fun (i:Nat)=>i≤s.ticks.length∧(∀ j,j<i→W.tickMay c (s.tick j)=true)) (fun (i:Nat)=>s.ticks.length-i) 0 (by trivial) ⟨Nat.zero_le _,fun j hj=>absurd hj (by omega)⟩ (by trivial) (by trivial) (fun _=>⟨rfl,rfl,rfl,by simp [hE]⟩) (fun i hk=>?_)
  obtain⟨hk,hno⟩:=hk
  by_cases hlt:i<s.ticks.length
  ·have es:W.tickMay c (s.tick i)=(!W.far (s.ticks.getD i default).slip0 1099511627776 && !W.far (s.ticks.getD i default).slip1 1099511627776 && !W.far (s.ticks.getD i default).rad 1073741824 && !W.far (s.ticks.getD i default).acc c.accErr):=rfl
   have no:W.tickMay c (s.tick i)=false→I 6=I (if W.allB (fun i=>W.tickMay c (s.tick i)) s.ticks.length then 0 else 6):=fun hf=>by rw [W.allB_no hlt hf];rfl
   have e1:=yFar (s.ticks.getD i default).slip0 1099511627776 (by omega) (by omega)
   have e2:=yFar (s.ticks.getD i default).slip1 1099511627776 (by omega) (by omega)
   have e3:=yFar (s.ticks.getD i default).rad 1073741824 (by omega) (by omega)
   have e4:=yFar (s.ticks.getD i default).acc c.accErr (by omega) (by omega)
   rw [es] at no
   cases h1:W.far (s.ticks.getD i default).slip0 1099511627776<;>cases h2:W.far (s.ticks.getD i default).slip1 1099511627776<;>cases h3:W.far (s.ticks.getD i default).rad 1073741824<;>cases h4:W.far (s.ticks.getD i default).acc c.accErr
   all_goals
    rw [h1,h2,h3,h4] at no es
    rw [h1] at e1
    rw [h2] at e2
    rw [h3] at e3
    rw [h4] at e4
    conv=>whnf
    repeat' ((first|refine Br.pt (by omega) ?_|refine Br.ot rfl ?_|refine Br.of rfl ?_|refine CallS.q (e1) rfl ?_|refine CallS.q (e2) rfl ?_|refine CallS.q (e3) rfl ?_|refine CallS.q (e4) rfl ?_|refine Ob.mk (by omega) ?_|refine Ob.mk (by unfold W.I64 at *;omega) ?_|refine Ix.of 0 rfl ?_|refine Ix.of 1 rfl ?_|refine Ix.nat _ ?_|refine Pc.lit ?_|refine FinAt.val rfl ?_);conv=>whnf)
    all_goals first
     |exact no rfl
     |exact⟨i+1,⟨hlt,W.all_step hno es⟩,by omega,(by trivial),(by trivial),(by trivial)⟩
  ·obtain rfl:i=s.ticks.length:=by omega
   rw [W.allB_yes hno]
   conv=>whnf
   repeat' ((first|refine Br.pf (by omega) ?_|refine FinAt.val rfl ?_);conv=>whnf)
   all_goals rfl
theorem yCount(s:W.Script)(p i:Int)(j:Nat)(hj:j≤1)(p0:1≤p)(p1:p≤1024)(hn:0≤i)(hnl:i≤s.ticks.length)(hl4:s.ticks.length≤4100)(hv:W.NumOk s i.toNat):Ret Tryz.prog 63 [scrV s,I p,I j,I i] (·=I (s.count p j i.toNat)):=by
 obtain⟨n,rfl⟩:=Int.eq_ofNat_of_zero_le hn
 have hv:W.NumOk s n:=hv
 have bd:=W.turned_bd hv p0 p1 j
 have c0:=hv.circ0
 have c1:=hv.circ1
 show Ret _ _ _ (·=I (s.count p j n))
 have bn:=bd n (Nat.le_refl _)
 have eD0:=yDown (s.turned p j n) s.circ0 (by omega) (by omega) (by omega) (by omega)
 have eD1:=yDown (s.turned p j n) s.circ1 (by omega) (by omega) (by omega) (by omega)
 obtain rfl|rfl:j=0∨j=1:=by omega
 ·refine enterO tabOk (N:=45) (gs:=[]) (args:=[_,_,_,_]) Tryz.func63 rfl rfl rfl (nLe rfl) (fun E hE=>?_)
  conv=>whnf
  repeat' ((first|refine Ob.mk (by omega) ?_|refine Ix.of 0 rfl ?_|refine Pc.lit ?_);conv=>whnf)
  refine LoopAt.rule tabOk [(1,_),(2,_),(3,_),(4,_),(8,_)] (fun (i:Nat)=>[(9,.int .i64 (s.turned p 0 i)),(10,.int .i64 (i:Int))]) (fun (i:Nat)=>[.blk (scrC s)]) (fun (i:Nat)=>i≤n) (fun (i:Nat)=>n-i) 0 (by trivial) (Nat.zero_le _) (by trivial) (by trivial) (fun _=>⟨rfl,rfl,rfl,by simp [hE]⟩) (fun i hk=>?_)
  by_cases hlt:i<n
  ·have h1:=bd i (by omega)
   have h2:-16777216≤(s.ticks.getD i default).v∧(s.ticks.getD i default).v≤16777216:=hv.v i hlt
   have h3:-1099511627776≤(s.ticks.getD i default).slip0∧(s.ticks.getD i default).slip0≤1099511627776:=hv.slip0 i hlt
   have h4:-1099511627776≤(s.ticks.getD i default).slip1∧(s.ticks.getD i default).slip1≤1099511627776:=hv.slip1 i hlt
   have h5:=W.mul_bd (a:=p) (b:=(s.ticks.getD i default).v) (A:=1024) (B:=16777216) (by omega) (by omega) (by omega) (by omega)
   conv=>whnf
   repeat' ((first|refine Br.pt (by omega) ?_|refine Ob.mk (by omega) ?_|refine Ob.mk (by unfold W.I64 at *;omega) ?_|refine Drw.loose (by kernel_rfl) ?_|refine Ix.of 0 rfl ?_|refine Ix.nat _ ?_);conv=>whnf)
   all_goals exact⟨i+1,hlt,by omega,(by trivial),(by trivial),(by trivial)⟩
  ·obtain rfl:i=n:=by omega
   conv=>whnf
   repeat' ((first|refine Br.pf (by omega) ?_|refine CallS.q (eD0) rfl ?_|refine Ob.mk (by omega) ?_|refine Ix.of 0 rfl ?_|refine Pc.lit ?_|refine FinAt.val rfl ?_);conv=>whnf)
   all_goals rfl
 ·refine enterO tabOk (N:=45) (gs:=[]) (args:=[_,_,_,_]) Tryz.func63 rfl rfl rfl (nLe rfl) (fun E hE=>?_)
  conv=>whnf
  repeat' ((first|refine Ob.mk (by omega) ?_|refine Ix.of 1 rfl ?_|refine Pc.lit ?_);conv=>whnf)
  refine LoopAt.rule tabOk [(1,_),(2,_),(3,_),(4,_),(8,_)] (fun (i:Nat)=>[(9,.int .i64 (s.turned p 1 i)),(10,.int .i64 (i:Int))]) (fun (i:Nat)=>[.blk (scrC s)]) (fun (i:Nat)=>i≤n) (fun (i:Nat)=>n-i) 0 (by trivial) (Nat.zero_le _) (by trivial) (by trivial) (fun _=>⟨rfl,rfl,rfl,by simp [hE]⟩) (fun i hk=>?_)
  by_cases hlt:i<n
  ·have h1:=bd i (by omega)
   have h2:-16777216≤(s.ticks.getD i default).v∧(s.ticks.getD i default).v≤16777216:=hv.v i hlt
   have h3:-1099511627776≤(s.ticks.getD i default).slip0∧(s.ticks.getD i default).slip0≤1099511627776:=hv.slip0 i hlt
   have h4:-1099511627776≤(s.ticks.getD i default).slip1∧(s.ticks.getD i default).slip1≤1099511627776:=hv.slip1 i hlt
   have h5:=W.mul_bd (a:=p) (b:=(s.ticks.getD i default).v) (A:=1024) (B:=16777216) (by omega) (by omega) (by omega) (by omega)
   conv=>whnf
   repeat' ((first|refine Br.pt (by omega) ?_|refine Ob.mk (by omega) ?_|refine Ob.mk (by unfold W.I64 at *;omega) ?_|refine Drw.loose (by kernel_rfl) ?_|refine Ix.of 1 rfl ?_|refine Ix.nat _ ?_);conv=>whnf)
   all_goals exact⟨i+1,hlt,by omega,(by trivial),(by trivial),(by trivial)⟩
  ·obtain rfl:i=n:=by omega
   conv=>whnf
   repeat' ((first|refine Br.pf (by omega) ?_|refine CallS.q (eD1) rfl ?_|refine Ob.mk (by omega) ?_|refine Ix.of 1 rfl ?_|refine Pc.lit ?_|refine FinAt.val rfl ?_);conv=>whnf)
   all_goals rfl
theorem yCount0(s:W.Script)(p i:Int)(hb:ScrB s)(p0:1≤p)(p1:p≤1024)(hn:0≤i)(hnl:i≤s.ticks.length)(hl4:s.ticks.length≤4100)(hv:W.NumOk s i.toNat):Ret Tryz.prog 63 [scrV s,I p,I 0,I i] (·=I (s.count p 0 i.toNat)):=yCount s p i 0 (Nat.zero_le _) p0 p1 hn hnl hl4 hv
theorem yCount1(s:W.Script)(p i:Int)(hb:ScrB s)(p0:1≤p)(p1:p≤1024)(hn:0≤i)(hnl:i≤s.ticks.length)(hl4:s.ticks.length≤4100)(hv:W.NumOk s i.toNat):Ret Tryz.prog 63 [scrV s,I p,I 1,I i] (·=I (s.count p 1 i.toNat)):=yCount s p i 1 (Nat.le_refl _) p0 p1 hn hnl hl4 hv
theorem firstI_neg{p:Nat→Bool}{n:Nat}(h:¬ 0≤W.firstI p n):∀ j,j<n→p j=false:=fun j hj=>by
 unfold W.firstI at h
 cases e:(List.range n).find? p with
 |some i=>rw [e] at h;exact absurd (Int.natCast_nonneg i) h
 |none =>
  have:=List.find?_eq_none.1 e j (List.mem_range.2 hj)
  simpa using this
structure RChk(t:W.Trk):Prop where
 n:1≤t.segs.length∧t.segs.length≤200
 g:t.grps.length≤400
 sg:∀ i,i<t.segs.length→W.segMay (t.sg i) t.segs.length=true
 gp:∀ i,i<t.grps.length→W.grpMay t i=true
theorem RChk.of{t:W.Trk}(h:t.checkR.1=0):RChk t:=by
 unfold W.Trk.checkR at h
 split at h
 ·cases h
 ·next h1 =>
  split at h
  ·cases h
  ·next h2 =>
   split at h
   ·cases h
   ·next h3 =>
    refine⟨by omega,by omega,fun i hi=>?_,fun i hi=>?_⟩
    ·have:=firstI_neg h2 i hi
     simpa using this
    ·have:=firstI_neg h3 i hi
     simpa using this
theorem may_pieces{l:List W.Piece}{n:Int}(h:W.may l n=true):W.piecesOk l n=true:=by
 unfold W.may at h
 simp only [Bool.and_eq_true,decide_eq_true_eq] at h
 obtain⟨⟨h1,h2,h3⟩,h4⟩:=h
 unfold W.piecesOk
 simp only [Bool.and_eq_true,decide_eq_true_eq,List.all_eq_true,List.mem_range]
 refine⟨⟨by omega,h2,h3⟩,fun i hi=>?_⟩
 have:=W.allB_at h4 i hi
 unfold W.mayAt W.pieceAt at this
 simp only [decide_eq_true_eq] at this
 exact⟨this.1,this.2.1,this.2.2.1,fun h0=>this.2.2.2.resolve_left (by omega)⟩
theorem seg_ok{s:W.Seg}{n:Nat}(h:W.segMay s n=true):W.segOk n s=true:=by
 unfold W.segMay at h
 simp only [Bool.and_eq_true,decide_eq_true_eq] at h
 obtain⟨⟨⟨⟨h1,h2⟩,h3⟩,h4⟩,h5⟩:=h
 unfold W.segOk
 simp only [Bool.and_eq_true,decide_eq_true_eq,List.all_eq_true,List.mem_range]
 refine⟨⟨⟨h1,may_pieces h2⟩,h3⟩,fun i hi=>?_⟩
 have:=W.allB_at h4 i hi
 unfold W.nextAt at this
 simp only [decide_eq_true_eq] at this
 refine⟨this.1,this.2,fun h0=>?_⟩
 obtain rfl:i=1:=by omega
 exact h5.resolve_left (by omega)
theorem RChk.gr{t:W.Trk}(h:RChk t){i:Nat}(hi:i<t.grps.length):(W.lastId t i<(t.gp i).id∧(t.gp i).id≤65535∧0≤(t.gp i).seg∧(t.gp i).seg<t.segs.length∧0≤(t.gp i).offset∧(t.gp i).offset≤t.len (t.gp i).seg∧0≤(t.gp i).acc∧(t.gp i).acc≤1048576∧0≤(t.gp i).slack∧(t.gp i).slack≤16777216):=by
 have:=h.gp i hi
 unfold W.grpMay at this
 simpa only [decide_eq_true_eq] using this
theorem RChk.last{t:W.Trk}(h:RChk t):∀ i,i≤t.grps.length→0≤W.lastId t i
 |0,_=>Int.le_refl _
 |i+1,hi=>by
  have h1:=RChk.last h i (by omega)
  have h2:=(h.gr (i:=i) (by omega)).1
  show 0≤(t.gp i).id
  omega
theorem RChk.ok{t:W.Trk}(h:RChk t):TrkOk t:=by
 refine⟨h.n,h.g,fun i hi=>seg_ok (h.sg i hi),fun i hi=>?_⟩
 obtain⟨h1,h2,h3,h4,h5,h6,h7,h8,h9,h10⟩:=h.gr hi
 have hl:=h.last i (by omega)
 unfold W.grpOk
 simp only [Bool.and_eq_true,decide_eq_true_eq]
 have e:t.gp i=t.grps.getD i default:=rfl
 rw [e] at h1 h2 h3 h4 h5 h6 h7 h8 h9 h10
 refine⟨⟨by omega,h2,fun h0=>?_,h3,h4⟩,h5,h6,h7,h8,h9,h10⟩
 obtain⟨j,rfl⟩:∃ j,i=j+1:=⟨i-1,by omega⟩
 exact h1
theorem RChk.check{t:W.Trk}(h:RChk t):t.check.1=0:=by rw [h.ok.check]
theorem RChk.img{t:W.Trk}(h:RChk t):ImgOk t:=by
 have hok:=h.ok
 have hn:=h.n
 refine⟨fun s hs=>?_,fun g hg=>?_,by omega,h.g⟩
 ·obtain⟨i,hi,e⟩:=List.getElem_of_mem hs
  have hsi:=h.sg i hi
  have es:t.sg i=s:=by show t.segs.getD i default=s;simp [List.getD,hi,e]
  rw [es] at hsi
  unfold W.segMay at hsi
  simp only [Bool.and_eq_true,decide_eq_true_eq] at hsi
  obtain⟨⟨⟨⟨h1,h2⟩,h3⟩,h4⟩,h5⟩:=hsi
  unfold W.may at h2
  simp only [Bool.and_eq_true,decide_eq_true_eq] at h2
  obtain⟨⟨m1,m2,m3⟩,m4⟩:=h2
  refine⟨by omega,fun p hp=>?_,m2,fun x hx=>?_,h3⟩
  ·obtain⟨k,hk,ek⟩:=List.getElem_of_mem hp
   have hm:=W.allB_at m4 k hk
   have ep:W.pieceAt s.pieces k=p:=by show s.pieces.getD k default=p;simp [List.getD,hk,ek]
   unfold W.mayAt at hm
   simp only [decide_eq_true_eq] at hm
   rw [ep] at hm
   have h0:∀ j,j<s.pieces.length→0≤(W.pieceAt s.pieces j).from_:=fun j=>by
    induction j with
    |zero=>intro _;omega
    |succ j ih =>
     intro hj
     have h1:=ih (by omega)
     have h2:=W.allB_at m4 (j+1) hj
     unfold W.mayAt at h2
     simp only [decide_eq_true_eq] at h2
     have h3:=h2.2.2.2.resolve_left (by omega)
     rw [show j+1-1=j by omega] at h3
     omega
   have hp0:=h0 k hk
   rw [ep] at hp0
   exact⟨hp0,by omega,by omega,by omega⟩
  ·obtain⟨k,hk,ek⟩:=List.getElem_of_mem hx
   have hm:=W.allB_at h4 k hk
   unfold W.nextAt at hm
   simp only [decide_eq_true_eq] at hm
   have ep:s.next.getD k 0=x:=by simp [List.getD,hk,ek]
   rw [ep] at hm
   omega
 ·obtain⟨i,hi,e⟩:=List.getElem_of_mem hg
  have hgi:=h.gr hi
  have eg:t.gp i=g:=by show t.grps.getD i default=g;simp [List.getD,hi,e]
  have hl:=h.last i (by omega)
  have hlen:=hok.len (t.gp i).seg.toNat (by omega)
  have e2:t.len (t.gp i).seg=(t.segs.getD (t.gp i).seg.toNat default).length:=rfl
  rw [eg] at hgi hlen e2
  exact⟨by omega,by omega,by omega,by omega,by omega⟩
theorem RChk.trkI{t:W.Trk}(h:RChk t):TrkI t:=by
 have hn:=h.n
 have hg:=h.g
 refine⟨fun k hk=>?_,by omega,by omega⟩
 have hs:=h.img.sg (t.segs.getD k default) (by simp [List.getD,hk])
 have h1:=hs.len
 have h2:=hs.pn
 have h3:=hs.nn
 exact⟨by unfold W.I64;omega,by omega,by omega⟩
theorem wrongR_ok{c:W.Conf}(h:c.wrongR=0):c.wrong=0:=by
 unfold W.Conf.wrongR at h
 unfold W.Conf.wrong W.within
 repeat (split at h;· cases h)
 repeat (first|rw [if_neg (by omega)]|(exact if_pos rfl))
theorem yFits(c:W.Conf)(t:W.Trk)(h:t.segs.length≤1000000)(h2:t.grps.length≤1000000):Ret Tryz.prog 22 [confV c,trkV t] (·=.tup [I (W.fitsR c t).1,I (W.fitsR c t).2]):=by
 have hw:=yWrong13 c
 have hk:=yCheck11 t h h2
 unfold W.fitsR
 refine enterO tabOk (N:=60) (gs:=[]) (args:=[_,_]) Tryz.func22 rfl rfl rfl (nLe rfl) (fun E hE=>?_)
 by_cases h0:c.wrongR=0
 ·rw [if_neg (by simpa using h0)]
  by_cases h1:t.checkR.1=0
  ·rw [if_neg (by simpa using h1)]
   have hR:=RChk.of h1
   have hg4:=hR.g
   have hB:=(ConfOk.of (wrongR_ok h0)).b
   have hant:=hB.antenna
   have hmsp:=hB.maxSpeed
   conv=>whnf
   repeat' ((first|refine Br.nf (by assumption) ?_|refine CallS.q (hw) rfl ?_|refine CallS.q (hk) rfl ?_);conv=>whnf)
   refine LoopAt.rule tabOk [(2,_),(3,_)] (fun (i:Nat)=>[(8,.int .i64 (i:Int))]) (fun (i:Nat)=>[.blk (confC c),.blk [sgsV t.segs,gpsV t.grps]]) (fun (i:Nat)=>i≤t.grps.length∧∀ j,j<i→W.fitAtR c t j=true) (fun (i:Nat)=>t.grps.length-i) 0 (by trivial) ⟨Nat.zero_le _,fun j hj=>absurd hj (by omega)⟩ (by trivial) (by trivial) (fun _=>⟨rfl,rfl,rfl,by simp [hE]⟩) (fun i hk=>?_)
   obtain⟨hk,hno⟩:=hk
   by_cases hlt:i<t.grps.length
   ·have hgr:=hR.gr hlt
    have hlen:=hR.ok.len (t.gp i).seg.toNat (by omega)
    have e:W.fitAtR c t i=decide ((t.gp i).acc+c.antenna+c.maxSpeed≤(t.gp i).offset∧(t.gp i).acc+c.antenna+c.maxSpeed≤(t.segs.getD (t.gp i).seg.toNat default).length-(t.gp i).offset):=rfl
    have eg:t.grps.getD i default=t.gp i:=rfl
    rw [← eg] at hgr hlen e
    have e2:t.len (t.grps.getD i default).seg=(t.segs.getD (t.grps.getD i default).seg.toNat default).length:=rfl
    rw [e2] at hgr
    have hit:W.fitAtR c t i=false→(AV.tup [I 11,I (i:Int)])=.tup [I (if 0≤W.firstI (fun i=>!W.fitAtR c t i) t.grps.length then ((11:Int),W.firstI (fun i=>!W.fitAtR c t i) t.grps.length) else (0,0)).1,I (if 0≤W.firstI (fun i=>!W.fitAtR c t i) t.grps.length then ((11:Int),W.firstI (fun i=>!W.fitAtR c t i) t.grps.length) else (0,0)).2]:=fun hf=>by
     rw [W.firstI_hit (k:=i) (fun j hj=>by rw [hno j hj];rfl) hlt (by rw [hf];rfl),if_pos (by omega)]
    conv=>whnf
    repeat' (first|((first|refine Br.pt (by assumption) ?_|refine Br.pf (by assumption) ?_|refine Br.pt (by omega) ?_|refine Br.ot rfl ?_|refine Ob.mk (by omega) ?_|refine Ob.mk (by unfold W.I64 at *;omega) ?_|refine Drw.loose (by kernel_rfl) ?_|refine Ix.nat _ ?_|refine Ix.tn (by omega) ?_|refine FinAt.val rfl ?_);conv=>whnf)|((refine Br.d (fun h=>?_) (fun h=>?_))<;>conv=>whnf))
    all_goals first
     |exact hit (by rw [e];exact decide_eq_false (by omega))
     |exact⟨i+1,⟨by omega,fun j hj=>by
       rcases Nat.lt_or_ge j i with q|q
       ·exact hno j q
       ·obtain rfl:j=i:=by omega
        rw [e];exact decide_eq_true (by omega)⟩,by omega,(by trivial),(by trivial),(by trivial)⟩
   ·obtain rfl:i=t.grps.length:=by omega
    conv=>whnf
    repeat' ((first|refine Br.pf (by omega) ?_|refine FinAt.val rfl ?_);conv=>whnf)
    rw [W.firstI_none (fun j hj=>by rw [hno j hj];rfl),if_neg (by omega)]
    rfl
  ·rw [if_pos h1]
   conv=>whnf
   repeat' ((first|refine Br.nt (by assumption) ?_|refine Br.nf (by assumption) ?_|refine CallS.q (hw) rfl ?_|refine CallS.q (hk) rfl ?_|refine FinAt.val rfl ?_);conv=>whnf)
   rfl
 ·rw [if_pos h0]
  conv=>whnf
  repeat' ((first|refine Br.nt (by assumption) ?_|refine CallS.q (hw) rfl ?_|refine FinAt.val rfl ?_);conv=>whnf)
  rfl
structure SGo(c:W.Conf)(s:W.Script):Prop where
 c:ConfB c
 n:s.ticks.length≤4096
 num:W.NumOk s s.ticks.length
 rad:∀ k,k<s.ticks.length→-1073741824≤(s.tick k).rad∧(s.tick k).rad≤1073741824
theorem yFit(s:W.Script)(i k:Nat)(hi:i≤2)(hk:k<s.ticks.length)(hn:s.ticks.length≤4096):Ret Tryz.prog 40 [scrV s,I i,I k] (·=.bool (W.fitS s i k)):=by
 obtain rfl|rfl|rfl:i=0∨i=1∨i=2:=by omega
 all_goals
  refine enterO tabOk (N:=34) (gs:=[]) (args:=[_,_,_]) Tryz.func40 rfl rfl rfl (nLe rfl) (fun E hE=>?_)
  unfold W.fitS
  by_cases h0:k=0
  ·subst h0
   conv=>whnf
   repeat' (first|((first|refine Br.pt (by omega) ?_|refine Br.pf (by omega) ?_|refine Ob.mk (by omega) ?_|refine Ix.of 0 rfl ?_|refine Ix.of 1 rfl ?_|refine Ix.nat _ ?_|refine FinAt.val rfl ?_);conv=>whnf)|((refine Br.d (fun h=>?_) (fun h=>?_))<;>conv=>whnf))
   all_goals
    show AV.bool _=AV.bool _
    congr 1
    simp_all [W.Script.tick,W.Tick.lost]
  ·obtain⟨j,rfl⟩:∃ j,k=j+1:=⟨k-1,by omega⟩
   have e:(((j+1:Nat):Int)-1).toNat=j:=by omega
   conv=>whnf
   repeat' (first|((first|refine Br.pt (by omega) ?_|refine Br.pf (by omega) ?_|refine Ob.mk (by omega) ?_|refine Ob.mk (by unfold W.I64 at *;omega) ?_|refine Ix.of 0 rfl ?_|refine Ix.of 1 rfl ?_|refine Ix.nat _ ?_|refine Ix.tn (by omega) ?_|refine FinAt.val rfl ?_);conv=>whnf)|((refine Br.d (fun h=>?_) (fun h=>?_))<;>conv=>whnf))
   all_goals
    show AV.bool _=AV.bool _
    congr 1
    simp_all [W.Script.tick,W.Tick.lost]
theorem yWrong28(c:W.Conf)(s:W.Script)(i k:Nat)(hi:i≤2)(hk:k<s.ticks.length)(hg:SGo c s):Ret Tryz.prog 41 [confV c,scrV s,I i,I k] (·=.bool (W.wrongS c s i k)):=by
 have hc:=hg.c
 have hn:=hg.n
 have hv:=hg.num.v k hk
 have hr:=hg.rad k hk
 have hE:=W.errorR_bd c ((s.tick k).v+(s.tick k).rad) hc.radBase.1 hc.radBase.2 hc.radPart.1 hc.radPart.2 (by omega) (by omega)
 have e1:=yError c ((s.tick k).v+(s.tick k).rad) hc.radBase.1 hc.radBase.2 hc.radPart.1 hc.radPart.2 (by omega) (by omega)
 have e2:=yFar (s.tick k).rad (c.errorR ((s.tick k).v+(s.tick k).rad)) (by omega) (by omega)
 have et:s.tick k=s.ticks.getD k default:=rfl
 rw [et] at hv hr hE e1 e2
 obtain rfl|rfl|rfl:i=0∨i=1∨i=2:=by omega
 all_goals
  refine enterO tabOk (N:=32) (gs:=[]) (args:=[_,_,_,_]) Tryz.func41 rfl rfl rfl (nLe rfl) (fun E hEE=>?_)
  have hE':=hEE
  conv=>whnf
  repeat' ((first|refine Br.pt (by omega) ?_|refine Br.pf (by omega) ?_|refine CallX.pu (e1) rfl rfl ?_|refine CallX.pu (e2) rfl rfl ?_|refine Ob.mk (by omega) ?_|refine Ob.mk (by unfold W.I64 at *;omega) ?_|refine Drw.loose (by kernel_rfl) ?_|refine Ix.of 0 rfl ?_|refine Ix.of 1 rfl ?_|refine Ix.nat _ ?_|refine Pc.lit ?_|refine FinAt.val rfl ?_);conv=>whnf)
  all_goals
   show AV.bool _=AV.bool _
   congr 1
   try (first|rfl|simp [W.wrongS,W.Tick.slip,W.Script.tick])
theorem QAt.remR{P:Program}{o:Oper}{tm:Tm}{own:Ow}{K:AV→Prop}{t t':TypeId}{x y:Operand}{p:Int}(ho:o.op=.binOp .rem t x y t')(hx:ev tm x fun v=>v=.raw (.int .i64 p))(hy:ev tm y fun v=>v=I 65536)(hK:K (I (p.tmod 65536))):QAt P o tm own K :=
 QAt.bin ho hx hy rfl rfl (r:=I (p.tmod 65536)) rfl (fun w=>by
  simp only [val]
  rw [Sem.run_bind,guard_int]
  rfl) hK
theorem yCountR(s:W.Script)(p i:Int)(j:Nat)(hj:j≤1)(hb:ScrB s)(p0:1≤p)(p1:p≤1024)(hn:0≤i)(hnl:i≤s.ticks.length)(hl4:s.ticks.length≤4100)(hv:W.NumOk s i.toNat):Ret Tryz.prog 63 [scrV s,I p,I j,I i] (·=.raw (.int .i64 (s.count p j i.toNat))):=by
 obtain rfl|rfl:j=0∨j=1:=by omega
 ·intro S w bs Vs hG hlt hV
  exact(yCount0 s p i hb p0 p1 hn hnl hl4 hv S w bs Vs hG hlt hV).mono fun e w' ⟨r,V,gs',bs',S',g1,g2,g3,g4⟩=>by
   subst g2
   exact⟨_,V,gs',bs',S',g1,rfl,g3,g4⟩
 ·intro S w bs Vs hG hlt hV
  exact(yCount1 s p i hb p0 p1 hn hnl hl4 hv S w bs Vs hG hlt hV).mono fun e w' ⟨r,V,gs',bs',S',g1,g2,g3,g4⟩=>by
   subst g2
   exact⟨_,V,gs',bs',S',g1,rfl,g3,g4⟩
theorem tmod_e(x:Int):(x.tmod 65536+65536)%65536=x%65536:=by
 have h1:=Int.tmod_eq_emod (a:=x) (b:=65536)
 rw [h1]
 split<;>omega
theorem W.NumOk.le{s:W.Script}{n m:Nat}(h:W.NumOk s n)(hm:m≤n):W.NumOk s m:=⟨fun k hk=>h.v k (by omega),fun k hk=>h.slip0 k (by omega),fun k hk=>h.slip1 k (by omega),h.phase0,h.phase1,h.circ0,h.circ1⟩
theorem tmod_b(x:Int):-65535≤x.tmod 65536∧x.tmod 65536≤65535:=by
 have h1:=Int.tmod_eq_emod (a:=x) (b:=65536)
 rw [h1]
 split<;>omega
theorem deltaR_lo(a b:Int):-32768≤W.deltaR a b:=by
 show -32768≤(if 32768≤(b-a+65536)%65536 then (b-a+65536)%65536-65536 else (b-a+65536)%65536)
 split<;>omega
theorem deltaR_hi(a b:Int):W.deltaR a b≤32767:=by
 show (if 32768≤(b-a+65536)%65536 then (b-a+65536)%65536-65536 else (b-a+65536)%65536)≤32767
 split<;>omega
theorem ySays(c:W.Conf)(s:W.Script)(i k:Nat)(hi:i≤2)(hk:k<s.ticks.length)(hb:ScrB s)(hg:SGo c s):Ret Tryz.prog 42 [confV c,scrV s,I i,I k] (·=.agg [I (W.saysS c s i k).1,I (W.saysS c s i k).2]):=by
 have hc:=hg.c
 have hn:=hg.n
 have hv:=hg.num.v k hk
 have hr:=hg.rad k hk
 have nk:=W.NumOk.le hg.num (m:=k) (by omega)
 have nk1:=W.NumOk.le hg.num (m:=k+1) (by omega)
 have eR:=yRadar c ((s.tick k).v+(s.tick k).rad) hc.radBase.1 hc.radBase.2 hc.radPart.1 hc.radPart.2 (by omega) (by omega)
 have eC (j:Nat) (hj:j≤1):Ret Tryz.prog 63 [scrV s,I c.pulses,I j,I k] (·=.raw (.int .i64 (s.count c.pulses j k))):=yCountR s c.pulses k j hj hb hc.pulses.1 hc.pulses.2 (by omega) (by omega) (by omega) nk
 have eC1 (j:Nat) (hj:j≤1):Ret Tryz.prog 63 [scrV s,I c.pulses,I j,I (k+1)] (·=.raw (.int .i64 (s.count c.pulses j (k+1)))):=yCountR s c.pulses (k+1) j hj hb hc.pulses.1 hc.pulses.2 (by omega) (by omega) (by omega) nk1
 have eD (x y:Int):Ret Tryz.prog 71 [I ((x.tmod 65536+65536)%65536),I ((y.tmod 65536+65536)%65536)] (·=I (W.deltaR (x%65536) (y%65536))):=by
  rw [tmod_e,tmod_e]
  exact yDelta _ _ (by omega) (by omega) (by omega) (by omega)
 have eT (x y:Int):=yTacho (W.deltaR (x%65536) (y%65536)) c.circLo c.circHi c.pulses (deltaR_lo _ _) (deltaR_hi _ _) (by have:=hc.circLo.1;omega) hc.circLo.2 (by have:=hc.circLo.1;have:=hc.circHi.1;omega) hc.circHi.2 hc.pulses.1 hc.pulses.2
 have et:s.tick k=s.ticks.getD k default:=rfl
 rw [et] at hv hr eR
 obtain rfl|rfl|rfl:i=0∨i=1∨i=2:=by omega
 ·have b0:=tmod_b (s.count c.pulses 0 k)
  have b1:=tmod_b (s.count c.pulses 0 (k+1))
  refine enterO tabOk (N:=75) (gs:=[]) (args:=[_,_,_,_]) Tryz.func42 rfl rfl rfl (nLe rfl) (fun E hEE=>?_)
  have hE':=hEE
  conv=>whnf
  repeat' ((first|refine QAt.remR rfl rfl rfl ?_|refine Br.pf (by omega) ?_|refine CallS.q (eC 0 (by omega)) rfl ?_|refine CallS.q (eC1 0 (by omega)) rfl ?_|refine CallS.q (eD _ _) rfl ?_|refine CallS.q (eT _ _) rfl ?_|refine Ob.mk (by omega) ?_|refine Ob.mk (by unfold W.I64 at *;omega) ?_|refine FinAt.val rfl ?_);conv=>whnf)
  all_goals rfl
 ·have b0:=tmod_b (s.count c.pulses 1 k)
  have b1:=tmod_b (s.count c.pulses 1 (k+1))
  refine enterO tabOk (N:=75) (gs:=[]) (args:=[_,_,_,_]) Tryz.func42 rfl rfl rfl (nLe rfl) (fun E hEE=>?_)
  have hE':=hEE
  conv=>whnf
  repeat' ((first|refine QAt.remR rfl rfl rfl ?_|refine Br.pf (by omega) ?_|refine CallS.q (eC 1 (by omega)) rfl ?_|refine CallS.q (eC1 1 (by omega)) rfl ?_|refine CallS.q (eD _ _) rfl ?_|refine CallS.q (eT _ _) rfl ?_|refine Ob.mk (by omega) ?_|refine Ob.mk (by unfold W.I64 at *;omega) ?_|refine FinAt.val rfl ?_);conv=>whnf)
  all_goals rfl
 ·refine enterO tabOk (N:=75) (gs:=[]) (args:=[_,_,_,_]) Tryz.func42 rfl rfl rfl (nLe rfl) (fun E hEE=>?_)
  have hE':=hEE
  conv=>whnf
  repeat' ((first|refine Br.pt (by omega) ?_|refine CallX.pu (eR) rfl rfl ?_|refine Ob.mk (by omega) ?_|refine Ob.mk (by unfold W.I64 at *;omega) ?_|refine Drw.loose (by kernel_rfl) ?_|refine Ix.nat _ ?_|refine FinAt.val rfl ?_);conv=>whnf)
  all_goals rfl
end Y
end Go.Proofs.YtllemifiammnnaaGreat
