/- Part 8 of the proof. No condition. -/
import Derived.Laws.MakeOwn
import Derived.Test.YtllemifiammnnaaGreatProg
import Derived.Deep.LoopGhost
import Derived.Laws.BitsAllLaws
import Derived.Laws.OwnMore
import Derived.Laws.AppendOwn
import Derived.Laws.CopyOwn
import Derived.OwnWalk
import Derived.Deep.DeepCutAuto
import Derived.Test.YtllemifiammnnaaGreatG07
import Derived.Test.YtllemifiammnnaaGreatG06
import Derived.Test.YtllemifiammnnaaGreatG03
import Derived.Test.YtllemifiammnnaaGreatG00
set_option linter.unusedVariables false
set_option linter.unusedSimpArgs false
set_option maxRecDepth 100000
set_option maxHeartbeats 4000000
namespace Go.Proofs.YtllemifiammnnaaGreat
namespace Y
open Go Go.RowKit Go.Sort
section
variable{P:Program}{o:Oper}{tm:Tm}{own:Ow}{K:AV→Prop}
theorem wrap_u64_id{x:Int}(h:0≤x)(h2:x<18446744073709551616):IntKind.u64.wrap x=x:=by
 simp only [IntKind.wrap,IntKind.bits,IntKind.signed]
 simp
 omega
theorem QAt.shrU{t t':TypeId}{x y:Operand}{k:IntKind}{p q:Int}(ho:o.op=.binOp .shr t x y t')(hx:ev tm x fun v=>v=.int .u64 p)(hy:ev tm y fun v=>v=.int k q)(h0:0≤p)(h1:p<18446744073709551616)(hq:0≤q)(hK:∀ r:Int,0≤r→r<18446744073709551616→K (.int .u64 r)):QAt P o tm own K:=by
 have hp:(0:Int)≤2 ^ (min q.toNat IntKind.u64.bits):=Int.pow_nonneg (by omega)
 have h2:p.fdiv (2 ^ (min q.toNat IntKind.u64.bits))=p/(2 ^ (min q.toNat IntKind.u64.bits)):=Int.fdiv_eq_ediv_of_nonneg _ hp
 have h3:0≤p/(2 ^ (min q.toNat IntKind.u64.bits)):=Int.ediv_nonneg h0 hp
 have h4:p/(2 ^ (min q.toNat IntKind.u64.bits))≤p:=Int.ediv_le_self _ h0
 refine QAt.bin ho hx hy rfl rfl (r:=.int .u64 (p.fdiv (2 ^ (min q.toNat IntKind.u64.bits)))) rfl (fun w=>?_) (hK _ (by omega) (by omega))
 simp only [val]
 rw [Sem.run_bind,guard_int]
 have hq':¬ q<0:=by omega
 simp [Go.binOp,Op.shift,hq']
theorem QAt.xorU{t t':TypeId}{x y:Operand}{p q:Int}(ho:o.op=.binOp .xor t x y t')(hx:ev tm x fun v=>v=.int .u64 p)(hy:ev tm y fun v=>v=.int .u64 q)(hK:∀ r:Int,0≤r→r<18446744073709551616→K (.int .u64 r)):QAt P o tm own K:=by
 have h:=wrap_u64 (((BitVec.ofInt 64 p ^^^ BitVec.ofInt 64 q:BitVec 64).toNat:Nat):Int)
 refine QAt.bin ho hx hy rfl rfl (r:=.int .u64 (IntKind.u64.wrap (((BitVec.ofInt 64 p ^^^ BitVec.ofInt 64 q:BitVec 64).toNat:Nat):Int))) rfl (fun w=>?_) (hK _ h.1 h.2)
 simp only [val]
 rw [Sem.run_bind,guard_int]
 rfl
theorem QAt.andU{t t':TypeId}{x y:Operand}{p q:Int}(ho:o.op=.binOp .and t x y t')(hx:ev tm x fun v=>v=.int .u64 p)(hy:ev tm y fun v=>v=.int .u64 q)(h0:0≤q)(h1:q<18446744073709551616)(hK:∀ r:Int,0≤r→r≤q→K (.int .u64 r)):QAt P o tm own K:=by
 have hb:(BitVec.ofInt 64 q).toNat=q.toNat:=by
  rw [BitVec.toNat_ofInt]
  omega
 have h2:((BitVec.ofInt 64 p &&& BitVec.ofInt 64 q:BitVec 64).toNat:Int)≤q:=by
  rw [BitVec.toNat_and,hb]
  have:=Nat.and_le_right (n:=(BitVec.ofInt 64 p).toNat) (m:=q.toNat)
  omega
 refine QAt.bin ho hx hy rfl rfl (r:=.int .u64 (IntKind.u64.wrap (((BitVec.ofInt 64 p &&& BitVec.ofInt 64 q:BitVec 64).toNat:Nat):Int))) rfl (fun w=>?_) ?_
 ·simp only [val]
  rw [Sem.run_bind,guard_int]
  rfl
 ·rw [wrap_u64_id (by omega) (by omega)]
  exact hK _ (by omega) h2
theorem QAt.shl1{t t':TypeId}{x y:Operand}{q:Int}(ho:o.op=.binOp .shl t x y t')(hx:ev tm x fun v=>v=.int .u64 1)(hy:ev tm y fun v=>v=.int .i64 q)(hq:0≤q)(hq2:q≤60)(hK:K (.int .u64 ((2 ^ q.toNat:Nat):Int))):QAt P o tm own K:=by
 have hp:2 ^ q.toNat≤2 ^ 60:=Nat.pow_le_pow_right (by omega) (by omega)
 have hp0:0<2 ^ q.toNat:=Nat.two_pow_pos _
 have hm:min q.toNat IntKind.u64.bits=q.toNat:=Nat.min_eq_left (by show q.toNat≤64;omega)
 refine QAt.bin ho hx hy rfl rfl (r:=.int .u64 ((2 ^ q.toNat:Nat):Int)) rfl (fun w=>?_) hK
 simp only [val]
 rw [Sem.run_bind,guard_int]
 have hq':¬ q<0:=by omega
 simp only [Go.binOp,Op.shift,hq',if_false]
 rw [hm,Int.one_mul]
 have e:((2:Int) ^ q.toNat)=((2 ^ q.toNat:Nat):Int):=by rw [Int.natCast_pow];rfl
 rw [e,wrap_u64_id (by omega) (by have:(2:Nat) ^ 60=1152921504606846976:=(by decide);omega)]
 rfl
def tabB(s:ByteArray):Bool:=Nat.beq s.data.toList.length 256&&(List.range 256).all fun j=>match nth s.data.toList j with
 |some u=>Nat.ble u.toNat 8&&(Nat.beq j 0||Nat.ble (2 ^ u.toNat) (2*j))
 |none=>false
theorem QAt.tab8{t:TypeId}{s:ByteArray}{ix:Operand}{k:IntKind}{j:Int}(ho:o.op=.index t (.const (.string s)) ix)(ht:P.underlying t=some .string)(hx:ev tm ix fun v=>v=.int k j)(h0:0≤j)(h1:j<256)(hB:tabB s=true)(hK:∀ u:Int,0≤u→u≤8→(0<j→((2 ^ u.toNat:Nat):Int)≤2*j)→K (.int .u8 u)):QAt P o tm own K:=by
 unfold tabB at hB
 rw [Bool.and_eq_true] at hB
 have hB2:=List.all_eq_true.1 hB.2 j.toNat (List.mem_range.2 (by omega))
 cases hu:nth s.data.toList j.toNat with
 |none=>rw [hu] at hB2;cases hB2
 |some u =>
  rw [hu] at hB2
  simp only [Bool.and_eq_true,Bool.or_eq_true] at hB2
  have h3:=nLe hB2.1
  refine⟨.int .u8 (u.toNat:Int),hK _ (by omega) (by omega) (fun hj=>?_),fun N E S ids a n hs=>⟨_,rfl,fun w hp=>?_⟩⟩
  ·rcases hB2.2 with h|h
   ·have:=Nat.eq_of_beq_eq_true h;omega
   ·have:=nLe h
    rw [Int.toNat_natCast]
    omega
  ·obtain⟨v,rfl,h2⟩:=ev_sound hx
   have e:=(h2 S n ids a hs.sl).int
   have hg:s[j.toNat]?=some u:=by
    rw [nth_eq] at hu
    have hlt:j.toNat<s.data.size:=by simpa using (List.getElem?_eq_some_iff.1 hu).1
    have:s[j.toNat]?=some (s.data[j.toNat]):=by
     rw [getElem?_pos s j.toNat hlt];rfl
    rw [this]
    congr 1
    have:=(List.getElem?_eq_some_iff.1 hu).2
    simpa using this
   unfold execOp
   simp only [ho,e]
   simp [Act.eval,Instr.index,asIntOf,run_underlying ht,h0,hg]
   done
end
theorem len64(x:Int)(h0:0<x)(h1:x<256):Ret Tryz.prog 214 [.int .u64 x] (fun v=>∃ q:Int,v=I q∧0≤q∧q≤8∧((2 ^ q.toNat:Nat):Int)≤2*x):=by
 refine enterO tabOk (N:=25) (gs:=[]) (args:=[_]) Tryz.func214 rfl rfl rfl (nLe rfl) (fun E hE=>?_)
 have hw:IntKind.u8.wrap x=x:=by
  simp only [IntKind.wrap,IntKind.bits,IntKind.signed]
  simp
  omega
 conv=>whnf
 repeat' ((first|refine QAt.tab8 rfl (by kernel_rfl) rfl (by rw [hw];omega) (by rw [hw];omega) (by kernel_rfl) (fun u h0 h1 h2=>?_)|refine Br.pf (by omega) ?_|refine Ob.mk (by unfold W.I64 at *;omega) ?_|refine FinAt.val rfl ?_);conv=>whnf)
 refine⟨0+u,rfl,by omega,by omega,?_⟩
 rw [hw] at h2
 rw [Int.zero_add]
 exact h2 (by assumption)
theorem bitsLen(x:Int)(h0:0<x)(h1:x<256):Ret Tryz.prog 197 [.int .u64 x] (fun v=>∃ q:Int,v=I q∧0≤q∧q≤8∧((2 ^ q.toNat:Nat):Int)≤2*x):=by
 refine enterO tabOk (N:=8) (gs:=[]) (args:=[_]) Tryz.func197 rfl rfl rfl (nLe rfl) (fun E hE=>?_)
 conv=>whnf
 repeat' ((refine Br.of rfl ?_);conv=>whnf)
 refine CallS.call (CallN.puP (len64 x h0 h1) rfl (fun r hr=>?_))
 obtain⟨q,rfl,h2⟩:=hr
 conv=>whnf
 repeat' ((refine FinAt.val rfl ?_);conv=>whnf)
 exact⟨q,rfl,h2⟩
theorem nextPow(x:Int)(h0:0<x)(h1:x<256):Ret Tryz.prog 221 [I x] (fun v=>∃ q:Int,v=.int .u64 q∧1≤q∧q≤2*x):=by
 refine enterO tabOk (N:=7) (gs:=[]) (args:=[_]) Tryz.func221 rfl rfl rfl (nLe rfl) (fun E hE=>?_)
 have hw:IntKind.u64.wrap x=x:=wrap_u64_id (by omega) (by omega)
 conv=>whnf
 refine CallS.call (CallN.puP (by rw [hw];exact bitsLen x h0 h1) rfl (fun r hr=>?_))
 obtain⟨q,rfl,h2,h3,h4⟩:=hr
 conv=>whnf
 repeat' ((first|refine QAt.shl1 rfl rfl rfl h2 (by omega) ?_|refine FinAt.val rfl ?_);conv=>whnf)
 have:=Nat.two_pow_pos q.toNat
 exact⟨_,rfl,by omega,h4⟩
theorem xorNext(x:Int):RetO Tryz.prog 222 [.blk [.int .u64 x]] [.own 0 0] (fun r gs'=>∃ y:Int,r=.int .u64 y∧0≤y∧y<18446744073709551616∧gs'=[.blk [.int .u64 y]]):=by
 refine enterO tabOk (N:=33) (gs:=[_]) (args:=[_]) Tryz.func222 rfl rfl rfl (nLe rfl) (fun E hE=>?_)
 conv=>whnf
 repeat' ((first|refine QAt.shlU rfl rfl rfl (by omega) (fun r h0 h1=>?_)|refine QAt.shrU rfl rfl rfl (by omega) (by omega) (by omega) (fun r h0 h1=>?_)|refine QAt.xorU rfl rfl rfl (fun r h0 h1=>?_)|refine Drw.loose (by kernel_rfl) ?_);conv=>whnf)
 exact FinAt.asis (ars:=[.int .u64 _]) [] (RvL.pu rfl) (by simp) (by show 1≤_;simp) rfl ⟨_,rfl,by omega,by omega,rfl⟩
theorem breakO(l:List Int)(r:List Value)(n c:Nat)(x y:Int)(hn:l.length=n)(h0:0≤x)(hz:x≤y)(hb:y≤n)(hc:n≤255) :
  SortC i1 1 227 n c l r [I x,I y] (·=.tup []):=by
 obtain⟨a,rfl⟩:=Int.eq_ofNat_of_zero_le h0
 obtain⟨b,rfl⟩:=Int.eq_ofNat_of_zero_le (show 0≤y by omega)
 refine enterO tabOk (N:=65) (gs:=[_]) (args:=[_,_,_]) Tryz.func227 rfl rfl rfl (nLe rfl) (fun E hE=>?_)
 conv=>whnf
 repeat' (first|((refine Ob.mk (by unfold W.I64 at *;omega) ?_);conv=>whnf)|((refine Br.d (fun h=>?_) (fun h=>?_))<;>conv=>whnf))
 rotate_left
 ·exact FinAt.asis (ars:=[]) [] RvL.nil (by simp) (by show 1≤_;simp) okAr ⟨rfl,l,.refl _,rfl⟩
 refine CallS.call (CallN.puP (nextPow ((b:Int)-a) (by omega) (by omega)) rfl (fun m hm=>?_))
 obtain⟨m,rfl,hm1,hm2⟩:=hm
 conv=>whnf
 repeat' ((refine Ob.mk (by unfold W.I64 at *;omega) ?_);conv=>whnf)
 refine LoopAt.rule tabOk [(0,_),(1,_),(6,_),(7,_),(8,_)] (fun (q:Nat×Int×List Int)=>[(9,.int .i64 (q.1:Int))]) (fun (q:Nat×Int×List Int)=>[.blk (ar i1 q.2.2 r),.blk [.int .u64 q.2.1]]) (fun (q:Nat×Int×List Int)=>q.2.2.Perm l∧(a:Int)≤q.1∧(q.1:Int)≤a+((b:Int)-a)/4*2+2) (fun (q:Nat×Int×List Int)=>(a+(b-a)/4*2+2)-q.1) (a+(b-a)/4*2-1,_,l) (by (repeat refine And.intro (by first|rfl|exact congrArg (fun z=>some (AV.int .i64 z)) (by first|omega|(dsimp only;omega))) ?_);exact trivial) ⟨.refl _,by dsimp only;omega,by dsimp only;omega⟩ (by (repeat refine And.intro (by first|rfl|exact congrArg (fun z=>some (AV.int .i64 z)) (by first|omega|(dsimp only;omega))) ?_);exact trivial) (by (repeat refine And.intro (by first|rfl|exact congrArg (fun z=>some (AV.int .i64 z)) (by first|omega|(dsimp only;omega))) ?_);exact trivial) (fun _=>⟨rfl,rfl,okAr2 rfl,by simp [hE]⟩) (fun q hk=>?_)
 obtain⟨q,y,l1⟩:=q
 obtain⟨hp,hq,hq2⟩:=hk
 dsimp only at hp hq hq2 ⊢
 have hl1:=hp.length_eq
 conv=>whnf
 repeat' (first|((refine Ob.mk (by unfold W.I64 at *;omega) ?_);conv=>whnf)|((refine Br.d (fun h=>?_) (fun h=>?_))<;>conv=>whnf))
 rotate_left
 ·exact FinAt.asis (ars:=[]) [] RvL.nil (by simp) (by show 1≤_;simp) okAr ⟨rfl,l1,hp,rfl⟩
 refine CallS.call (CallN.upd [1] [] (RvJL.cons (RvJ.ownP rfl) RvJL.nil) (Als.nil _) (by simp) (Giv.one rfl (by simp) (RcJ.pu rfl)) (xorNext y) (fun v gs ⟨y',h1,h2,h3,h4⟩ _=>?_))
 subst h1
 subst h4
 have hw:IntKind.u64.wrap (m-1)=m-1:=wrap_u64_id (by omega) (by omega)
 conv=>whnf
 repeat' (first|((first|with_reducible refine Ix.nat _ ?_|refine Ix.tn (by omega) ?_|refine Pc.sym ?_|refine LdAt.one (e:=i1) (v:=I) (fun _=>rfl) (fun _=>rfl) 0 rfl _ rfl (by omega) ?_|refine StAt.el (e:=i1) (n:=1) i1_len _ rfl rfl _ (Nat.mul_one _).symm (by first|omega|(simp only [List.length_set];omega)) ?_|(refine Drw.len 20 17 rfl rfl ?_;refine Drw.lateP tabOk [0,1,6,7,8,9,10,11,12,13,14,15,16] [2,3,4,5] [17,18,19] (by kernel_rfl) (by kernel_rfl) ?_)|refine QAt.andU rfl rfl rfl (by rw [hw];omega) (by rw [hw];omega) (fun z hz0 hz1=>?_)|refine Ob.mk (by omega) ?_|refine Ob.mk (by unfold W.I64 at *;omega) ?_);conv=>whnf)|((refine Br.d (fun h=>?_) (fun h=>?_))<;>conv=>whnf))
 all_goals
  rw [hw] at hz1
  refine⟨(q+1,y',_),⟨?_,by dsimp only;omega,by dsimp only;omega⟩,by dsimp only;omega,(by (repeat refine And.intro (by first|rfl|exact congrArg (fun z=>some (AV.int .i64 z)) (by first|omega|(dsimp only;omega))) ?_);exact trivial),(by trivial),(by trivial)⟩
  exact(swap_perm 0 (by omega) (by omega)).trans hp
def CntC{α:Type}(e:α→List AV)(sz f n c:Nat)(l:List α)(r:List Value)(k d:Int)(xs:List AV)(p:AV→Prop):Prop :=
 RetO Tryz.prog f [.blk (ar e l r),.blk [I k]] (.sl 0 0 sz n c::xs) (fun x gs=>p x∧∃ k',k≤k'∧k'≤k+d∧gs=[.blk (ar e l r),.blk [I k']])
theorem CallS.cnt{α:Type}{e:α→List AV}{sz f n c:Nat}{l:List α}{r:List Value}{k d:Int}{xs:List AV}{p:AV→Prop}{N:Nat}{E:En}{o:Oper}{K:Tm→Ow→Prop}{tm:Tm}{own:Ow}{ws:List AV}(h:CntC e sz f n c l r k d xs p)(hv:RvJL (.blk (ar e l r)::.blk [I k]::own) [0,1] [] ws xs)(he:∀ x,puL (e x)=true)(he2:∀ x,rnL1 [0,1] (e x)=e x)
  (hK:∀ x k',p x→k≤k'→k'≤k+d→put N tm o.dst x fun tm=>K tm (.blk (ar e l r)::.blk [I k']::own)):CallS Tryz.prog N E o f (.sl 0 0 sz n c::ws) K tm (.blk (ar e l r)::.blk [I k]::own):=by
 refine .call (CallN.upd [0,1] [] (RvJL.cons (RvJ.sl rfl) hv) (Als.nil _) (by simp) ⟨rfl,by decide,by simp,Giv.consB rfl (RcJ.pu (puL_ar he l r)) (Giv.consB rfl (RcJ.pu rfl) Giv.done)⟩ h (fun x gs ⟨h1,k',h2,h3,h4⟩ _=>?_))
 subst h4
 have:=hK x k' h1 h2 h3
 simp only [List.map_cons,List.map_nil,rnO,rnL1_ar [0,1] he2,putJ,killI,List.set_cons_zero,List.set_cons_succ]
 exact this
theorem order2O(l:List Int)(r:List Value)(n c:Nat)(k x y:Int)(hn:l.length=n)(h0:0≤x)(hx:x<n)(h1:0≤y)(hy:y<n)(hk:0≤k)(hk2:k≤1000) :
  CntC i1 1 242 n c l r k 1 [I x,I y,.own 1 0] (fun v=>v=.tup [I x,I y]∨v=.tup [I y,I x]):=by
 obtain⟨a,rfl⟩:=Int.eq_ofNat_of_zero_le h0
 obtain⟨b,rfl⟩:=Int.eq_ofNat_of_zero_le h1
 refine enterO tabOk (N:=28) (gs:=[_,_]) (args:=[_,_,_,_]) Tryz.func242 rfl rfl rfl (nLe rfl) (fun E hE=>?_)
 conv=>whnf
 repeat' (first|((first|with_reducible refine Ix.nat _ ?_|refine Pc.sym ?_|refine LdAt.one (e:=i1) (v:=I) (fun _=>rfl) (fun _=>rfl) 0 rfl _ rfl (by omega) ?_|refine CallX.pu (less _ _) rfl rfl ?_|refine Ob.mk (by omega) ?_|refine Ob.mk (by unfold W.I64 at *;omega) ?_|refine Drw.loose (by kernel_rfl) ?_);conv=>whnf)|((refine Br.d (fun h=>?_) (fun h=>?_))<;>conv=>whnf))
 ·exact FinAt.asis (ars:=[I _,I _]) [] (RvL.pu rfl) (by simp) (by show 2≤_;simp) (okAr2 rfl) ⟨.inr rfl,k+1,by omega,by omega,rfl⟩
 ·exact FinAt.asis (ars:=[I _,I _]) [] (RvL.pu rfl) (by simp) (by show 2≤_;simp) (okAr2 rfl) ⟨.inl rfl,k,by omega,by omega,rfl⟩
theorem medianO(l:List Int)(r:List Value)(n c:Nat)(k x y z:Int)(hn:l.length=n)(h0:0≤x)(hx:x<n)(h1:0≤y)(hy:y<n)(h2:0≤z)(hz:z<n)(hk:0≤k)(hk2:k≤900) :
  CntC i1 1 240 n c l r k 3 [I x,I y,I z,.own 1 0] (fun v=>∃ p,v=I p∧(p=x∨p=y∨p=z)):=by
 refine enterO tabOk (N:=36) (gs:=[_,_]) (args:=[_,_,_,_,_]) Tryz.func240 rfl rfl rfl (nLe rfl) (fun E hE=>?_)
 conv=>whnf
 refine CallS.cnt (order2O l r n c k _ _ hn (by omega) (by omega) (by omega) (by omega) (by omega) (by omega)) (RvJL.cons (RvJ.pu rfl) (RvJL.cons (RvJ.pu rfl) (RvJL.cons (RvJ.ownP rfl) RvJL.nil))) (fun _=>rfl) (fun _=>rfl) (fun v k1 hv hk1 hk1'=>?_)
 rcases hv with rfl|rfl
 all_goals
  conv=>whnf
  refine CallS.cnt (order2O l r n c k1 _ _ hn (by omega) (by omega) (by omega) (by omega) (by omega) (by omega)) (RvJL.cons (RvJ.pu rfl) (RvJL.cons (RvJ.pu rfl) (RvJL.cons (RvJ.ownP rfl) RvJL.nil))) (fun _=>rfl) (fun _=>rfl) (fun v k2 hv hk2 hk2'=>?_)
  rcases hv with rfl|rfl
 all_goals
  conv=>whnf
  refine CallS.cnt (order2O l r n c k2 _ _ hn (by omega) (by omega) (by omega) (by omega) (by omega) (by omega)) (RvJL.cons (RvJ.pu rfl) (RvJL.cons (RvJ.pu rfl) (RvJL.cons (RvJ.ownP rfl) RvJL.nil))) (fun _=>rfl) (fun _=>rfl) (fun v k3 hv hk3 hk3'=>?_)
  rcases hv with rfl|rfl
 all_goals
  conv=>whnf
  exact FinAt.asis (ars:=[I _]) [] (RvL.pu rfl) (by simp) (by show 2≤_;simp) (okAr2 rfl) ⟨⟨_,rfl,by simp⟩,k3,by omega,by omega,rfl⟩
theorem medAdjO(l:List Int)(r:List Value)(n c:Nat)(k x:Int)(hn:l.length=n)(h0:1≤x)(hx:x+1<n)(hk:0≤k)(hk2:k≤900)(hc:n≤1000000) :
  CntC i1 1 239 n c l r k 3 [I x,.own 1 0] (fun v=>∃ p,v=I p∧x-1≤p∧p≤x+1):=by
 refine enterO tabOk (N:=15) (gs:=[_,_]) (args:=[_,_,_]) Tryz.func239 rfl rfl rfl (nLe rfl) (fun E hE=>?_)
 conv=>whnf
 repeat' ((refine Ob.mk (by unfold W.I64 at *;omega) ?_);conv=>whnf)
 refine CallS.cnt (medianO l r n c k _ _ _ hn (by omega) (by omega) (by omega) (by omega) (by omega) (by omega) (by omega) (by omega)) (RvJL.cons (RvJ.pu rfl) (RvJL.cons (RvJ.pu rfl) (RvJL.cons (RvJ.pu rfl) (RvJL.cons (RvJ.ownP rfl) RvJL.nil)))) (fun _=>rfl) (fun _=>rfl) (fun v k1 hv hk1 hk1'=>?_)
 obtain⟨p,rfl,hp⟩:=hv
 conv=>whnf
 exact FinAt.asis (ars:=[I _]) [] (RvL.pu rfl) (by simp) (by show 2≤_;simp) (okAr2 rfl) ⟨⟨p,rfl,by omega,by omega⟩,k1,by omega,by omega,rfl⟩
theorem pivotO(l:List Int)(r:List Value)(n c:Nat)(x y:Int)(hn:l.length=n)(h0:0≤x)(hx:x<y)(hy:y≤n)(hc:n≤1000000) :
  SortC i1 1 228 n c l r [I x,I y] (fun v=>∃ p h,v=.tup [I p,I h]∧x≤p∧p<y):=by
 have fin:∀ (p h k:Int),x≤p→p<y→FinAt 1 [I p,I h] [.blk (ar i1 l r),.blk [I k]] (fun v gs=>(∃ p h,v=.tup [I p,I h]∧x≤p∧p<y)∧∃ l',l'.Perm l∧gs=[.blk (ar i1 l' r)]):=fun p h k h1 h2=>FinAt.asis (ars:=[I _,I _]) [] (RvL.pu rfl) (by simp) (by show 1≤_;simp) okAr ⟨⟨p,h,rfl,h1,h2⟩,l,.refl _,rfl⟩
 refine enterO tabOk (N:=57) (gs:=[_]) (args:=[_,_,_]) Tryz.func228 rfl rfl rfl (nLe rfl) (fun E hE=>?_)
 conv=>whnf
 repeat' (first|((first|refine Br.pt (by omega) ?_|refine Ob.mk (by unfold W.I64 at *;omega) ?_);conv=>whnf)|((refine Br.d (fun h=>?_) (fun h=>?_))<;>conv=>whnf))
 ·refine CallS.cnt (medAdjO l r n c 0 _ hn (by omega) (by omega) (by omega) (by omega) hc) (RvJL.cons (RvJ.pu rfl) (RvJL.cons (RvJ.ownP rfl) RvJL.nil)) (fun _=>rfl) (fun _=>rfl) (fun v k1 hv hk1 hk1'=>?_)
  obtain⟨p1,rfl,hp1,hp1'⟩:=hv
  conv=>whnf
  refine CallS.cnt (medAdjO l r n c k1 _ hn (by omega) (by omega) (by omega) (by omega) hc) (RvJL.cons (RvJ.pu rfl) (RvJL.cons (RvJ.ownP rfl) RvJL.nil)) (fun _=>rfl) (fun _=>rfl) (fun v k2 hv hk2 hk2'=>?_)
  obtain⟨p2,rfl,hp2,hp2'⟩:=hv
  conv=>whnf
  refine CallS.cnt (medAdjO l r n c k2 _ hn (by omega) (by omega) (by omega) (by omega) hc) (RvJL.cons (RvJ.pu rfl) (RvJL.cons (RvJ.ownP rfl) RvJL.nil)) (fun _=>rfl) (fun _=>rfl) (fun v k3 hv hk3 hk3'=>?_)
  obtain⟨p3,rfl,hp3,hp3'⟩:=hv
  conv=>whnf
  refine CallS.cnt (medianO l r n c k3 _ _ _ hn (by omega) (by omega) (by omega) (by omega) (by omega) (by omega) (by omega) (by omega)) (RvJL.cons (RvJ.pu rfl) (RvJL.cons (RvJ.pu rfl) (RvJL.cons (RvJ.pu rfl) (RvJL.cons (RvJ.ownP rfl) RvJL.nil)))) (fun _=>rfl) (fun _=>rfl) (fun v k4 hv hk4 hk4'=>?_)
  obtain⟨p4,rfl,hp4⟩:=hv
  conv=>whnf
  repeat' ((refine Br.d (fun h=>?_) (fun h=>?_))<;>conv=>whnf)
  all_goals exact fin _ _ _ (by omega) (by omega)
 ·refine CallS.cnt (medianO l r n c 0 _ _ _ hn (by omega) (by omega) (by omega) (by omega) (by omega) (by omega) (by omega) (by omega)) (RvJL.cons (RvJ.pu rfl) (RvJL.cons (RvJ.pu rfl) (RvJL.cons (RvJ.pu rfl) (RvJL.cons (RvJ.ownP rfl) RvJL.nil)))) (fun _=>rfl) (fun _=>rfl) (fun v k4 hv hk4 hk4'=>?_)
  obtain⟨p4,rfl,hp4⟩:=hv
  conv=>whnf
  repeat' (first|((refine Br.pf (by omega) ?_);conv=>whnf)|((refine Br.d (fun h=>?_) (fun h=>?_))<;>conv=>whnf))
  all_goals exact fin _ _ _ (by omega) (by omega)
 all_goals exact fin _ _ _ (by omega) (by omega)
theorem madeInt(kd:IntKind)(n:Nat):madeCells (Value.int kd 0).cells n=(List.replicate n (Value.int kd 0)).toArray:=by
 apply Array.ext
 ·simp [madeCells]
 ·intro i h1 h2
  simp [madeCells,Value.cells,Nat.mod_one]
theorem OpAt.mkSl{P:Program}{N:Nat}{E:En}{o:Oper}{tm:Tm}{own:Ow}{K:Tm→Ow→Prop}{t et:TypeId}{x y:Operand}{m bts:Nat}{kd:IntKind}{e:Int→List AV}(he:∀ x,e x=[.int kd x])(ho:o.op=.makeSlice t x y)(ht:P.underlying t=some (.slice et))(hi:(P.info? et).map (fun i=>(i.zero,i.size,i.bytes))=some (some (.int kd 0),1,bts))(hb:bts*m≤281474976710656)(hm:m≤1000000000)
  (hx:ev tm x fun v=>v=.int .i64 m) (hy:ev tm y fun v=>v=.int .i64 m) (hK:put N tm o.dst (.sl own.length 0 1 m m) fun tm=>K tm (own++[.blk (ar e (List.replicate m 0) [])])):OpAt P N E o K tm own:=by
 refine⟨fun S ids a n hs Q=>?_⟩
 obtain⟨i,h1,h5⟩:=Option.map_eq_some_iff.1 hi
 simp only [Prod.mk.injEq] at h5
 obtain⟨h2,h3,h4⟩:=h5
 obtain⟨_,rfl,hx⟩:=ev_sound hx
 obtain⟨_,rfl,hy⟩:=ev_sound hy
 have ex:=(hx S n ids a hs.sl).int
 have ey:=(hy S n ids a hs.sl).int
 have hcs:ar e (List.replicate m (0:Int)) []=List.replicate m (.int kd 0):=by
  unfold ar
  rw [List.map_nil,List.append_nil]
  have:∀ m,List.flatMap e (List.replicate m (0:Int))=List.replicate m (.int kd 0):=fun m=>by
   induction m with
   |zero=>rfl
   |succ m ih=>rw [List.replicate_succ,List.flatMap_cons,ih,he];rfl
  exact this m
 have hall:all2 (R1 S n ids) (List.replicate m (.int kd 0)) (List.replicate m (Value.int kd 0)):=by
  have:∀ m,all2 (R1 S n ids) (List.replicate m (.int kd 0)) (List.replicate m (Value.int kd 0)):=fun m=>by
   induction m with
   |zero=>trivial
   |succ m ih=>exact⟨rfl,ih⟩
  exact this m
 have hb':(i.bytes:Int)*(m:Int)≤281474976710656:=by
  rw [h4]
  have h:((bts*m:Nat):Int)≤281474976710656:=by omega
  rwa [Int.natCast_mul] at h
 have hr:=run_make (P:=P) n t et i (.int kd 0) ht h1 h2 .i64 .i64 m m (by omega) (Int.le_refl _) hb' (by omega)
 rw [h3,Nat.mul_one,Int.toNat_natCast,madeInt] at hr
 rw [hcs] at hK
 have hs1:=hs.new (List.replicate m (.int kd 0)) (List.replicate m (Value.int kd 0)) et hall
 obtain⟨tm',k1,k2⟩:=put_sound hK
 have hv:R S (n.alloc (.cells (List.replicate m (Value.int kd 0)).toArray et)) (ids++[Loc.at_ n.heap.size]) (.sl own.length 0 1 m m) (.slice (some ⟨n.heap.size,0,none⟩) m m):=⟨n.heap.size,by rw [← hs.len,nth_append_new],rfl⟩
 have:=k2 E _ S _ a _ _ hs1 hv
 unfold Oper.wp execOp
 simp only [ho,ex,ey,Sem.run_bind,hr,Result.andThen_ok,Sem.run_pure]
 exact⟨tm',_,S,_,k1,this⟩
def U64(q:Int):Prop:=0≤q∧q<18446744073709551616
theorem wMul(a b:Int)(ha:U64 a)(hb:U64 b):Ret Tryz.prog 190 [.int .u64 a,.int .u64 b] (·=.agg [.int .u64 (hiN (a.toNat*b.toNat):Int),.int .u64 (loN (a.toNat*b.toNat):Int)]):=by
 unfold U64 at ha hb
 obtain⟨p,rfl⟩:=Int.eq_ofNat_of_zero_le ha.1
 obtain⟨q,rfl⟩:=Int.eq_ofNat_of_zero_le hb.1
 exact Ret.flat rfl rfl fun w=>wmulN p q w (by omega) (by omega)
theorem wCmp(a b c d:Int):Ret Tryz.prog 203 [.agg [.int .u64 a,.int .u64 b],.agg [.int .u64 c,.int .u64 d]] (·=I (W.cmp a b c d)):=Ret.flat rfl rfl fun w=>wcmp_any a b c d w
section
variable{P:Program}{o:Oper}{tm:Tm}{own:Ow}{K:AV→Prop}
theorem QAt.shlE{t t':TypeId}{x y:Operand}{k:IntKind}{q:Int}(ho:o.op=.binOp .shl t x y t')(hx:ev tm x fun v=>v=.int .u64 1)(hy:ev tm y fun v=>v=.int k q)(j:Nat)(hq:q=j)(hq2:j≤63)(hK:K (.int .u64 ((2 ^ j:Nat):Int))):QAt P o tm own K:=by
 subst hq
 have hp:2 ^ j≤2 ^ 63:=Nat.pow_le_pow_right (by omega) hq2
 have hp0:0<2 ^ j:=Nat.two_pow_pos _
 have hm:min j IntKind.u64.bits=j:=Nat.min_eq_left (by show j≤64;omega)
 refine QAt.bin ho hx hy rfl rfl (r:=.int .u64 ((2 ^ j:Nat):Int)) rfl (fun w=>?_) hK
 simp only [val]
 rw [Sem.run_bind,guard_int]
 have hq':¬ ((j:Int)<0):=by omega
 simp only [Go.binOp,Op.shift,hq',if_false,Int.toNat_natCast]
 rw [hm,Int.one_mul]
 have e:((2:Int) ^ j)=((2 ^ j:Nat):Int):=by rw [Int.natCast_pow];rfl
 rw [e,wrap_u64_id (by omega) (by have:(2:Nat) ^ 63=9223372036854775808:=(by decide);omega)]
 rfl
theorem QAt.orE{t t':TypeId}{x y:Operand}(p q:Nat)(hp:p<2 ^ 64)(hq:q<2 ^ 64)(ho:o.op=.binOp .or t x y t')(hx:ev tm x fun v=>v=.int .u64 (p:Int))(hy:ev tm y fun v=>v=.int .u64 (q:Int))(hK:K (.int .u64 ((p ||| q:Nat):Int))):QAt P o tm own K:=by
 have e:(BitVec.ofInt 64 (p:Int) ||| BitVec.ofInt 64 (q:Int):BitVec 64).toNat=p ||| q:=by
  rw [BitVec.toNat_or,BitVec.toNat_ofInt,BitVec.toNat_ofInt]
  congr 1<;>omega
 have hlt:=Nat.or_lt_two_pow hp hq
 refine QAt.bin ho hx hy rfl rfl (r:=.int .u64 (IntKind.u64.wrap (((BitVec.ofInt 64 (p:Int) ||| BitVec.ofInt 64 (q:Int):BitVec 64).toNat:Nat):Int))) rfl (fun w=>?_) ?_
 ·simp only [val]
  rw [Sem.run_bind,guard_int]
  rfl
 ·rw [e,wrap_u64_id (by omega) (by have:(2:Nat) ^ 64=18446744073709551616:=(by decide);omega)]
  exact hK
end
theorem wRoot(h l:Int)(hh:0≤h∧h<4611686018427387904):Ret Tryz.prog 191 [.agg [.int .u64 h,.int .u64 l]] (fun v=>∃ q:Nat,v=.int .u64 (q:Int)∧q<9223372036854775808):=by
 refine enterO tabOk (N:=23) (gs:=[]) (args:=[_]) Tryz.func191 rfl rfl rfl (nLe rfl) (fun E hE=>?_)
 conv=>whnf
 refine LoopAt.rule tabOk [(1,_)] (fun (i:Nat×Nat)=>[(3,.int .u64 (i.1:Int)),(4,.int .i64 ((i.2:Int)-1))]) (fun (i:Nat×Nat)=>[.blk [.int .u64 h,.int .u64 l]]) (fun (i:Nat×Nat)=>(i.2=64∧i.1=0)∨(i.2≤63∧i.1<9223372036854775808)) (fun (i:Nat×Nat)=>i.2) (0,64) (by trivial) (.inl ⟨rfl,rfl⟩) (by trivial) (by trivial) (fun _=>⟨rfl,rfl,rfl,by simp [hE]⟩) (fun i hk=>?_)
 obtain⟨q,k⟩:=i
 dsimp only at hk ⊢
 rcases hk with ⟨rfl,rfl⟩|⟨hk,hq⟩
 ·have hor:((0 ||| 2 ^ 63:Nat):Int)=9223372036854775808:=by decide
  have hu:U64 ((0 ||| 2 ^ 63:Nat):Int):=by rw [hor];unfold U64;omega
  have hm:hiN (((0 ||| 2 ^ 63:Nat):Int).toNat*((0 ||| 2 ^ 63:Nat):Int).toNat)=4611686018427387904:=by decide
  have hc:W.cmp (hiN (((0 ||| 2 ^ 63:Nat):Int).toNat*((0 ||| 2 ^ 63:Nat):Int).toNat):Int) (loN (((0 ||| 2 ^ 63:Nat):Int).toNat*((0 ||| 2 ^ 63:Nat):Int).toNat):Int) h l=1:=by
   rw [hm]
   unfold W.cmp
   rw [if_neg (by omega),if_neg (by omega)]
  have hwz:IntKind.u64.wrap (((64:Nat):Int)-1)=(63:Nat):=by decide
  conv=>whnf
  repeat' ((first|refine QAt.shlE rfl rfl rfl 63 hwz (by omega) ?_|refine QAt.orE 0 (2 ^ 63) (by decide) (by decide) rfl rfl rfl ?_|refine Br.pt (by omega) ?_|refine Br.pf (by omega) ?_|refine CallX.pu (wMul _ _ hu hu) rfl rfl ?_|refine CallX.pu (wCmp _ _ _ _) rfl rfl ?_|refine Ob.mk (by unfold W.I64 at *;omega) ?_|refine Drw.loose (by kernel_rfl) ?_);conv=>whnf)
  all_goals first
   |exact⟨(0,63),.inr ⟨by omega,by omega⟩,by dsimp only;omega,(by (repeat refine And.intro (by first|rfl|exact congrArg (fun z=>some (AV.int .i64 z)) (by first|omega|(dsimp only;omega))) ?_);exact trivial),(by trivial),(by trivial)⟩
   |(exfalso;omega)
 ·by_cases hk0:k=0
  ·subst hk0
   conv=>whnf
   repeat' ((first|refine Br.nf (by assumption) ?_|refine FinAt.val rfl ?_);conv=>whnf)
   exact⟨q,rfl,hq⟩
  ·obtain⟨j,rfl⟩:∃ j,k=j+1:=⟨k-1,by omega⟩
   have hj:2 ^ j<2 ^ 63:=Nat.pow_lt_pow_right (by omega) (by omega)
   have hor:q ||| 2 ^ j<2 ^ 63:=Nat.or_lt_two_pow (by rw [show (2:Nat) ^ 63=9223372036854775808 by decide];exact hq) hj
   rw [show (2:Nat) ^ 63=9223372036854775808 by decide] at hor hj
   have hu:U64 ((q ||| 2 ^ j:Nat):Int):=by unfold U64;omega
   have hwz:IntKind.u64.wrap (((j+1:Nat):Int)-1)=(j:Nat):=by rw [wrap_u64_id (by omega) (by omega)];omega
   conv=>whnf
   repeat' (first|((first|refine QAt.shlE rfl rfl rfl j hwz (by omega) ?_|refine QAt.orE q (2 ^ j) (by omega) (by omega) rfl rfl rfl ?_|refine Br.pt (by omega) ?_|refine CallX.pu (wMul _ _ hu hu) rfl rfl ?_|refine CallX.pu (wCmp _ _ _ _) rfl rfl ?_|refine Ob.mk (by unfold W.I64 at *;omega) ?_|refine Drw.loose (by kernel_rfl) ?_);conv=>whnf)|((refine Br.d (fun h=>?_) (fun h=>?_))<;>conv=>whnf))
   ·exact⟨(q ||| 2 ^ j,j),.inr ⟨by omega,by omega⟩,by dsimp only;omega,(by (repeat refine And.intro (by first|rfl|exact congrArg (fun z=>some (AV.int .i64 z)) (by first|omega|(dsimp only;omega))) ?_);exact trivial),(by trivial),(by trivial)⟩
   ·exact⟨(q,j),.inr ⟨by omega,hq⟩,by dsimp only;omega,(by (repeat refine And.intro (by first|rfl|exact congrArg (fun z=>some (AV.int .i64 z)) (by first|omega|(dsimp only;omega))) ?_);exact trivial),(by trivial),(by trivial)⟩
theorem hiN_small(a b:Nat)(ha:a<9223372036854775808)(hb:b<9223372036854775808):hiN (a*b)<4611686018427387904:=by
 have:a*b≤9223372036854775807*9223372036854775807:=Nat.mul_le_mul (by omega) (by omega)
 unfold hiN
 omega
theorem rRoot(a b:Int)(ha:W.I64 a)(hb:W.I64 b):Ret Tryz.prog 155 [I a,I b] (fun v=>∃ q e:Int,v=.tup [I q,I e]∧W.I64 q):=by
 refine enterO tabOk (N:=19) (gs:=[]) (args:=[_,_]) Tryz.func155 rfl rfl rfl (nLe rfl) (fun E hE=>?_)
 unfold W.I64 at ha hb
 by_cases hab:0≤a∧0≤b
 ·have h1:IntKind.u64.wrap a=a:=wrap_u64_id (by omega) (by omega)
  have h2:IntKind.u64.wrap b=b:=wrap_u64_id (by omega) (by omega)
  have hm:=wMul a b (by unfold U64;omega) (by unfold U64;omega)
  have hs:=hiN_small a.toNat b.toNat (by omega) (by omega)
  obtain⟨hi,ehi⟩:∃ hi,hi=hiN (a.toNat*b.toNat):=⟨_,rfl⟩
  obtain⟨lo,elo⟩:∃ lo,lo=loN (a.toNat*b.toNat):=⟨_,rfl⟩
  have hs0:0≤hiN (a.toNat*b.toNat):=by unfold hiN;omega
  rw [← ehi] at hs hs0
  rw [← ehi,← elo] at hm
  conv=>whnf
  repeat' ((refine Br.pf (by omega) ?_);conv=>whnf)
  rw [h1,h2]
  refine CallS.call (CallN.pu hm rfl ?_)
  conv=>whnf
  refine CallS.call (CallN.puP (wRoot _ _ ⟨by omega,by omega⟩) rfl (fun v hv=>?_))
  obtain⟨q,rfl,hq⟩:=hv
  conv=>whnf
  repeat' ((first|refine Ob.mk (by unfold W.I64 at *;omega) ?_|refine FinAt.val rfl ?_);conv=>whnf)
  exact⟨q,0,rfl,by unfold W.I64;omega⟩
 ·conv=>whnf
  repeat' (first|((first|refine Br.pt (by assumption) ?_|refine Br.pf (by assumption) ?_|refine Br.pt (by omega) ?_|refine Br.ot rfl ?_|refine FinAt.val rfl ?_);conv=>whnf)|((refine Br.d (fun h=>?_) (fun h=>?_))<;>conv=>whnf))
  all_goals first
   |exact⟨0,10,rfl,by unfold W.I64;omega⟩
   |(exfalso;omega)
theorem permitted_(c:W.Conf)(x:Int)(hx:W.I64 x)(hc:W.I64 (2*c.brake))(hm:W.I64 c.maxSpeed):Ret Tryz.prog 109 [confV c,I x] (fun v=>∃ q:Int,v=I q∧W.I64 q):=by
 refine enterO tabOk (N:=27) (gs:=[]) (args:=[_,_]) Tryz.func109 rfl rfl rfl (nLe rfl) (fun E hE=>?_)
 have hmx:W.I64 (max x 0):=by unfold W.I64 at *;omega
 conv=>whnf
 repeat' ((refine Ob.mk (by omega) ?_);conv=>whnf)
 refine CallS.call (CallN.puP (rRoot _ _ hc hmx) rfl (fun v hv=>?_))
 obtain⟨q,e,rfl,hq⟩:=hv
 conv=>whnf
 repeat' (first|((first|refine Br.nt (by assumption) ?_|refine Br.nf (by assumption) ?_|refine Br.ot rfl ?_|refine FinAt.val rfl ?_);conv=>whnf)|((first|refine Br.d (fun h=>?_) (fun h=>?_)|refine Br.n (fun h=>?_) (fun h=>?_))<;>conv=>whnf))
 all_goals exact⟨_,rfl,by assumption⟩
abbrev bytesV(l:List Nat):AV:=.lst 1 l.length fun i=>[.int .u8 ((l.getD i 0:Nat):Int)]
theorem bytesV_drop(a b:List Nat)(k:Nat)(hk:k=a.length):AV.lst 1 ((a++b).length-k) (shf (fun i=>[.int .u8 (((a++b).getD i 0:Nat):Int)]) (some k))=bytesV b:=by
 subst hk
 unfold bytesV shf
 congr 1
 ·simp
 ·funext i
  have:(a++b).getD (a.length+i) 0=b.getD i 0:=by
   simp [List.getD,List.getElem?_append_right]
  show [AV.int IntKind.u8 (((a++b).getD (a.length+i) 0:Nat):Int)]=_
  rw [this]
theorem be_snoc(l:List Nat)(c:Nat):W.be (l++[c])=W.be l*256+c:=by simp [W.be]
theorem be_from:∀ (l:List Nat) (v:Nat),(∀ x∈l,x<256)→l.foldl (fun v c=>v*256+c) v<(v+1)*256 ^ l.length
 |[],v,_=>by simp
 |c::l,v,h=>by
  rw [List.foldl_cons,List.length_cons,Nat.pow_succ]
  have h1:=be_from l (v*256+c) fun x hx=>h x (List.mem_cons_of_mem _ hx)
  have h2:=h c List.mem_cons_self
  have h3:(v*256+c+1)*256 ^ l.length≤((v+1)*256)*256 ^ l.length:=Nat.mul_le_mul_right _ (by omega)
  have h4:(v+1)*(256 ^ l.length*256)=((v+1)*256)*256 ^ l.length:=by
   rw [Nat.mul_comm (256 ^ l.length),← Nat.mul_assoc]
  omega
theorem be_lt(l:List Nat)(h:∀ x∈l,x<256):W.be l<256 ^ l.length:=by
 have:=be_from l 0 h
 unfold W.be
 omega
section
variable{P:Program}{o:Oper}{tm:Tm}{own:Ow}{K:AV→Prop}
theorem QAt.shl8{t t':TypeId}{x y:Operand}(p:Nat)(hp:p<72057594037927936)(ho:o.op=.binOp .shl t x y t')(hx:ev tm x fun v=>v=.int .u64 (p:Int))(hy:ev tm y fun v=>v=.int .u64 8)(hK:K (.int .u64 ((p*256:Nat):Int))):QAt P o tm own K:=by
 refine QAt.bin ho hx hy rfl rfl (r:=.int .u64 ((p*256:Nat):Int)) rfl (fun w=>?_) hK
 simp only [val]
 rw [Sem.run_bind,guard_int]
 have hm:min (8:Int).toNat IntKind.u64.bits=8:=by decide
 have h8:¬ ((8:Int)<0):=by omega
 simp only [Go.binOp,Op.shift,h8,if_false,hm]
 have e:((p:Int)*(2:Int) ^ 8)=((p*256:Nat):Int):=by
  rw [show ((2:Int) ^ 8)=256 by decide]
  omega
 rw [e,wrap_u64_id (by omega) (by omega)]
 rfl
end
theorem or8(p c:Nat)(hc:c<256):p*256 ||| c=p*256+c:=by
 have:=Nat.two_pow_add_eq_or_of_lt (i:=8) hc p
 rw [Nat.mul_comm,show (256:Nat)=2 ^ 8 by decide]
 exact this.symm
theorem numC(L rest:List Nat)(n:Int)(hn:(L.length:Int)=n)(h8:L.length≤8)(hb:∀ x∈L,x<256)(hv:W.be L<9223372036854775808) :
  RetO Tryz.prog 115 [.blk [bytesV (L++rest),.bool false]] [.own 0 0,I n] (fun v gs'=>v=I (W.be L:Int)∧gs'=[.blk [bytesV rest,.bool false]]):=by
 subst hn
 have hlen:(L++rest).length=L.length+rest.length:=by simp
 refine enterO tabOk (N:=56) (gs:=[_]) (args:=[_,_]) Tryz.func115 rfl rfl rfl (nLe rfl) (fun E hE=>?_)
 have hel:∀ i,i<L.length→(L++rest).getD i 0=L.getD i 0:=fun i hi=>by simp [List.getD,List.getElem?_append_left hi]
 have hsl:(some L.length).getD (L++rest).length-(none:Option Nat).getD 0=L.length:=rfl
 have hdec:decide (((L++rest).length:Int)<(L.length:Int))=false:=decide_eq_false (by omega)
 conv=>whnf
 repeat' ((first|refine Br.of (by assumption) ?_|refine Br.of rfl ?_|refine Ob.mk (by simp only [Option.getD_some,Option.getD_none];omega) ?_|refine Ix.nat _ ?_);conv=>whnf)
 refine LoopAt.rule tabOk [(0,_),(1,_),(33,_),(34,_)] (fun (i:Nat)=>[(35,.int .i64 (i:Int)),(5,.int .u64 (W.be (L.take i):Int))]) (fun (i:Nat)=>[.blk [bytesV (L++rest),.bool (decide (((L++rest).length:Int)<(L.length:Int)))]]) (fun (i:Nat)=>i≤L.length) (fun (i:Nat)=>L.length-i) 0 (by trivial) (Nat.zero_le _) (by trivial) (by trivial) (fun _=>⟨rfl,rfl,rfl,by simp [hE]⟩) (fun i hk=>?_)
 have hbt:W.be (L.take i)<256 ^ (L.take i).length:=be_lt _ fun x hx=>hb x (List.mem_of_mem_take hx)
 by_cases hlt:i<L.length
 ·have hc:(L++rest).getD i 0<256:=by
   rw [hel i hlt]
   exact hb _ (by simp [List.getD,hlt])
  have hsn:W.be (L.take (i+1))=W.be (L.take i)*256+(L++rest).getD i 0:=by
   rw [List.take_succ_eq_append_getElem hlt,be_snoc,hel i hlt]
   simp [List.getD,hlt]
  have hp:W.be (L.take i)<72057594037927936:=by
   have h7:(L.take i).length≤7:=by rw [List.length_take];omega
   have:=Nat.pow_le_pow_right (show 0<256 by omega) h7
   have e:256 ^ 7=72057594037927936:=by decide
   omega
  have hw:IntKind.u64.wrap (((L++rest).getD i 0:Nat):Int)=(((L++rest).getD i 0:Nat):Int):=wrap_u64_id (by omega) (by omega)
  obtain⟨p,hpe⟩:∃ p,p=W.be (L.take i):=⟨_,rfl⟩
  rw [← hpe] at hsn hp ⊢
  conv=>whnf
  repeat' ((first|refine QAt.shl8 _ hp rfl rfl rfl ?_|refine QAt.orE (p*256) ((L++rest).getD i 0) (by omega) (by omega) rfl rfl (by rw [hw];rfl) ?_|refine Br.pt (by omega) ?_|refine Ob.mk (by omega) ?_|refine Ob.mk (by unfold W.I64 at *;omega) ?_|refine Ix.nat _ ?_);conv=>whnf)
  refine⟨i+1,by omega,by omega,?_,(by trivial),(by trivial)⟩
  rw [hsn,← or8 p _ hc]
  exact(by trivial)
 ·obtain rfl:i=L.length:=by omega
  rw [List.take_length]
  conv=>whnf
  repeat' ((first|refine Br.pf (by omega) ?_|refine Ob.mk (by unfold W.I64 at *;omega) ?_|refine Ob.mk (by simp only [Option.getD_some,Option.getD_none];omega) ?_|refine Ix.nat _ ?_);conv=>whnf)
  refine FinAt.asis (ars:=[I (W.be L:Int)]) [] (RvL.pu rfl) (by simp) (by show 1≤_;simp) rfl ⟨rfl,?_⟩
  have:=bytesV_drop L rest L.length rfl
  rw [← this,← hdec]
  rfl
theorem apMPiece:Ap Tryz.prog 189 200 2:=⟨.agg ⟨[.int .i64 0,.int .i64 0]⟩,16,by kernel_rfl,by kernel_rfl,rfl,by decide,by decide⟩
theorem manyPiece(xs:List W.Piece)(D:Nat→List Nat)(hx:∀ k,k<xs.length→RetO Tryz.prog 117 [.blk [bytesV (D k),.bool false]] [.own 0 0] (fun v gs'=>v=.agg (pcC (xs.getD k default))∧gs'=[.blk [bytesV (D (k+1)),.bool false]]))(hn:xs.length≤1000) :
  RetO Tryz.prog 116 [.blk [bytesV (D 0),.bool false]] [I (xs.length:Int),.fn 117 [.own 0 0] []] (fun v gs'=>v=.lst 2 xs.length (fun i=>pcC (xs.getD i default))∧gs'=[.blk [bytesV (D xs.length),.bool false]]):=by
 refine enterO tabOk (N:=16) (gs:=[_]) (args:=[_,_]) Tryz.func116 rfl rfl rfl (nLe rfl) (fun E hE=>?_)
 conv=>whnf
 refine LoopAt.emp 5 200 2 rfl ?_
 refine LoopAt.rule tabOk [(1,_),(6,_)] (fun (i:Nat×List (List AV))=>[(7,.int .i64 (i.1:Int)),(5,.gro 1 i.1)]) (fun (i:Nat×List (List AV))=>[.blk [bytesV (D i.1),.bool false],.buf 200 2 i.2]) (fun (i:Nat×List (List AV))=>i.1≤xs.length∧i.2=(List.range i.1).map (fun j=>pcC (xs.getD j default))) (fun (i:Nat×List (List AV))=>xs.length-i.1) (0,[]) (by trivial) ⟨Nat.zero_le _,rfl⟩ (by trivial) (by trivial) (fun _=>⟨rfl,rfl,rfl,by simp [hE]⟩) (fun i hk=>?_)
 obtain⟨k,cs⟩:=i
 obtain⟨hk,hcs⟩:=hk
 dsimp only at hk hcs ⊢
 have hcl:cs.length=k:=by rw [hcs,List.length_map,List.length_range]
 by_cases hlt:k<xs.length
 ·conv=>whnf
  repeat' ((refine Br.pt (by omega) ?_);conv=>whnf)
  refine CallS.call (CallN.upd [0] [] (RvJL.cons (RvJ.ownP rfl) RvJL.nil) (Als.nil _) (by simp) (Giv.one rfl (by simp) (RcJ.pu rfl)) (hx k hlt) (fun v gs' hp _=>?_))
  obtain⟨rfl,rfl⟩:=hp
  conv=>whnf
  repeat' ((first|refine OpAt.appG apMPiece rfl [2] rfl rfl rfl hcl (by simp) (by repeat (first|exact Als.nil _|refine Als.cons rfl rfl ?_)) (by simp [hE]) (Xs.one rfl rfl rfl (RvL.pu rfl) rfl) (by decide) (by omega) ?_|refine Ob.mk (by unfold W.I64 at *;omega) ?_|refine BsN.mark ?_);conv=>whnf)
  refine⟨(k+1,cs++[pcC (xs.getD k default)]),⟨by dsimp only;omega,?_⟩,by dsimp only;omega,(by trivial),(by trivial),(by trivial)⟩
  rw [List.range_succ,List.map_append,hcs]
  rfl
 ·obtain rfl:k=xs.length:=by omega
  conv=>whnf
  repeat' ((refine Br.pf (by omega) ?_);conv=>whnf)
  refine FinAt.one (ars:=[.lst 2 xs.length (fun i=>pcC (xs.getD i default))]) [1] (RvL.cons ?_ RvL.nil) (by simp [nth,alive]) rfl (RvL.pu rfl) ⟨rfl,rfl⟩
  refine Rv.gro (by simp) rfl hcl (fun j hj=>PLe.of (by rw [hcs];simp [List.getD,hj]))
theorem apMInt:Ap Tryz.prog 28 3 1:=⟨.int .i64 0,8,by kernel_rfl,by kernel_rfl,rfl,by decide,by decide⟩
theorem manyInt(xs:List Int)(D:Nat→List Nat)(hx:∀ k,k<xs.length→RetO Tryz.prog 119 [.blk [bytesV (D k),.bool false]] [.own 0 0] (fun v gs'=>v=I (xs.getD k 0)∧gs'=[.blk [bytesV (D (k+1)),.bool false]]))(hn:xs.length≤1000) :
  RetO Tryz.prog 118 [.blk [bytesV (D 0),.bool false]] [I (xs.length:Int),.fn 119 [.own 0 0] []] (fun v gs'=>v=.lst 1 xs.length (fun i=>i1 (xs.getD i 0))∧gs'=[.blk [bytesV (D xs.length),.bool false]]):=by
 refine enterO tabOk (N:=16) (gs:=[_]) (args:=[_,_]) Tryz.func118 rfl rfl rfl (nLe rfl) (fun E hE=>?_)
 conv=>whnf
 refine LoopAt.emp 5 3 1 rfl ?_
 refine LoopAt.rule tabOk [(1,_),(6,_)] (fun (i:Nat×List (List AV))=>[(7,.int .i64 (i.1:Int)),(5,.gro 1 i.1)]) (fun (i:Nat×List (List AV))=>[.blk [bytesV (D i.1),.bool false],.buf 3 1 i.2]) (fun (i:Nat×List (List AV))=>i.1≤xs.length∧i.2=(List.range i.1).map (fun j=>i1 (xs.getD j 0))) (fun (i:Nat×List (List AV))=>xs.length-i.1) (0,[]) (by trivial) ⟨Nat.zero_le _,rfl⟩ (by trivial) (by trivial) (fun _=>⟨rfl,rfl,rfl,by simp [hE]⟩) (fun i hk=>?_)
 obtain⟨k,cs⟩:=i
 obtain⟨hk,hcs⟩:=hk
 dsimp only at hk hcs ⊢
 have hcl:cs.length=k:=by rw [hcs,List.length_map,List.length_range]
 by_cases hlt:k<xs.length
 ·conv=>whnf
  repeat' ((refine Br.pt (by omega) ?_);conv=>whnf)
  refine CallS.call (CallN.upd [0] [] (RvJL.cons (RvJ.ownP rfl) RvJL.nil) (Als.nil _) (by simp) (Giv.one rfl (by simp) (RcJ.pu rfl)) (hx k hlt) (fun v gs' hp _=>?_))
  obtain⟨rfl,rfl⟩:=hp
  conv=>whnf
  repeat' ((first|refine OpAt.appG apMInt rfl [2] rfl rfl rfl hcl (by simp) (by repeat (first|exact Als.nil _|refine Als.cons rfl rfl ?_)) (by simp [hE]) (Xs.one rfl rfl rfl (RvL.pu rfl) rfl) (by decide) (by omega) ?_|refine Ob.mk (by unfold W.I64 at *;omega) ?_|refine BsN.mark ?_);conv=>whnf)
  refine⟨(k+1,cs++[i1 (xs.getD k 0)]),⟨by dsimp only;omega,?_⟩,by dsimp only;omega,(by trivial),(by trivial),(by trivial)⟩
  rw [List.range_succ,List.map_append,hcs]
  rfl
 ·obtain rfl:k=xs.length:=by omega
  conv=>whnf
  repeat' ((refine Br.pf (by omega) ?_);conv=>whnf)
  refine FinAt.one (ars:=[.lst 1 xs.length (fun i=>i1 (xs.getD i 0))]) [1] (RvL.cons ?_ RvL.nil) (by simp [nth,alive]) rfl (RvL.pu rfl) ⟨rfl,rfl⟩
  refine Rv.gro (by simp) rfl hcl (fun j hj=>PLe.of (by rw [hcs];simp [List.getD,hj]))
theorem apMSeg:Ap Tryz.prog 121 191 3:=⟨.agg ⟨[.int .i64 0,.slice none 0 0,.slice none 0 0]⟩,56,by kernel_rfl,by kernel_rfl,rfl,by decide,by decide⟩
theorem manySeg(xs:List W.Seg)(D:Nat→List Nat)(hx:∀ k,k<xs.length→RetO Tryz.prog 78 [.blk [bytesV (D k),.bool false]] [.own 0 0] (fun v gs'=>v=.agg (sgC (xs.getD k default))∧gs'=[.blk [bytesV (D (k+1)),.bool false]]))(hn:xs.length≤1000) :
  RetO Tryz.prog 76 [.blk [bytesV (D 0),.bool false]] [I (xs.length:Int),.fn 78 [.own 0 0] []] (fun v gs'=>v=.lst 3 xs.length (fun i=>sgC (xs.getD i default))∧gs'=[.blk [bytesV (D xs.length),.bool false]]):=by
 refine enterO tabOk (N:=16) (gs:=[_]) (args:=[_,_]) Tryz.func76 rfl rfl rfl (nLe rfl) (fun E hE=>?_)
 conv=>whnf
 refine LoopAt.emp 5 191 3 rfl ?_
 refine LoopAt.rule tabOk [(1,_),(6,_)] (fun (i:Nat×List (List AV))=>[(7,.int .i64 (i.1:Int)),(5,.gro 1 i.1)]) (fun (i:Nat×List (List AV))=>[.blk [bytesV (D i.1),.bool false],.buf 191 3 i.2]) (fun (i:Nat×List (List AV))=>i.1≤xs.length∧i.2=(List.range i.1).map (fun j=>sgC (xs.getD j default))) (fun (i:Nat×List (List AV))=>xs.length-i.1) (0,[]) (by trivial) ⟨Nat.zero_le _,rfl⟩ (by trivial) (by trivial) (fun _=>⟨rfl,rfl,rfl,by simp [hE]⟩) (fun i hk=>?_)
 obtain⟨k,cs⟩:=i
 obtain⟨hk,hcs⟩:=hk
 dsimp only at hk hcs ⊢
 have hcl:cs.length=k:=by rw [hcs,List.length_map,List.length_range]
 by_cases hlt:k<xs.length
 ·conv=>whnf
  repeat' ((refine Br.pt (by omega) ?_);conv=>whnf)
  refine CallS.call (CallN.upd [0] [] (RvJL.cons (RvJ.ownP rfl) RvJL.nil) (Als.nil _) (by simp) (Giv.one rfl (by simp) (RcJ.pu rfl)) (hx k hlt) (fun v gs' hp _=>?_))
  obtain⟨rfl,rfl⟩:=hp
  conv=>whnf
  repeat' ((first|refine OpAt.appG apMSeg rfl [2] rfl rfl rfl hcl (by simp) (by repeat (first|exact Als.nil _|refine Als.cons rfl rfl ?_)) (by simp [hE]) (Xs.one rfl rfl rfl (RvL.pu rfl) rfl) (by decide) (by omega) ?_|refine Ob.mk (by unfold W.I64 at *;omega) ?_|refine BsN.mark ?_);conv=>whnf)
  refine⟨(k+1,cs++[sgC (xs.getD k default)]),⟨by dsimp only;omega,?_⟩,by dsimp only;omega,(by trivial),(by trivial),(by trivial)⟩
  rw [List.range_succ,List.map_append,hcs]
  rfl
 ·obtain rfl:k=xs.length:=by omega
  conv=>whnf
  repeat' ((refine Br.pf (by omega) ?_);conv=>whnf)
  refine FinAt.one (ars:=[.lst 3 xs.length (fun i=>sgC (xs.getD i default))]) [1] (RvL.cons ?_ RvL.nil) (by simp [nth,alive]) rfl (RvL.pu rfl) ⟨rfl,rfl⟩
  refine Rv.gro (by simp) rfl hcl (fun j hj=>PLe.of (by rw [hcs];simp [List.getD,hj]))
theorem apMGrp:Ap Tryz.prog 122 195 5:=⟨.agg ⟨[.int .i64 0,.int .i64 0,.int .i64 0,.int .i64 0,.int .i64 0]⟩,40,by kernel_rfl,by kernel_rfl,rfl,by decide,by decide⟩
theorem manyGrp(xs:List W.Grp)(D:Nat→List Nat)(hx:∀ k,k<xs.length→RetO Tryz.prog 80 [.blk [bytesV (D k),.bool false]] [.own 0 0] (fun v gs'=>v=.agg (gpC (xs.getD k default))∧gs'=[.blk [bytesV (D (k+1)),.bool false]]))(hn:xs.length≤1000) :
  RetO Tryz.prog 79 [.blk [bytesV (D 0),.bool false]] [I (xs.length:Int),.fn 80 [.own 0 0] []] (fun v gs'=>v=.lst 5 xs.length (fun i=>gpC (xs.getD i default))∧gs'=[.blk [bytesV (D xs.length),.bool false]]):=by
 refine enterO tabOk (N:=16) (gs:=[_]) (args:=[_,_]) Tryz.func79 rfl rfl rfl (nLe rfl) (fun E hE=>?_)
 conv=>whnf
 refine LoopAt.emp 5 195 5 rfl ?_
 refine LoopAt.rule tabOk [(1,_),(6,_)] (fun (i:Nat×List (List AV))=>[(7,.int .i64 (i.1:Int)),(5,.gro 1 i.1)]) (fun (i:Nat×List (List AV))=>[.blk [bytesV (D i.1),.bool false],.buf 195 5 i.2]) (fun (i:Nat×List (List AV))=>i.1≤xs.length∧i.2=(List.range i.1).map (fun j=>gpC (xs.getD j default))) (fun (i:Nat×List (List AV))=>xs.length-i.1) (0,[]) (by trivial) ⟨Nat.zero_le _,rfl⟩ (by trivial) (by trivial) (fun _=>⟨rfl,rfl,rfl,by simp [hE]⟩) (fun i hk=>?_)
 obtain⟨k,cs⟩:=i
 obtain⟨hk,hcs⟩:=hk
 dsimp only at hk hcs ⊢
 have hcl:cs.length=k:=by rw [hcs,List.length_map,List.length_range]
 by_cases hlt:k<xs.length
 ·conv=>whnf
  repeat' ((refine Br.pt (by omega) ?_);conv=>whnf)
  refine CallS.call (CallN.upd [0] [] (RvJL.cons (RvJ.ownP rfl) RvJL.nil) (Als.nil _) (by simp) (Giv.one rfl (by simp) (RcJ.pu rfl)) (hx k hlt) (fun v gs' hp _=>?_))
  obtain⟨rfl,rfl⟩:=hp
  conv=>whnf
  repeat' ((first|refine OpAt.appG apMGrp rfl [2] rfl rfl rfl hcl (by simp) (by repeat (first|exact Als.nil _|refine Als.cons rfl rfl ?_)) (by simp [hE]) (Xs.one rfl rfl rfl (RvL.pu rfl) rfl) (by decide) (by omega) ?_|refine Ob.mk (by unfold W.I64 at *;omega) ?_|refine BsN.mark ?_);conv=>whnf)
  refine⟨(k+1,cs++[gpC (xs.getD k default)]),⟨by dsimp only;omega,?_⟩,by dsimp only;omega,(by trivial),(by trivial),(by trivial)⟩
  rw [List.range_succ,List.map_append,hcs]
  rfl
 ·obtain rfl:k=xs.length:=by omega
  conv=>whnf
  repeat' ((refine Br.pf (by omega) ?_);conv=>whnf)
  refine FinAt.one (ars:=[.lst 5 xs.length (fun i=>gpC (xs.getD i default))]) [1] (RvL.cons ?_ RvL.nil) (by simp [nth,alive]) rfl (RvL.pu rfl) ⟨rfl,rfl⟩
  refine Rv.gro (by simp) rfl hcl (fun j hj=>PLe.of (by rw [hcs];simp [List.getD,hj]))
def encN:Nat→Nat→List Nat
 |0,_=>[]
 |n+1,v=>encN n (v/256)++[v%256]
theorem encN_len:∀ n v,(encN n v).length=n
 |0,_=>rfl
 |n+1,v=>by simp [encN,encN_len n]
theorem encN_b:∀ n v,∀ x∈encN n v,x<256
 |0,_,x,h=>by simp [encN] at h
 |n+1,v,x,h=>by
  rw [encN,List.mem_append] at h
  rcases h with h|h
  ·exact encN_b n _ x h
  ·simp at h;subst h;exact Nat.mod_lt _ (by decide)
theorem encN_be:∀ n v,v<256 ^ n→W.be (encN n v)=v
 |0,v,h=>by simp at h;subst h;rfl
 |n+1,v,h=>by
  rw [encN,be_snoc,encN_be n (v/256) (by rw [Nat.pow_succ] at h;omega)]
  omega
section
variable{N:Nat}{E:En}{o:Oper}{f:Nat}{xs:List AV}{a b:List Nat}{r:AV}{K:Tm→Ow→Prop}{tm:Tm}{own:Ow}
theorem CallN.rd{dst:Option Nat}(h:RetO Tryz.prog f [.blk [bytesV a,.bool false]] (.own 0 0::xs) (fun v gs'=>v=r∧gs'=[.blk [bytesV b,.bool false]]))(hp:puL xs=true)(hb:nth own 0=some (.blk [bytesV a,.bool false]))
  (hK:put N tm dst r fun tm=>K tm (own.set 0 (.blk [bytesV b,.bool false]))):CallN Tryz.prog N E f (.own 0 0::xs) dst K tm own:=by
 refine CallN.upd [0] [] (RvJL.cons (RvJ.ownP rfl) (RvJL.pu hp)) (Als.nil _) (by simp) (Giv.one hb (by simp) (RcJ.pu rfl)) h (fun v gs' hp' _=>?_)
 obtain⟨rfl,rfl⟩:=hp'
 exact hK
theorem CallN.rdF{dst:Option Nat}{g:Nat}{m:Int}(h:RetO Tryz.prog f [.blk [bytesV a,.bool false]] [I m,.fn g [.own 0 0] []] (fun v gs'=>v=r∧gs'=[.blk [bytesV b,.bool false]]))(hb:nth own 0=some (.blk [bytesV a,.bool false]))
  (hK:put N tm dst r fun tm=>K tm (own.set 0 (.blk [bytesV b,.bool false]))):CallN Tryz.prog N E f [I m,.fn g [.own 0 0] []] dst K tm own:=by
 refine CallN.upd [0] [] (RvJL.cons (RvJ.pu rfl) (RvJL.cons (RvJ.fn (R0J.ownP rfl R0J.nil) R0J.nil) RvJL.nil)) (Als.nil _) (by simp) (Giv.one hb (by simp) (RcJ.pu rfl)) h (fun v gs' hp' _=>?_)
 obtain⟨rfl,rfl⟩:=hp'
 exact hK
end
theorem numV(n v:Nat)(rest:List Nat)(h8:n≤8)(hv:v<256 ^ n)(hv2:v<9223372036854775808)(m:Int)(hm:m=n) :
  RetO Tryz.prog 115 [.blk [bytesV (encN n v++rest),.bool false]] [.own 0 0,I m] (fun r gs'=>r=I (v:Int)∧gs'=[.blk [bytesV rest,.bool false]]):=by
 have:=numC (encN n v) rest m (by rw [encN_len];exact hm.symm) (by rw [encN_len];exact h8) (encN_b n v) (by rw [encN_be n v hv];exact hv2)
 rw [encN_be n v hv] at this
 exact this
theorem countV(n v:Nat)(rest:List Nat)(h8:n≤8)(hv:v<256 ^ n)(hv2:v<9223372036854775808)(m most:Int)(hm:m=n)(hmost:(v:Int)≤most) :
  RetO Tryz.prog 77 [.blk [bytesV (encN n v++rest),.bool false]] [.own 0 0,I m,I most] (fun r gs'=>r=I (v:Int)∧gs'=[.blk [bytesV rest,.bool false]]):=by
 refine enterO tabOk (N:=18) (gs:=[_]) (args:=[_,_,_]) Tryz.func77 rfl rfl rfl (nLe rfl) (fun E hE=>?_)
 conv=>whnf
 repeat' ((first|refine CallS.call (CallN.rd (numV n v rest h8 hv hv2 m hm) rfl rfl ?_)|refine Br.pf (by omega) ?_);conv=>whnf)
 exact FinAt.asis (ars:=[I (v:Int)]) [] (RvL.pu rfl) (by simp) (by show 1≤_;simp) rfl ⟨rfl,rfl⟩
theorem nextV(v:Nat)(rest:List Nat)(hv:v<256) :
  RetO Tryz.prog 119 [.blk [bytesV (encN 1 v++rest),.bool false]] [.own 0 0] (fun r gs'=>r=I (v:Int)∧gs'=[.blk [bytesV rest,.bool false]]):=by
 have q1:=fun rest=>numV 1 v rest (by decide) (by omega) (by omega) 1 rfl
 refine enterO tabOk (N:=5) (gs:=[_]) (args:=[_]) Tryz.func119 rfl rfl rfl (nLe rfl) (fun E hE=>?_)
 conv=>whnf
 repeat' ((refine CallS.call (CallN.rd (q1 rest) rfl rfl ?_));conv=>whnf)
 exact FinAt.asis (ars:=[I (v:Int)]) [] (RvL.pu rfl) (by simp) (by show 1≤_;simp) rfl ⟨rfl,rfl⟩
def u32(x:Int):Nat:=(x%4294967296).toNat
def encPiece(p:W.Piece):List Nat:=encN 8 p.from_.toNat++encN 4 (u32 p.grade)
def PcOk(p:W.Piece):Prop:=0≤p.from_∧p.from_<9223372036854775808∧-2147483648≤p.grade∧p.grade<2147483648
theorem pieceV(p:W.Piece)(rest:List Nat)(hp:PcOk p) :
  RetO Tryz.prog 117 [.blk [bytesV (encPiece p++rest),.bool false]] [.own 0 0] (fun r gs'=>r=.agg (pcC p)∧gs'=[.blk [bytesV rest,.bool false]]):=by
 obtain⟨h1,h2,h3,h4⟩:=hp
 have hu:u32 p.grade<4294967296:=by unfold u32;omega
 have hw:IntKind.i32.wrap (u32 p.grade:Int)=p.grade:=by
  simp only [IntKind.wrap,IntKind.bits,IntKind.signed,u32]
  simp
  omega
 have e256:256 ^ 8=18446744073709551616:=by decide
 have e2564:256 ^ 4=4294967296:=by decide
 unfold encPiece
 rw [List.append_assoc]
 have q1:=fun rest=>numV 8 p.from_.toNat rest (by decide) (by omega) (by omega) 8 rfl
 refine enterO tabOk (N:=12) (gs:=[_]) (args:=[_]) Tryz.func117 rfl rfl rfl (nLe rfl) (fun E hE=>?_)
 conv=>whnf
 repeat' ((first|refine CallS.call (CallN.rd (q1 _) rfl rfl ?_)|refine CallS.call (CallN.rd (numV 4 (u32 p.grade) rest (by decide) (by omega) (by omega) 4 rfl) rfl rfl ?_)|refine Ob.mk (by unfold W.I64 at *;omega) ?_);conv=>whnf)
 refine FinAt.asis (ars:=[.agg [I (p.from_.toNat:Int),I (IntKind.i32.wrap (u32 p.grade:Int))]]) [] (RvL.pu rfl) (by simp) (by show 1≤_;simp) rfl ⟨?_,rfl⟩
 rw [hw,Int.toNat_of_nonneg h1]
 rfl
def encG(g:W.Grp):List Nat:=encN 2 g.id.toNat++(encN 1 g.seg.toNat++(encN 8 g.offset.toNat++(encN 4 g.acc.toNat++encN 4 g.slack.toNat)))
structure GrB(g:W.Grp):Prop where
 id:0≤g.id∧g.id<65536
 seg:0≤g.seg∧g.seg<256
 off:0≤g.offset∧g.offset<9223372036854775808
 acc:0≤g.acc∧g.acc<4294967296
 slack:0≤g.slack∧g.slack<4294967296
theorem groupV(g:W.Grp)(rest:List Nat)(hg:GrB g) :
  RetO Tryz.prog 80 [.blk [bytesV (encG g++rest),.bool false]] [.own 0 0] (fun r gs'=>r=.agg (gpC g)∧gs'=[.blk [bytesV rest,.bool false]]):=by
 obtain⟨⟨a1,a2⟩,⟨b1,b2⟩,⟨c1,c2⟩,⟨d1,d2⟩,⟨e1,e2⟩⟩:=hg
 have p8:256 ^ 8=18446744073709551616:=by decide
 have p4:256 ^ 4=4294967296:=by decide
 have p2:256 ^ 2=65536:=by decide
 unfold encG
 simp only [List.append_assoc]
 have q1:=fun rest=>numV 2 g.id.toNat rest (by decide) (by omega) (by omega) 2 rfl
 have q2:=fun rest=>numV 1 g.seg.toNat rest (by decide) (by omega) (by omega) 1 rfl
 have q3:=fun rest=>numV 8 g.offset.toNat rest (by decide) (by omega) (by omega) 8 rfl
 have q4:=fun rest=>numV 4 g.acc.toNat rest (by decide) (by omega) (by omega) 4 rfl
 have q5:=fun rest=>numV 4 g.slack.toNat rest (by decide) (by omega) (by omega) 4 rfl
 refine enterO tabOk (N:=19) (gs:=[_]) (args:=[_]) Tryz.func80 rfl rfl rfl (nLe rfl) (fun E hE=>?_)
 conv=>whnf
 repeat' ((first|refine CallS.call (CallN.rd (q1 _) rfl rfl ?_)|refine CallS.call (CallN.rd (q2 _) rfl rfl ?_)|refine CallS.call (CallN.rd (q3 _) rfl rfl ?_)|refine CallS.call (CallN.rd (q4 (encN 4 g.slack.toNat++rest)) rfl rfl ?_)|refine CallS.call (CallN.rd (q5 rest) rfl rfl ?_));conv=>whnf)
 refine FinAt.asis (ars:=[.agg [I (g.id.toNat:Int),I (g.seg.toNat:Int),I (g.offset.toNat:Int),I (g.acc.toNat:Int),I (g.slack.toNat:Int)]]) [] (RvL.pu rfl) (by simp) (by show 1≤_;simp) rfl ⟨?_,rfl⟩
 rw [Int.toNat_of_nonneg a1,Int.toNat_of_nonneg b1,Int.toNat_of_nonneg c1,Int.toNat_of_nonneg d1,Int.toNat_of_nonneg e1]
 rfl
def encS(s:W.Seg):List Nat:=encN 8 s.length.toNat++(encN 1 s.pieces.length++(s.pieces.flatMap encPiece++(encN 1 s.next.length++s.next.flatMap fun x=>encN 1 x.toNat)))
structure SgB(s:W.Seg):Prop where
 len:0≤s.length∧s.length<9223372036854775808
 pc:∀ p∈s.pieces,PcOk p
 pn:s.pieces.length≤64
 nx:∀ x∈s.next,0≤x∧x<256
 nn:s.next.length≤2
theorem drop_get{α:Type}{l:List α}{k:Nat}(h:k<l.length)(d:α):l.drop k=l.getD k d::l.drop (k+1):=by
 rw [List.drop_eq_getElem_cons h]
 simp [List.getD,h]
theorem segmentV(s:W.Seg)(rest:List Nat)(hs:SgB s) :
  RetO Tryz.prog 78 [.blk [bytesV (encS s++rest),.bool false]] [.own 0 0] (fun r gs'=>r=.agg (sgC s)∧gs'=[.blk [bytesV rest,.bool false]]):=by
 obtain⟨⟨a1,a2⟩,hpc,hpn,hnx,hnn⟩:=hs
 have p8:256 ^ 8=18446744073709551616:=by decide
 unfold encS
 simp only [List.append_assoc]
 have hP:=manyPiece s.pieces (fun k=>(s.pieces.drop k).flatMap encPiece++(encN 1 s.next.length++((s.next.flatMap fun x=>encN 1 x.toNat)++rest))) (fun k hk=>by
  rw [drop_get hk default,List.flatMap_cons,List.append_assoc]
  exact pieceV _ _ (hpc _ (by simp [List.getD,hk]))) (by omega)
 have hN:=manyInt s.next (fun k=>((s.next.drop k).flatMap fun x=>encN 1 x.toNat)++rest) (fun k hk=>by
  have hm:s.next.getD k 0∈s.next:=by simp [List.getD,hk]
  have hb:=hnx _ hm
  have:=nextV (s.next.getD k 0).toNat (((s.next.drop (k+1)).flatMap fun x=>encN 1 x.toNat)++rest) (by omega)
  rw [Int.toNat_of_nonneg hb.1] at this
  rw [drop_get hk 0,List.flatMap_cons,List.append_assoc]
  exact this) (by omega)
 simp only [List.drop_length,List.flatMap_nil,List.nil_append,List.drop_zero] at hP hN
 have q1:=fun rest=>numV 8 s.length.toNat rest (by decide) (by omega) (by omega) 8 rfl
 have q2:=fun rest=>countV 1 s.pieces.length rest (by decide) (by omega) (by omega) 1 64 rfl (by omega)
 have q3:=fun rest=>countV 1 s.next.length rest (by decide) (by omega) (by omega) 1 2 rfl (by omega)
 refine enterO tabOk (N:=20) (gs:=[_]) (args:=[_]) Tryz.func78 rfl rfl rfl (nLe rfl) (fun E hE=>?_)
 conv=>whnf
 repeat' ((first|refine CallS.call (CallN.rd (q1 _) rfl rfl ?_)|refine CallS.call (CallN.rd (q2 _) rfl rfl ?_)|refine CallS.call (CallN.rd (q3 _) rfl rfl ?_)|refine CallS.call (CallN.rdF hP rfl ?_)|refine CallS.call (CallN.rdF hN rfl ?_));conv=>whnf)
 refine FinAt.asis (ars:=[.agg [I (s.length.toNat:Int),pcsV s.pieces,isV s.next]]) [] (RvL.pu rfl) (by simp) (by show 1≤_;simp) rfl ⟨?_,rfl⟩
 rw [Int.toNat_of_nonneg a1]
 rfl
end Y
section
namespace Crc
def bit(b:Bool):V:=if b then 1#16 else 0#16
def astp(r:V)(b:Bool):V:=stp r ^^^ bit b
def left(u:Nat→Bool):Nat→V
 |0=>0
 |k+1=>astp (left u k) (u k)
def reg(m:Nat→Bool):Nat→V
 |0=>65535#16
 |k+1=>stp (reg m k ^^^ (if m k then 32768#16 else 0#16))
def win(m:Nat→Bool)(k:Nat):Nat→V
 |0=>0
 |j+1=>(win m k j <<< 1) ^^^ bit (m (k+j))
theorem bit_get(b:Bool)(i:Nat):(bit b).getLsbD i=(decide (i=0)&&b):=by
 unfold bit
 cases b
 ·simp
 ·by_cases hi:i=0
  ·subst hi;rfl
  ·simp [hi]
theorem win_get(m:Nat→Bool)(k j i:Nat)(hi:i<16):(win m k j).getLsbD i=(decide (i<j)&&m (k+j-1-i)):=by
 induction j generalizing i with
 |zero=>simp [win]
 |succ j ih =>
  rw [win,BitVec.getLsbD_xor,BitVec.getLsbD_shiftLeft,bit_get]
  cases i with
  |zero=>simp
  |succ i =>
   rw [show i+1-1=i by omega,ih i (by omega)]
   simp [show ¬ (i+1<1) by omega,show i+1<16 from hi,show k+(j+1)-1-(i+1)=k+j-1-i by omega]
   rw [show k+j-1-i=k+j-(i+1) by omega]
theorem ext16{x y:V}(h:∀ i,i<16→x.getLsbD i=y.getLsbD i):x=y:=by
 ext i hi
 simpa [BitVec.getLsbD_eq_getElem,hi] using h i hi
theorem win_next(m:Nat→Bool)(k:Nat):win m (k+1) 16=(win m k 16 <<< 1) ^^^ bit (m (k+16)):=by
 apply ext16
 intro i hi
 rw [win_get _ _ _ _ hi,BitVec.getLsbD_xor,BitVec.getLsbD_shiftLeft,bit_get]
 cases i with
 |zero=>simp
 |succ i =>
  rw [show i+1-1=i by omega,win_get _ _ _ _ (by omega)]
  simp [show ¬ (i+1<1) by omega,hi,show i<16 by omega,show k+1+16-1-(i+1)=k+16-1-i by omega]
theorem stp_low(x:V)(h:x.msb=false):stp x=x <<< 1:=by unfold stp;rw [h];rfl
theorem left_first(u:Nat→Bool):∀ j,j≤16→left u j=win u 0 j:=by
 intro j
 induction j with
 |zero=>intro _;rfl
 |succ j ih =>
  intro hj
  rw [left,astp,ih (by omega),win,Nat.zero_add,stp_low]
  rw [BitVec.msb_eq_getLsbD_last,win_get _ _ _ _ (by omega)]
  simp;omega
theorem stp_split(x y:V):stp (x ^^^ y)=stp (x ^^^ (if y.msb then 32768#16 else 0#16)) ^^^ (y <<< 1):=by
 rw [stp_xor,stp_xor,BitVec.xor_assoc]
 congr 1
 have h1:stp 32768#16=P:=by decide
 have h2:stp (0#16)=0#16:=by decide
 unfold stp
 cases hm:y.msb
 ·simp
 ·simp
  show _=(stp 32768#16) ^^^ (y <<< 1)
  rw [h1,BitVec.xor_comm]
theorem win_msb(m:Nat→Bool)(k:Nat):(win m k 16).msb=m k:=by
 rw [BitVec.msb_eq_getLsbD_last,win_get _ _ _ _ (by omega)]
 simp
theorem left_reg(m u:Nat→Bool)(hu:∀ i,u i=if i<16 then !m i else m i):∀ k,left u (16+k)=reg m k ^^^ win m k 16:=by
 intro k
 induction k with
 |zero =>
  rw [left_first u (16+0) (by omega)]
  apply ext16
  intro i hi
  rw [win_get _ _ _ _ hi,BitVec.getLsbD_xor,win_get _ _ _ _ hi,hu]
  have h1:(reg m 0).getLsbD i=true:=by
   show (65535#16).getLsbD i=true
   have:∀ i:Fin 16,(65535#16).getLsbD i.val=true:=by decide
   exact this ⟨i,hi⟩
  rw [h1]
  simp [hi,show 0+(16+0)-1-i<16 by omega]
 |succ k ih =>
  have hu':u (16+k)=m (k+16):=by rw [hu,if_neg (by omega),Nat.add_comm]
  rw [show 16+(k+1)=(16+k)+1 by omega,left,astp,ih,stp_split,win_msb,win_next,hu',reg,BitVec.xor_assoc]
def bitOf(l:List Nat)(k:Nat):Bool:=decide (k<8*l.length)&&(l.getD (k/8) 0).testBit (7-k%8)
theorem win_none(l:List Nat):win (bitOf l) (8*l.length) 16=0:=by
 apply ext16
 intro i hi
 rw [win_get _ _ _ _ hi]
 simp [bitOf]
 intro _ h
 omega
theorem reg_byte(m:Nat→Bool)(k b:Nat)(hb:b<256)(hm:∀ i,i<8→m (k+i)=b.testBit (7-i)):reg m (k+8)=more (reg m k) b:=by
 have key:∀ i,i≤8→stpN i (reg m k ^^^ BitVec.ofNat 16 (b*256))=reg m (k+i) ^^^ (BitVec.ofNat 16 (b*256) <<< i):=by
  intro i
  induction i with
  |zero=>intro _;simp [stpN]
  |succ i ih =>
   intro hi
   rw [stpN_succ,ih (by omega),stp_split,← BitVec.shiftLeft_add]
   have h1:(BitVec.ofNat 16 (b*256) <<< i).msb=m (k+i):=by
    rw [hm i (by omega),BitVec.msb_eq_getLsbD_last,BitVec.getLsbD_shiftLeft,BitVec.getLsbD_ofNat]
    have e:b*256=2 ^ 8*b:=by omega
    rw [e,Nat.testBit_two_pow_mul]
    simp [show ¬ (15<i) by omega,show 15-i<16 by omega,show 8≤15-i by omega,show 15-i-8=7-i by omega]
   rw [h1]
   rfl
 have h8:=key 8 (by omega)
 unfold more
 rw [h8]
 have:BitVec.ofNat 16 (b*256) <<< 8=0:=by
  apply BitVec.eq_of_toNat_eq
  simp [BitVec.toNat_shiftLeft,Nat.shiftLeft_eq]
  omega
 rw [this]
 simp
theorem reg_go(l:List Nat)(hl:∀ x∈l,x<256):∀ j,j≤l.length→reg (bitOf l) (8*j)=sum (l.take j):=by
 intro j
 induction j with
 |zero=>intro _;rfl
 |succ j ih =>
  intro hj
  have hlt:j<l.length:=by omega
  rw [List.take_succ_eq_append_getElem hlt]
  show _=go 65535#16 (l.take j++[l[j]])
  rw [go_snoc]
  show _=more (sum (l.take j)) l[j]
  rw [← ih (by omega),show 8*(j+1)=8*j+8 by omega]
  refine reg_byte _ _ _ (hl _ (List.getElem_mem hlt)) (fun i hi=>?_)
  unfold bitOf
  rw [show (8*j+i)/8=j by omega,show (8*j+i)%8=i by omega]
  simp [List.getD,List.getElem?_eq_getElem hlt]
  omega
theorem left_sum(l:List Nat)(hl:∀ x∈l,x<256)(u:Nat→Bool)(hu:∀ i,u i=if i<16 then !bitOf l i else bitOf l i):left u (8*l.length+16)=sum l:=by
 rw [Nat.add_comm,left_reg (bitOf l) u hu,win_none]
 have:=reg_go l hl l.length (Nat.le_refl _)
 rw [List.take_length] at this
 rw [this]
 simp
end Crc
end
section
open Go.ChangeShapes Go.WideShapes Go.RowKit
theorem v_lt(x:Crc.V):x.toNat<65536:=x.isLt
theorem xor_v(x y:Crc.V):bits .xor .u16 (x.toNat:Int) (y.toNat:Int)=((x ^^^ y).toNat:Int):=by
 rw [u16_xor_nat _ _ (v_lt x) (v_lt y),BitVec.toNat_xor]
theorem and_v(x:Crc.V):(bits .and .u16 (x.toNat:Int) 32768 != 0)=x.msb:=by
 have h:=u16_and_nat x.toNat 32768 (v_lt x) (by omega)
 have e:((32768:Nat):Int)=32768:=rfl
 rw [e] at h
 rw [h,BitVec.msb_eq_getLsbD_last]
 have h2:x.toNat &&& 32768=if x.toNat.testBit 15 then 32768 else 0:=by
  apply Nat.eq_of_testBit_eq
  intro i
  have t:∀ i,Nat.testBit 32768 i=decide (15=i):=fun i=>by rw [show (32768:Nat)=2 ^ 15 by rfl,Nat.testBit_two_pow]
  rw [Nat.testBit_and,t]
  by_cases hi:15=i
  ·subst hi
   cases x.toNat.testBit 15<;>simp [t]
  ·cases x.toNat.testBit 15<;>simp [hi,t]
 rw [h2]
 show _=x.toNat.testBit 15
 cases x.toNat.testBit 15<;>simp
theorem dbl_v(x:Crc.V):IntKind.u16.wrap ((x.toNat:Int)*2)=((x <<< 1).toNat:Int):=by
 rw [IntKind.wrap_u16,BitVec.toNat_shiftLeft,Nat.shiftLeft_eq]
 omega
theorem byte_v(b:Nat)(hb:b<256):((b:Int)*256)=((BitVec.ofNat 16 (b*256)).toNat:Int):=by
 rw [BitVec.toNat_ofNat,Nat.mod_eq_of_lt (by omega)]
 omega
theorem more_any(s:Crc.V)(b:Nat)(w:World)(hb:b<256) :
  Calls Tryz.prog 156 #[.int .u16 s.toNat,.int .u8 b] w fun e w'=>e=.returned (.int .u16 (Crc.more s b).toNat)∧w=w':=by
 have hs:=v_lt s
 go_enter Tryz.func156,Tryz.ntmps156
 go_wp2
 rw [byte_v b hb,xor_v]
 generalize hy:s ^^^ BitVec.ofNat 16 (b*256)=y
 have HY:=Lib.hid hy;clear hy
 go_loop [0,10] (fun s0 i=>∃ (k:Nat),k≤8∧i=.int .i64 k∧s0=.int .u16 (Crc.stpN k y).toNat) (fun _ i=>8-(intOf i).toNat)
 case atStart=>exact⟨0,by omega,rfl,rfl⟩
 case round =>
  obtain⟨k,hk,rfl,rfl⟩:=hrel
  by_cases hlt:k<8
  ·have hstep:=Lib.hid (Crc.stpN_succ k y)
   generalize Crc.stpN k y=x at hstep
   have hx:=v_lt x
   have ha:=and_v x
   have HX:=Lib.hid (xor_v (x <<< 1) Crc.P)
   have HD:=Lib.hid (dbl_v x)
   cases hm:x.msb
   ·rw [hm] at ha
    have HM:=Lib.hid hm;clear hm
    go_wp2
    go_round
    case rel=>exact⟨k+1,by omega,by go_num,by rw [HD.out,hstep.out];unfold Crc.stp;rw [HM.out];rfl⟩
    case measure=>simp [intOf];omega
   ·rw [hm] at ha
    have HM:=Lib.hid hm;clear hm
    go_wp2
    go_round
    case rel=>exact⟨k+1,by omega,by go_num,by rw [HD.out,hstep.out];unfold Crc.stp;rw [HM.out];exact congrArg (Value.int IntKind.u16) HX.out⟩
    case measure=>simp [intOf];omega
  ·obtain rfl:k=8:=by omega
   go_wp2
   go_ret
   exact⟨ret_int (by show _=((Crc.stpN 8 (s ^^^ BitVec.ofNat 16 (b*256))).toNat:Int);rw [HY.out]),rfl⟩
structure RdB(w:World)(a:Option Addr)(l:List Nat):Prop where
 lt:∀ x∈l,x<256
 at_:0<l.length→∃ b off,a=some ⟨b,off,none⟩∧b<w.heap.size∧∀ i,i<l.length→w.cell? ⟨b,off+i,none⟩=some (.int .u8 (l.getD i 0:Nat))
theorem getD_lt256{l:List Nat}(h:∀ x∈l,x<256)(i:Nat):l.getD i 0<256:=by
 rcases Nat.lt_or_ge i l.length with hi|hi
 ·rw [List.getD,List.getElem?_eq_getElem hi];exact h _ (List.getElem_mem hi)
 ·rw [List.getD,List.getElem?_eq_none hi];decide
theorem take_snoc{l:List Nat}{k:Nat}(h:k<l.length):l.take (k+1)=l.take k++[l.getD k 0]:=by
 rw [List.take_succ_eq_append_getElem h,List.getD,List.getElem?_eq_getElem h];rfl
theorem go_any(s:Crc.V)(a:Option Addr)(l:List Nat)(cap:Nat)(w:World)(hl:RdB w a l)(hn:l.length≤1000000000000) :
  Calls Tryz.prog 114 #[.int .u16 s.toNat,.slice a l.length cap] w fun e w'=>e=.returned (.int .u16 (Crc.go s l).toNat)∧w=w':=by
 have HL:=Lib.hid hl;clear hl
 go_enter Tryz.func114,Tryz.ntmps114
 go_wp2
 go_loop [0,9] (fun s0 i=>∃ (k:Nat),k≤l.length∧i=.int .i64 k∧s0=.int .u16 (Crc.go s (l.take k)).toNat) (fun _ i=>l.length-(intOf i).toNat)
 case atStart=>exact⟨0,by omega,rfl,rfl⟩
 case round =>
  obtain⟨k,hk,rfl,rfl⟩:=hrel
  by_cases hlt:k<l.length
  ·obtain⟨b,off,rfl,hb,hc⟩:=HL.out.at_ (by omega)
   have h1:=hc k hlt
   have h2:=getD_lt256 HL.out.lt k
   have HS:=Lib.hid (congrArg (Crc.go s) (take_snoc hlt))
   clear hc
   generalize l.getD k 0=c at h1 h2 HS
   generalize hx:Crc.go s (l.take k)=x
   have HX:=Lib.hid hx;clear hx
   go_wp2_with (go_at_call 156;refine(more_any x c _ h2).mono ?_;rintro e w' ⟨rfl,rfl⟩)
   go_round
   case rel=>exact⟨k+1,by omega,by go_num,by rw [HS.out,Crc.go_snoc,HX.out]⟩
   case measure=>simp [intOf];omega
  ·obtain rfl:k=l.length:=by omega
   go_wp2
   go_ret
   exact⟨rfl,rfl⟩
theorem sum_any(a:Option Addr)(l:List Nat)(cap:Nat)(w:World)(hl:RdB w a l)(hn:l.length≤1000000000000) :
  Calls Tryz.prog 75 #[.slice a l.length cap] w fun e w'=>e=.returned (.int .u16 (Crc.sum l).toNat)∧w=w':=by
 have HL:=Lib.hid hl;clear hl
 go_enter Tryz.func75,Tryz.ntmps75
 go_wp2_with fail
 refine(go_any 65535#16 a l cap _ HL.out hn).mono ?_
 rintro e w' ⟨rfl,rfl⟩
 go_wp2_with fail
 go_ret
 exact⟨rfl,rfl⟩
end
section
open Go.ChangeShapes Go.WideShapes Go.RowKit
def bv(n:Nat):Value:=.int .u8 n
theorem RdB.below{w w':World}{a:Option Addr}{l:List Nat}(h:RdB w a l)(hb:Below w.heap.size w w'):RdB w' a l:=by
 refine⟨h.lt,fun h0=>?_⟩
 obtain⟨b,off,e,hlt,hc⟩:=h.at_ h0
 exact⟨b,off,e,Nat.lt_of_lt_of_le hlt hb.size,fun i hi=>(hb.cell (p:=⟨b,off+i,none⟩) hlt).trans (hc i hi)⟩
theorem RdB.take{w:World}{a:Option Addr}{l:List Nat}(h:RdB w a l)(n:Nat):RdB w a (l.take n):=by
 refine⟨fun x hx=>h.lt x (List.mem_of_mem_take hx),fun h0=>?_⟩
 have hl:0<l.length:=by rw [List.length_take] at h0;omega
 obtain⟨b,off,e,hlt,hc⟩:=h.at_ hl
 refine⟨b,off,e,hlt,fun i hi=>?_⟩
 rw [List.length_take] at hi
 rw [hc i (by omega)]
 simp [List.getD,List.getElem?_take,show i<n by omega]
structure Own(w:World)(base:Nat)(A:Option Addr)(c:Nat)(l:List Nat):Prop where
 row:w.ownsRow base 5 1 (.slice A l.length c) l.length (l.map bv)
 lt:∀ x∈l,x<256
theorem Own.lit(w:World)(l:List Nat)(hl:∀ x∈l,x<256)(hm:l.length≤maxLen):Own (w.alloc (.cells (l.map bv).toArray 5)) w.heap.size (some ⟨w.heap.size,0,none⟩) l.length l:=by
 refine⟨⟨by simp,.inr ⟨w.heap.size,l.length,_,rfl,Nat.le_refl _,heap_alloc_new w _,Nat.le_refl _,hm,by simp,?_⟩⟩,hl⟩
 simp only [Nat.mul_one]
 exact List.take_of_length_le (by simp)
end
section
open Go.ChangeShapes Go.WideShapes Go.RowKit
end
section
open Go.ChangeShapes Go.WideShapes Go.RowKit Go.Sort
theorem size_any(k:Int)(w:World):Calls Tryz.prog 172 #[.int .i64 k] w fun e w'=>e=.returned (.int .i64 (Fr.sz k:Int))∧w=w':=by
 go_enter Tryz.func172,Tryz.ntmps172
 rcases Fr.sz_cases k with ⟨e,h⟩|⟨e,rfl|rfl|rfl⟩|⟨e,rfl|rfl⟩
 ·have h1:(k==1)=false:=by simp;omega
  have h2:(k==2)=false:=by simp;omega
  have h3:(k==5)=false:=by simp;omega
  have h4:(k==3)=false:=by simp;omega
  have h5:(k==4)=false:=by simp;omega
  have E:=Lib.hid e;clear e h
  go_wp2
  go_ret
  exact⟨by rw [E.out];rfl,rfl⟩
 all_goals
  clear e
  go_wp2
  go_ret
  exact⟨rfl,rfl⟩
theorem signed_yes(k:Int)(w:World)(h:k=3∨k=4):Calls Tryz.prog 173 #[.int .i64 k] w fun e w'=>e=.returned (.bool true)∧w=w':=by
 go_enter Tryz.func173,Tryz.ntmps173
 rcases h with rfl|rfl
 all_goals
  go_wp2
  go_ret
  exact⟨rfl,rfl⟩
theorem signed_no(k:Int)(w:World)(h:¬ (k=3∨k=4)):Calls Tryz.prog 173 #[.int .i64 k] w fun e w'=>e=.returned (.bool false)∧w=w':=by
 have h4:(k==3)=false:=by simp;omega
 have h5:(k==4)=false:=by simp;omega
 clear h
 go_enter Tryz.func173,Tryz.ntmps173
 go_wp2
 go_ret
 exact⟨rfl,rfl⟩
end
section
open Go.ChangeShapes Go.WideShapes Go.RowKit Go.Sort
def gv(g:Fr.G):Value:=.tuple #[.agg #[.int .i64 g.kind,.int .i64 g.seq,.int .i64 g.value],.int .i64 g.err]
theorem get_short(a:Option Addr)(l:List Nat)(c:Nat)(w:World)(ha:RdB w a l)(h:l.length<5) :
  Calls Tryz.prog 123 #[.slice a l.length c] w fun e w'=>e=.returned (gv (Fr.get l))∧Below w.heap.size w w':=by
 have hg:Fr.get l=⟨0,0,0,14⟩:=by unfold Fr.get;rw [if_pos h]
 rw [hg]
 clear hg
 go_enter Tryz.func123,Tryz.ntmps123
 go_wp2_with fail
 exact bodyPost_ret (v:=gv ⟨0,0,0,14⟩) (by simp [results,Tryz.results123,go_sem,gv]) rfl ⟨rfl,bself _ _⟩
theorem get_kind(a:Option Addr)(l:List Nat)(c:Nat)(w:World)(ha:RdB w a l)(h:5≤l.length)(hm:l.length≤1000000)(hk:Fr.sz (l.getD 0 0)=0) :
  Calls Tryz.prog 123 #[.slice a l.length c] w fun e w'=>e=.returned (gv (Fr.get l))∧Below w.heap.size w w':=by
 have hg:Fr.get l=⟨0,0,0,30⟩:=by unfold Fr.get;rw [if_neg (by omega),if_pos hk]
 rw [hg]
 clear hg
 obtain⟨b,off,rfl,hbl,hcell⟩:=ha.at_ (by omega)
 have hc0:=hcell 0 (by omega)
 rw [Nat.add_zero] at hc0
 have hS:∀ w,Calls Tryz.prog 172 #[.int .i64 ((l.getD 0 0:Nat):Int)] w fun e w'=>e=.returned (.int .i64 0)∧w=w':=fun w=>by
  have:=size_any ((l.getD 0 0:Nat):Int) w
  rw [hk] at this
  exact this
 have hlt:=getD_lt256 ha.lt 0
 generalize l.getD 0 0=k at hc0 hS hlt
 have HS:=Lib.hid hS;clear hS hcell hk ha
 go_enter Tryz.func123,Tryz.ntmps123
 go_wp2_with ((go_at_call 172;refine(HS.out _).mono ?_;rintro e w' ⟨rfl,rfl⟩))
 exact bodyPost_ret (v:=gv ⟨0,0,0,30⟩) (by simp [results,Tryz.results123,go_sem,gv]) rfl ⟨rfl,bself _ _⟩
theorem get_form(a:Option Addr)(l:List Nat)(c:Nat)(w:World)(ha:RdB w a l)(h:5≤l.length)(hm:l.length≤1000000)(hk:Fr.sz (l.getD 0 0)≠0)(hf:l.getD 2 0≠Fr.sz (l.getD 0 0)∨l.length≠5+Fr.sz (l.getD 0 0)) :
  Calls Tryz.prog 123 #[.slice a l.length c] w fun e w'=>e=.returned (gv (Fr.get l))∧Below w.heap.size w w':=by
 have hg:Fr.get l=⟨0,0,0,11⟩:=by unfold Fr.get;rw [if_neg (by omega),if_neg hk,if_pos hf]
 rw [hg]
 clear hg
 obtain⟨b,off,rfl,hbl,hcell⟩:=ha.at_ (by omega)
 have hc0:=hcell 0 (by omega)
 have hc2:=hcell 2 (by omega)
 rw [Nat.add_zero] at hc0
 have hS:∀ w,Calls Tryz.prog 172 #[.int .i64 ((l.getD 0 0:Nat):Int)] w fun e w'=>e=.returned (.int .i64 (Fr.sz ((l.getD 0 0:Nat):Int):Int))∧w=w':=fun w=>size_any _ w
 have hn:Fr.sz ((l.getD 0 0:Nat):Int)≤4:=by rcases Fr.sz_cases ((l.getD 0 0:Nat):Int) with h|h|h<;>omega
 have hlt:=getD_lt256 ha.lt 0
 have hlt2:=getD_lt256 ha.lt 2
 generalize Fr.sz ((l.getD 0 0:Nat):Int)=n at hS hn hk hf
 generalize l.getD 0 0=k at hc0 hS hlt
 generalize l.getD 2 0=m at hc2 hlt2 hf
 have hn0:((n:Int)==0)=false:=by simp;omega
 have HS:=Lib.hid hS;clear hS hcell hk ha
 by_cases h2:m=n
 ·have d1:((m:Int) != (n:Int))=false:=by simp;omega
  have d2:((l.length:Int) != 3+(n:Int)+2)=true:=by simp;omega
  clear hf h2
  go_enter Tryz.func123,Tryz.ntmps123
  go_wp2_with ((go_at_call 172;refine(HS.out _).mono ?_;rintro e w' ⟨rfl,rfl⟩))
  exact bodyPost_ret (v:=gv ⟨0,0,0,11⟩) (by simp [results,Tryz.results123,go_sem,gv]) rfl ⟨rfl,bself _ _⟩
 ·have d1:((m:Int) != (n:Int))=true:=by simp;omega
  clear hf h2
  go_enter Tryz.func123,Tryz.ntmps123
  go_wp2_with ((go_at_call 172;refine(HS.out _).mono ?_;rintro e w' ⟨rfl,rfl⟩))
  exact bodyPost_ret (v:=gv ⟨0,0,0,11⟩) (by simp [results,Tryz.results123,go_sem,gv]) rfl ⟨rfl,bself _ _⟩
end
section
open Go.ChangeShapes Go.WideShapes Go.RowKit Go.Sort
theorem get_sum(a:Option Addr)(l:List Nat)(c:Nat)(w:World)(ha:RdB w a l)(h:5≤l.length)(hm:l.length≤1000000)(hk:Fr.sz (l.getD 0 0)≠0)(hf:¬ (l.getD 2 0≠Fr.sz (l.getD 0 0)∨l.length≠5+Fr.sz (l.getD 0 0)))(hs:Crc.sum l≠0) :
  Calls Tryz.prog 123 #[.slice a l.length c] w fun e w'=>e=.returned (gv (Fr.get l))∧Below w.heap.size w w':=by
 have hg:Fr.get l=⟨0,0,0,31⟩:=by unfold Fr.get;rw [if_neg (by omega),if_neg hk,if_neg hf,if_pos hs]
 rw [hg]
 clear hg
 have HA:=Lib.hid ha
 obtain⟨b,off,rfl,hbl,hcell⟩:=ha.at_ (by omega)
 have hc0:=hcell 0 (by omega)
 have hc2:=hcell 2 (by omega)
 rw [Nat.add_zero] at hc0
 have hS:∀ w,Calls Tryz.prog 172 #[.int .i64 ((l.getD 0 0:Nat):Int)] w fun e w'=>e=.returned (.int .i64 (Fr.sz ((l.getD 0 0:Nat):Int):Int))∧w=w':=fun w=>size_any _ w
 have hn:Fr.sz ((l.getD 0 0:Nat):Int)≤4:=by rcases Fr.sz_cases ((l.getD 0 0:Nat):Int) with h|h|h<;>omega
 have hlt:=getD_lt256 ha.lt 0
 have hlt2:=getD_lt256 ha.lt 2
 generalize Fr.sz ((l.getD 0 0:Nat):Int)=n at hS hn hk hf
 generalize l.getD 0 0=k at hc0 hS hlt
 generalize l.getD 2 0=m at hc2 hlt2 hf
 have hn0:((n:Int)==0)=false:=by simp;omega
 have d1:((m:Int) != (n:Int))=false:=by simp;omega
 have d2:((l.length:Int) != 3+(n:Int)+2)=false:=by simp;omega
 have d3:(((Crc.sum l).toNat:Int) != 0)=true:=by
  rw [bne_iff_ne]
  intro h
  apply hs
  apply BitVec.eq_of_toNat_eq
  simpa using h
 have HS:=Lib.hid hS;clear hS hcell hk ha hf hs
 go_enter Tryz.func123,Tryz.ntmps123
 go_wp2_with ((go_at_call 172;refine(HS.out _).mono ?_;rintro e w' ⟨rfl,rfl⟩))
 refine(sum_any _ l c _ (HA.out.below (bself _ _)) (by omega)).mono ?_
 rintro e w' ⟨rfl,rfl⟩
 go_wp2_with fail
 exact bodyPost_ret (v:=gv ⟨0,0,0,31⟩) (by simp [results,Tryz.results123,go_sem,gv]) rfl ⟨rfl,bself _ _⟩
theorem Fr.val_lt(l:List Nat)(hl:∀ x∈l,x<256):Fr.val l<256 ^ l.length:=by
 suffices H:∀ (l:List Nat) (a:Nat),(∀ x∈l,x<256)→l.foldl (fun v c=>v*256+c) a<(a+1)*256 ^ l.length by
  have:=H l 0 hl
  simpa [Fr.val] using this
 intro l
 induction l with
 |nil=>intro a _;simp
 |cons x l ih =>
  intro a h
  have h1:=ih (a*256+x) (fun y hy=>h y (List.mem_cons_of_mem _ hy))
  have hx:=h x (List.mem_cons_self ..)
  rw [List.foldl_cons,List.length_cons,Nat.pow_succ]
  calc _<(a*256+x+1)*256 ^ l.length:=h1
   _≤((a+1)*256)*256 ^ l.length:=Nat.mul_le_mul_right _ (by omega)
   _=_:=by rw [Nat.mul_assoc,Nat.mul_comm 256]
theorem or_byte(u c:Nat)(hc:c<256):u*256 ||| c=u*256+c:=by
 have:=Nat.two_pow_add_eq_or_of_lt (i:=8) (b:=c) (by simpa using hc) u
 rw [show (2:Nat) ^ 8=256 by rfl] at this
 rw [Nat.mul_comm,this]
theorem get_ok2(a:Option Addr)(l:List Nat)(c:Nat)(w:World)(ha:RdB w a l)(hcl:l.length≤c)(hcm:c≤maxLen)(h:l.length=5+2)(hk:Fr.sz (l.getD 0 0)=2)(hf:l.getD 2 0=2)(hs:Crc.sum l=0) :
  Calls Tryz.prog 123 #[.slice a l.length c] w fun e w'=>e=.returned (gv (Fr.get l))∧Below w.heap.size w w':=by
 have hg:Fr.get l=⟨l.getD 0 0,l.getD 1 0,Fr.sgn 2 (Fr.val ((l.drop 3).take 2)),0⟩:=by
  unfold Fr.get;rw [if_neg (by omega),hk,if_neg (by omega),if_neg (by omega),if_neg (by simp [hs])]
 rw [hg]
 clear hg
 have hkk:(l.getD 0 0=1∨l.getD 0 0=2∨l.getD 0 0=5)∨(l.getD 0 0=3∨l.getD 0 0=4):=by
  rcases Fr.sz_cases ((l.getD 0 0:Nat):Int) with h|h|h<;>omega
 have hkn:l.getD 0 0=1∨l.getD 0 0=2∨l.getD 0 0=5:=by
  rcases Fr.sz_cases ((l.getD 0 0:Nat):Int) with h|h|h<;>omega
 clear hkk
 have HA:=Lib.hid ha
 obtain⟨b,off,rfl,hbl,hcell⟩:=ha.at_ (by omega)
 have HCell:=Lib.hid hcell
 have hc0:=hcell 0 (by omega)
 have hc1:=hcell 1 (by omega)
 have hc2:=hcell 2 (by omega)
 rw [Nat.add_zero] at hc0
 rw [hf] at hc2
 have hS:∀ w,Calls Tryz.prog 172 #[.int .i64 ((l.getD 0 0:Nat):Int)] w fun e w'=>e=.returned (.int .i64 2)∧w=w':=fun w=>by
  have:=size_any ((l.getD 0 0:Nat):Int) w
  rw [hk] at this
  exact this
 have hlt:=getD_lt256 ha.lt 0
 have hlt1:=getD_lt256 ha.lt 1
 have hltd:∀ x∈(l.drop 3).take 2,x<256:=fun x hx=>ha.lt x (List.mem_of_mem_drop (List.mem_of_mem_take hx))
 have hvl:=Fr.val_lt ((l.drop 3).take 2) hltd
 rw [show ((l.drop 3).take 2).length=2 by rw [List.length_take,List.length_drop];omega] at hvl
 have HVL:=Lib.hid hvl;clear hvl
 clear hk
 generalize l.getD 0 0=k at hc0 hS hlt hkn
 generalize l.getD 1 0=q at hc1 hlt1
 have e0:(Crc.sum l).toNat=0:=by rw [hs];rfl
 have h':(l.length:Int)=5+2:=by omega
 have hlen:=Lib.hid h
 have d2:((l.length:Int) != 7)=false:=by simp;omega
 have HS:=Lib.hid hS
 have HSum:=Lib.hid e0
 have hcm':=hcm
 clear hS hcell ha hf hs h h' e0
 have hl5:5≤l.length:=by have:=hlen.out;omega
 have hlu:l.length≤7:=by have:=hlen.out;omega
 have hlu2:7≤l.length:=by have:=hlen.out;omega
 go_enter Tryz.func123,Tryz.ntmps123
 go_wp2_with ((go_at_call 172;refine(HS.out _).mono ?_;rintro e w' ⟨rfl,rfl⟩))
 refine(sum_any _ l c _ (HA.out.below (bself _ _)) (by omega)).mono ?_
 rintro e w' ⟨rfl,rfl⟩
 rw [HSum.out]
 go_wp2_with fail
 go_loopg [6,50] 2 (fun r s6 s50 wr=>∃ (i u:Nat),Hid (i+r=2)∧i≤2∧s50=.int .i64 i∧s6=.int .u32 u∧Hid (u=Fr.val ((l.drop 3).take i))∧wr=w.alloc (.cells #[.int .i64 0,.int .i64 0,.int .i64 0] 247))
 case atStart=>exact⟨0,0,by simp [Hid],by omega,rfl,rfl,by simp [Hid,Fr.val],rfl⟩
 case round =>
  obtain⟨i,u,hi,hin,rfl,rfl,HU,rfl⟩:=hrel
  by_cases hlt':i<2
  ·have hx:=HCell.out (3+i) (by omega)
   have hx2:(w.alloc (.cells #[.int .i64 0,.int .i64 0,.int .i64 0] 247)).cell? ⟨b,off+3+i,none⟩=some (.int .u8 (l.getD (3+i) 0:Nat)):=by
    rw [World.cell?_alloc_lt _ _ _ (by simpa using hbl),Nat.add_assoc]
    exact hx
   have lx:=getD_lt256 HA.out.lt (3+i)
   have hsn:(l.drop 3).take (i+1)=(l.drop 3).take i++[l.getD (3+i) 0]:=by
    rw [take_snoc (by rw [List.length_drop];omega)]
    congr 2
    simp [List.getD,List.getElem?_drop]
   have HSN:=Lib.hid hsn;clear hsn hx
   have hub:u<16777216:=by
    have h1:=Fr.val_lt ((l.drop 3).take i) (fun x hx=>HA.out.lt x (List.mem_of_mem_drop (List.mem_of_mem_take hx)))
    rw [← show u=_ from HU.out] at h1
    have h2:((l.drop 3).take i).length≤3:=by rw [List.length_take];omega
    have h3:256 ^ ((l.drop 3).take i).length≤256 ^ 3:=Nat.pow_le_pow_right (by omega) h2
    omega
   generalize l.getD (3+i) 0=x at hx2 lx HSN
   obtain⟨u',hu'⟩:∃ u':Nat,u'=u*256+x:=⟨_,rfl⟩
   have e1:bits .or .u32 ((u:Int)*256) (x:Int)=(u':Int):=by
    have h1:=u32_or_nat (u*256) x (by omega) (by omega)
    rw [or_byte u x lx,← hu'] at h1
    rw [← h1]
    congr 1
   have HU':=Lib.hid hu';clear hu'
   go_wp2_with fail
   go_roundg (gk-1)
   case measure=>have:=hi.out;omega
   case rel =>
    refine⟨i+1,u',show i+1+(gk-1)=2 by have:=hi.out;omega,by omega,by go_num,rfl,?_,rfl⟩
    show u'=_
    rw [HSN.out,Fr.val_snoc,← show u=_ from HU.out]
    exact HU'.out
  ·obtain rfl:i=2:=by omega
   have hub:u<65536:=by rw [show u=_ from HU.out];exact HVL.out
   have hub':(u:Int)<65536:=by omega
   clear hub
   have hsg:Fr.sgn 2 (Fr.val ((l.drop 3).take 2))=(u:Int):=by
    rw [← show u=_ from HU.out]
    unfold Fr.sgn
    rw [if_neg (by omega)]
   have HSG:=Lib.hid hsg;clear hsg
   go_wp2_with ((go_at_call 173;refine(signed_no (k:Int) _ (by omega)).mono ?_;rintro e w' ⟨rfl,rfl⟩))
   exact bodyPost_ret (v:=gv ⟨k,q,(u:Int),0⟩) (by simp [results,Tryz.results123,go_sem,gv]) rfl ⟨by rw [HSG.out],bself2 _ _ _⟩
theorem get_ok4(a:Option Addr)(l:List Nat)(c:Nat)(w:World)(ha:RdB w a l)(hcl:l.length≤c)(hcm:c≤maxLen)(h:l.length=5+4)(hk:Fr.sz (l.getD 0 0)=4)(hf:l.getD 2 0=4)(hs:Crc.sum l=0) :
  Calls Tryz.prog 123 #[.slice a l.length c] w fun e w'=>e=.returned (gv (Fr.get l))∧Below w.heap.size w w':=by
 have hg:Fr.get l=⟨l.getD 0 0,l.getD 1 0,Fr.sgn 4 (Fr.val ((l.drop 3).take 4)),0⟩:=by
  unfold Fr.get;rw [if_neg (by omega),hk,if_neg (by omega),if_neg (by omega),if_neg (by simp [hs])]
 rw [hg]
 clear hg
 have hkk:(l.getD 0 0=1∨l.getD 0 0=2∨l.getD 0 0=5)∨(l.getD 0 0=3∨l.getD 0 0=4):=by
  rcases Fr.sz_cases ((l.getD 0 0:Nat):Int) with h|h|h<;>omega
 have hkn:l.getD 0 0=3∨l.getD 0 0=4:=by
  rcases Fr.sz_cases ((l.getD 0 0:Nat):Int) with h|h|h<;>omega
 clear hkk
 have HA:=Lib.hid ha
 obtain⟨b,off,rfl,hbl,hcell⟩:=ha.at_ (by omega)
 have HCell:=Lib.hid hcell
 have hc0:=hcell 0 (by omega)
 have hc1:=hcell 1 (by omega)
 have hc2:=hcell 2 (by omega)
 rw [Nat.add_zero] at hc0
 rw [hf] at hc2
 have hS:∀ w,Calls Tryz.prog 172 #[.int .i64 ((l.getD 0 0:Nat):Int)] w fun e w'=>e=.returned (.int .i64 4)∧w=w':=fun w=>by
  have:=size_any ((l.getD 0 0:Nat):Int) w
  rw [hk] at this
  exact this
 have hlt:=getD_lt256 ha.lt 0
 have hlt1:=getD_lt256 ha.lt 1
 have hltd:∀ x∈(l.drop 3).take 4,x<256:=fun x hx=>ha.lt x (List.mem_of_mem_drop (List.mem_of_mem_take hx))
 have hvl:=Fr.val_lt ((l.drop 3).take 4) hltd
 rw [show ((l.drop 3).take 4).length=4 by rw [List.length_take,List.length_drop];omega] at hvl
 have HVL:=Lib.hid hvl;clear hvl
 clear hk
 generalize l.getD 0 0=k at hc0 hS hlt hkn
 generalize l.getD 1 0=q at hc1 hlt1
 have e0:(Crc.sum l).toNat=0:=by rw [hs];rfl
 have h':(l.length:Int)=5+4:=by omega
 have hlen:=Lib.hid h
 have d2:((l.length:Int) != 9)=false:=by simp;omega
 have HS:=Lib.hid hS
 have HSum:=Lib.hid e0
 have hcm':=hcm
 clear hS hcell ha hf hs h h' e0
 have hl5:5≤l.length:=by have:=hlen.out;omega
 have hlu:l.length≤9:=by have:=hlen.out;omega
 have hlu2:9≤l.length:=by have:=hlen.out;omega
 go_enter Tryz.func123,Tryz.ntmps123
 go_wp2_with ((go_at_call 172;refine(HS.out _).mono ?_;rintro e w' ⟨rfl,rfl⟩))
 refine(sum_any _ l c _ (HA.out.below (bself _ _)) (by omega)).mono ?_
 rintro e w' ⟨rfl,rfl⟩
 rw [HSum.out]
 go_wp2_with fail
 go_loopg [6,50] 4 (fun r s6 s50 wr=>∃ (i u:Nat),Hid (i+r=4)∧i≤4∧s50=.int .i64 i∧s6=.int .u32 u∧Hid (u=Fr.val ((l.drop 3).take i))∧wr=w.alloc (.cells #[.int .i64 0,.int .i64 0,.int .i64 0] 247))
 case atStart=>exact⟨0,0,by simp [Hid],by omega,rfl,rfl,by simp [Hid,Fr.val],rfl⟩
 case round =>
  obtain⟨i,u,hi,hin,rfl,rfl,HU,rfl⟩:=hrel
  by_cases hlt':i<4
  ·have hx:=HCell.out (3+i) (by omega)
   have hx2:(w.alloc (.cells #[.int .i64 0,.int .i64 0,.int .i64 0] 247)).cell? ⟨b,off+3+i,none⟩=some (.int .u8 (l.getD (3+i) 0:Nat)):=by
    rw [World.cell?_alloc_lt _ _ _ (by simpa using hbl),Nat.add_assoc]
    exact hx
   have lx:=getD_lt256 HA.out.lt (3+i)
   have hsn:(l.drop 3).take (i+1)=(l.drop 3).take i++[l.getD (3+i) 0]:=by
    rw [take_snoc (by rw [List.length_drop];omega)]
    congr 2
    simp [List.getD,List.getElem?_drop]
   have HSN:=Lib.hid hsn;clear hsn hx
   have hub:u<16777216:=by
    have h1:=Fr.val_lt ((l.drop 3).take i) (fun x hx=>HA.out.lt x (List.mem_of_mem_drop (List.mem_of_mem_take hx)))
    rw [← show u=_ from HU.out] at h1
    have h2:((l.drop 3).take i).length≤3:=by rw [List.length_take];omega
    have h3:256 ^ ((l.drop 3).take i).length≤256 ^ 3:=Nat.pow_le_pow_right (by omega) h2
    omega
   generalize l.getD (3+i) 0=x at hx2 lx HSN
   obtain⟨u',hu'⟩:∃ u':Nat,u'=u*256+x:=⟨_,rfl⟩
   have e1:bits .or .u32 ((u:Int)*256) (x:Int)=(u':Int):=by
    have h1:=u32_or_nat (u*256) x (by omega) (by omega)
    rw [or_byte u x lx,← hu'] at h1
    rw [← h1]
    congr 1
   have HU':=Lib.hid hu';clear hu'
   go_wp2_with fail
   go_roundg (gk-1)
   case measure=>have:=hi.out;omega
   case rel =>
    refine⟨i+1,u',show i+1+(gk-1)=4 by have:=hi.out;omega,by omega,by go_num,rfl,?_,rfl⟩
    show u'=_
    rw [HSN.out,Fr.val_snoc,← show u=_ from HU.out]
    exact HU'.out
  ·obtain rfl:i=4:=by omega
   have hub:u<4294967296:=by rw [show u=_ from HU.out];exact HVL.out
   have hub':(u:Int)<4294967296:=by omega
   clear hub
   have hsg:Fr.sgn 4 (Fr.val ((l.drop 3).take 4))=(wrap32 (u:Int)):=by
    rw [← show u=_ from HU.out]
    unfold Fr.sgn wrap32
    simp only [true_and];split<;>omega
   have HSG:=Lib.hid hsg;clear hsg
   go_wp2_with ((go_at_call 173;refine(signed_yes (k:Int) _ (by omega)).mono ?_;rintro e w' ⟨rfl,rfl⟩))
   exact bodyPost_ret (v:=gv ⟨k,q,(wrap32 (u:Int)),0⟩) (by simp [results,Tryz.results123,go_sem,gv];unfold wrap64 wrap32;omega) rfl ⟨by rw [HSG.out],bself2 _ _ _⟩
theorem get_any(a:Option Addr)(l:List Nat)(c:Nat)(w:World)(ha:RdB w a l)(hcl:l.length≤c)(hcm:c≤maxLen)(hm:l.length≤1000000) :
  Calls Tryz.prog 123 #[.slice a l.length c] w fun e w'=>e=.returned (gv (Fr.get l))∧Below w.heap.size w w':=by
 by_cases h:l.length<5
 ·exact get_short a l c w ha h
 by_cases hk:Fr.sz (l.getD 0 0)=0
 ·exact get_kind a l c w ha (by omega) hm hk
 by_cases hf:l.getD 2 0≠Fr.sz (l.getD 0 0)∨l.length≠5+Fr.sz (l.getD 0 0)
 ·exact get_form a l c w ha (by omega) hm hk hf
 by_cases hs:Crc.sum l=0
 ·have hf':l.getD 2 0=Fr.sz (l.getD 0 0)∧l.length=5+Fr.sz (l.getD 0 0):=by omega
  rcases Fr.sz_cases ((l.getD 0 0:Nat):Int) with h2|h2|h2
  ·exact absurd h2.1 hk
  ·exact get_ok2 a l c w ha hcl hcm (by omega) h2.1 (by omega) hs
  ·exact get_ok4 a l c w ha hcl hcm (by omega) h2.1 (by omega) hs
 ·exact get_sum a l c w ha (by omega) hm hk hf hs
end
section
open Go.ChangeShapes Go.WideShapes Go.RowKit
namespace Crc
theorem mod_next(n k:Nat):n%2 ^ (k+1)=n%2 ^ k+(if n/2 ^ k%2=1 then 2 ^ k else 0):=by
 rw [Nat.pow_succ,Nat.mod_mul]
 split
 ·rename_i h;rw [h,Nat.mul_one]
 ·rename_i h;rw [show n/2 ^ k%2=0 by omega,Nat.mul_zero]
theorem bit_next(a b k:Nat):(a ^^^ b)/2 ^ k%2=1↔a/2 ^ k%2≠b/2 ^ k%2:=by
 have h:∀ n:Nat,n/2 ^ k%2=1↔n.testBit k=true:=fun n=>by rw [Nat.testBit_eq_decide_div_mod_eq];simp
 have ha:=h a
 have hb:=h b
 rw [h,Nat.testBit_xor]
 cases hta:a.testBit k<;>cases htb:b.testBit k<;>simp [hta,htb] at ha hb ⊢ <;> omega
end Crc
theorem xor_any(a b:Nat)(w:World)(ha:a<65536)(hb:b<65536) :
  Calls Tryz.prog 87 #[.int .i64 a,.int .i64 b] w fun e w'=>e=.returned (.int .i64 ((a ^^^ b:Nat):Int))∧∃ n,w'=w.drewN n:=by
 go_enter Tryz.func87,Tryz.ntmps87
 go_wp2
 go_loopg [5,6,7] 16 (fun n s5 s6 s7 wr=>∃ (k out part:Nat),k+n=16∧s7=.int .i64 k∧s5=.int .i64 out∧s6=.int .i64 part∧1≤part∧part≤65536∧out≤65536∧Hid (out=(a ^^^ b)%2 ^ k∧part=2 ^ k)∧∃ m,wr=w.drewN m)
 case atStart=>exact⟨0,0,1,by omega,rfl,rfl,rfl,by omega,by omega,by omega,⟨by simp [Nat.mod_one],rfl⟩,0,rfl⟩
 case round =>
  obtain⟨k,out,part,hk,rfl,rfl,rfl,hp,hp',ho,H,m,rfl⟩:=hrel
  have HK:=Lib.hid hk
  by_cases hlt:k<16
  ·have hle:k≤16:=by omega
   clear hk
   obtain⟨qa,hqa⟩:∃ q:Nat,q=a/part:=⟨_,rfl⟩
   obtain⟨qb,hqb⟩:∃ q:Nat,q=b/part:=⟨_,rfl⟩
   have la:qa≤a:=by rw [hqa];exact Nat.div_le_self _ _
   have lb:qb≤b:=by rw [hqb];exact Nat.div_le_self _ _
   have e1:wrap64 ((a:Int)/(part:Int))=(qa:Int):=by
    have:(a:Int)/(part:Int)=(qa:Int):=by rw [hqa];exact(Int.natCast_ediv a part).symm
    rw [this];exact IntWalk.wrap64_in _ (by omega)
   have e2:wrap64 ((b:Int)/(part:Int))=(qb:Int):=by
    have:(b:Int)/(part:Int)=(qb:Int):=by rw [hqb];exact(Int.natCast_ediv b part).symm
    rw [this];exact IntWalk.wrap64_in _ (by omega)
   have HQ:=Lib.hid (And.intro hqa hqb);clear hqa hqb
   by_cases hd:qa%2=qb%2
   ·have HDn:=Lib.hid hd
    have ht:((qa:Int)%2 != (qb:Int)%2)=false:=by simp;omega
    clear hd
    go_wp2_with fail
    go_quiet (fail)
    go_wp2_with fail
    go_roundg (gk-1)
    case measure=>have:=HK.out;omega
    case rel =>
     have h1:=HK.out
     have h2:=HQ.out
     have h3:=HDn.out
     have hpk:=H.out.2
     have hbit:=Crc.bit_next a b k
     rw [← hpk,← h2.1,← h2.2] at hbit
     refine⟨k+1,out,2*part,by omega,by go_num,rfl,by go_num,by omega,?_,by omega,⟨?_,?_⟩,?_⟩
     ·rw [hpk,show 65536=2*2 ^ 15 by rfl]
      exact Nat.mul_le_mul_left _ (Nat.pow_le_pow_right (by omega) (by omega))
     ·rw [Crc.mod_next,← hpk,if_neg (by rw [hbit];omega),Nat.add_zero,hpk]
      exact H.out.1
     ·rw [Nat.pow_succ,hpk,Nat.mul_comm]
     ·exact⟨m+nq,by first|rfl|simp [World.drewN_drewN]⟩
   ·have HDn:=Lib.hid hd
    have ht:((qa:Int)%2 != (qb:Int)%2)=true:=by simp;omega
    clear hd
    go_wp2_with fail
    go_quiet (fail)
    go_wp2_with fail
    go_roundg (gk-1)
    case measure=>have:=HK.out;omega
    case rel =>
     have h1:=HK.out
     have h2:=HQ.out
     have h3:=HDn.out
     have hpk:=H.out.2
     have hbit:=Crc.bit_next a b k
     rw [← hpk,← h2.1,← h2.2] at hbit
     refine⟨k+1,out+part,2*part,by omega,by go_num,by go_num,by go_num,by omega,?_,?_,⟨?_,?_⟩,?_⟩
     ·rw [hpk,show 65536=2*2 ^ 15 by rfl]
      exact Nat.mul_le_mul_left _ (Nat.pow_le_pow_right (by omega) (by omega))
     ·have hb1:part≤2 ^ 15:=by rw [hpk];exact Nat.pow_le_pow_right (by omega) (by omega)
      have hb2:out<part:=by rw [show out=_ from H.out.1,hpk];exact Nat.mod_lt _ (Nat.two_pow_pos k)
      omega
     ·rw [Crc.mod_next,← hpk,if_pos (by rw [hbit];omega)]
      rw [← show out=(a ^^^ b)%part from by rw [hpk];exact H.out.1]
     ·rw [Nat.pow_succ,hpk,Nat.mul_comm]
     ·exact⟨m+nq,by first|rfl|simp [World.drewN_drewN]⟩
  ·obtain rfl:k=16:=by omega
   go_wp2_with fail
   go_ret
   refine⟨ret_int ?_,m,rfl⟩
   rw [show out=_ from H.out.1]
   rw [Nat.mod_eq_of_lt]
   exact Nat.xor_lt_two_pow ha hb
end
section
open Go.ChangeShapes Go.WideShapes Go.RowKit
namespace Crc
def inBit(l:List Nat)(i:Nat):Bool:=if i<16 then !bitOf l i else bitOf l i
def num(b:Bool):Nat:=if b then 1 else 0
theorem even_xor(x:Nat)(b:Bool):2*x ^^^ num b=2*x+num b:=by
 cases b
 ·simp [num]
 ·have h:=Nat.two_pow_add_eq_or_of_lt (i:=1) (b:=1) (by decide) x
  rw [show (2:Nat) ^ 1=2 by rfl] at h
  show 2*x ^^^ 1=2*x+1
  rw [h]
  apply Nat.eq_of_testBit_eq
  intro i
  rw [Nat.testBit_xor,Nat.testBit_or]
  cases i with
  |zero=>simp
  |succ i=>simp [Nat.testBit_succ]
theorem sh_bit(x:V)(b:Bool):(x <<< 1 ^^^ bit b).toNat=2*x.toNat%65536+num b:=by
 rw [BitVec.toNat_xor,BitVec.toNat_shiftLeft,Nat.shiftLeft_eq]
 have e:(bit b).toNat=num b:=by cases b<;>rfl
 rw [e,show x.toNat*2 ^ 1%2 ^ 16=2*(x.toNat%32768) by omega,even_xor]
 omega
theorem astp_lo(x:V)(b:Bool)(h:¬ 65536≤2*x.toNat+num b):(astp x b).toNat=2*x.toNat+num b:=by
 have hm:x.msb=false:=by
  rw [BitVec.msb_eq_decide];simp;omega
 unfold astp
 rw [stp_low x hm,sh_bit]
 omega
theorem astp_hi(x:V)(b:Bool)(h:65536≤2*x.toNat+num b):(astp x b).toNat=(2*x.toNat+num b-65536) ^^^ 4129:=by
 have hb:num b≤1:=by cases b<;>decide
 have hx:=x.isLt
 have hm:x.msb=true:=by
  rw [BitVec.msb_eq_decide];simp;omega
 unfold astp stp
 rw [hm]
 show ((x <<< 1 ^^^ P) ^^^ bit b).toNat=_
 rw [BitVec.xor_assoc,BitVec.xor_comm P,← BitVec.xor_assoc,BitVec.toNat_xor,sh_bit]
 have e:2*x.toNat%65536+num b=2*x.toNat+num b-65536:=by omega
 rw [e];rfl
theorem left_inBit(l:List Nat)(hl:∀ x∈l,x<256):left (inBit l) (8*l.length+16)=sum l:=left_sum l hl _ (fun _=>rfl)
theorem num_le(b:Bool):num b≤1:=by cases b<;>decide
theorem bit_byte(c j:Nat):c/2 ^ j%2=num (c.testBit j):=by
 rw [Nat.testBit_eq_decide_div_mod_eq]
 unfold num
 by_cases h:c/2 ^ j%2=1
 ·simp [h]
 ·simp [h];omega
end Crc
theorem xor_p(y:Nat)(w:World)(hy:y<65536) :
  Calls Tryz.prog 87 #[.int .i64 y,.int .i64 4129] w fun e w'=>e=.returned (.int .i64 ((y ^^^ 4129:Nat):Int))∧∃ n,w'=w.drewN n:=by
 have h:=xor_any y 4129 w hy (by omega)
 rw [show ((4129:Nat):Int)=4129 from rfl] at h
 exact h
theorem rsum_any(a:Option Addr)(l:List Nat)(cap:Nat)(w:World)(hl:RdB w a l)(hn:l.length≤1000000) :
  Calls Tryz.prog 53 #[.slice a l.length cap] w fun e w'=>e=.returned (.int .i64 ((Crc.sum l).toNat:Int))∧∃ n,w'=w.drewN n:=by
 have HL:=Lib.hid hl;clear hl
 go_enter Tryz.func53,Tryz.ntmps53
 go_wp2
 go_loopg [4,5] (8*l.length+16) (fun n s4 s5 wr=>∃ (k:Nat) (x:Crc.V),k+n=8*l.length+16∧s5=.int .i64 k∧s4=.int .i64 (x.toNat:Int)∧Hid (x=Crc.left (Crc.inBit l) k)∧∃ m,wr=w.drewN m)
 case atStart=>exact⟨0,0,by omega,rfl,rfl,rfl,0,rfl⟩
 case round =>
  obtain⟨k,x,hk,rfl,rfl,H,m,rfl⟩:=hrel
  have HK:=Lib.hid hk
  have hle:k≤8*l.length+16:=by omega
  clear hk
  have hx:=v_lt x
  by_cases hlt:k<8*l.length+16
  ·have hnn:=Crc.num_le (Crc.inBit l k)
   generalize hB:Crc.num (Crc.inBit l k)=B at hnn
   have HB:=Lib.hid hB;clear hB
   go_upto_if 20 with (fail)
   have hn0:=Crc.num_le (Crc.bitOf l k)
   generalize hB0:Crc.num (Crc.bitOf l k)=B0 at hn0
   have HB0:=Lib.hid hB0;clear hB0
   go_cut [6] (fun s6 wx=>s6=.int .i64 (B0:Int)∧wx=w.drewN m)
   case first =>
    by_cases h1:k<8*l.length
    ·obtain⟨b,off,rfl,hb,hc⟩:=HL.out.at_ (by omega)
     have hc1:=hc (k/8) (by omega)
     clear hc
     have h2:=getD_lt256 HL.out.lt (k/8)
     have hbo:Crc.bitOf l k=(l.getD (k/8) 0).testBit (7-k%8):=by unfold Crc.bitOf;simp [h1]
     generalize l.getD (k/8) 0=c at hc1 h2 hbo
     obtain⟨q,hq⟩:∃ q:Nat,q=c/2 ^ (7-k%8):=⟨_,rfl⟩
     have lq:q≤c:=by rw [hq];exact Nat.div_le_self _ _
     have hb2:=Crc.bit_byte c (7-k%8)
     rw [← hq,← hbo,HB0.out] at hb2
     have E3:=Lib.hid (show (q:Int)%2=(B0:Int) by omega)
     have e0:wrap64 ((c:Int)/2 ^ (7-k%8))=(q:Int):=by
      have:(c:Int)/2 ^ (7-k%8)=(q:Int):=by
       rw [hq,Int.natCast_ediv]
       congr 1
      rw [this];exact IntWalk.wrap64_in _ (by omega)
     clear hbo hb2 hq
     go_wp2_with fail
     go_meet
     exact⟨by rw [E3.out],rfl⟩
    ·have hbo:Crc.bitOf l k=false:=by unfold Crc.bitOf;simp [h1]
     have e3:B0=0:=by rw [← HB0.out,hbo];rfl
     subst e3
     clear hbo
     go_wp2_with fail
     go_meet
     exact⟨rfl,rfl⟩
   case rest =>
   obtain⟨rfl,rfl⟩:=hcut
   go_upto_if 34 with (fail)
   go_cut [6] (fun s6 wx=>s6=.int .i64 (B:Int)∧wx=w.drewN m)
   case first =>
    have hBB:=HB.out
    have hB0:=HB0.out
    unfold Crc.inBit at hBB
    generalize Crc.bitOf l k=t at hBB hB0
    clear HB HB0
    by_cases h3:k<16
    ·rw [if_pos h3] at hBB
     have E3:=Lib.hid (show (B:Int)=1-(B0:Int) by cases t<;>simp [Crc.num] at hBB hB0<;>omega)
     clear hBB hB0
     go_wp2_with fail
     go_meet
     exact⟨by rw [E3.out],rfl⟩
    ·rw [if_neg h3] at hBB
     have e3:B=B0:=by rw [← hBB,← hB0]
     subst e3
     clear hBB hB0
     go_wp2_with fail
     go_meet
     exact⟨rfl,rfl⟩
   case rest =>
   obtain⟨rfl,rfl⟩:=hcut
   by_cases h4:(65536:Int)≤2*(x.toNat:Int)+(B:Int)
   ·obtain⟨y,hy⟩:∃ y:Nat,(2*(x.toNat:Int)+(B:Int)-65536)=(y:Int):=⟨2*x.toNat+B-65536,by omega⟩
    have hy2:y<65536:=by omega
    have HY:=Lib.hid hy
    go_wp2_with (go_at_call 87;refine(xor_p y _ hy2).mono ?_;rintro e w' ⟨rfl,m',rfl⟩)
    go_roundg (gk-1)
    case measure=>have:=HK.out;omega
    case rel =>
     refine⟨k+1,Crc.astp x (Crc.inBit l k),by have:=HK.out;omega,by go_num,?_,?_,m+m',by simp [World.drewN_drewN]⟩
     ·have h6:=Crc.astp_hi x (Crc.inBit l k) (by rw [HB.out];omega)
      rw [h6,HB.out,show 2*x.toNat+B-65536=y by have:=HY.out;omega]
     ·show _=Crc.astp (Crc.left (Crc.inBit l) k) (Crc.inBit l k)
      rw [← show x=_ from H.out]
   ·go_wp2_with fail
    go_roundg (gk-1)
    case measure=>have:=HK.out;omega
    case rel =>
     refine⟨k+1,Crc.astp x (Crc.inBit l k),by have:=HK.out;omega,by go_num,?_,?_,m,rfl⟩
     ·have h6:=Crc.astp_lo x (Crc.inBit l k) (by rw [HB.out];omega)
      rw [h6,HB.out]
      go_num
     ·show _=Crc.astp (Crc.left (Crc.inBit l) k) (Crc.inBit l k)
      rw [← show x=_ from H.out]
  ·have hke:k=8*l.length+16:=by omega
   have HE:=Lib.hid hke;clear hke
   go_wp2_with fail
   go_ret
   refine⟨ret_int ?_,m,rfl⟩
   rw [← Crc.left_inBit l HL.out.lt,← HE.out,← show x=_ from H.out]
end
end Go.Proofs.YtllemifiammnnaaGreat
