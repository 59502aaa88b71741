/- Part 9 of the proof. No condition. -/
import Derived.Laws.BytesArg
import Derived.DeepKeys5
import Derived.Laws.IdiomRangeMap
import Derived.Test.YtllemifiammnnaaGreatG08
import Derived.Test.YtllemifiammnnaaGreatG00
import Derived.Test.YtllemifiammnnaaGreatG04
import Derived.Test.YtllemifiammnnaaGreatG07
import Derived.Test.YtllemifiammnnaaGreatG03
import Derived.Test.YtllemifiammnnaaGreatG06
set_option linter.unusedVariables false
set_option linter.unusedSimpArgs false
set_option maxRecDepth 100000
set_option maxHeartbeats 4000000
namespace Go.Proofs.YtllemifiammnnaaGreat
section
open Go.ChangeShapes Go.WideShapes Go.RowKit Go.Sort
theorem store3{w w1:World}{b:Nat}(hb0:Below w.heap.size w w1)(hb:w.heap.size≤b){x' y' z':Value}(h0:w1.cell? ⟨b,0,none⟩=some x')(h1:w1.cell? ⟨b,1,none⟩=some y')(h2:w1.cell? ⟨b,2,none⟩=some z')(x y z:Value) :
  ∃ wz,wz=(((w1.setCell ⟨b,0,none⟩ x).setCell ⟨b,1,none⟩ y).setCell ⟨b,2,none⟩ z)∧Below w.heap.size w wz∧wz.cell? ⟨b,0,none⟩=some x∧wz.cell? ⟨b,1,none⟩=some y∧wz.cell? ⟨b,2,none⟩=some z:=by
 refine⟨_,rfl,on_set (on_set (on_set hb0 hb _) hb _) hb _,?_,?_,?_⟩
 ·rw [World.cell?_setCell_other _ _ _ _ (by simp),World.cell?_setCell_other _ _ _ _ (by simp),World.cell?_setCell_same _ _ _ h0]
 ·rw [World.cell?_setCell_other _ _ _ _ (by simp)]
  exact World.cell?_setCell_same _ _ _ (by rw [World.cell?_setCell_other _ _ _ _ (by simp)];exact h1)
 ·exact World.cell?_setCell_same _ _ _ (by rw [World.cell?_setCell_other _ _ _ _ (by simp),World.cell?_setCell_other _ _ _ _ (by simp)];exact h2)
theorem after3{w w1:World}{t:TypeId}{x y z:Value}(hb1:Below (w.alloc (.cells #[x,y,z] t)).heap.size (w.alloc (.cells #[x,y,z] t)) w1) :
  w1.cell? ⟨w.heap.size,0,none⟩=some x∧w1.cell? ⟨w.heap.size,1,none⟩=some y∧w1.cell? ⟨w.heap.size,2,none⟩=some z:=by
 obtain⟨hc,_,_⟩:=bcell hb1
 refine⟨?_,?_,?_⟩<;>rw [hc _ _ (by simp)]<;>rw [World.cell?_alloc_mark]<;>rfl
theorem rsize_any(k:Int)(w:World):Calls Tryz.prog 67 #[.int .i64 k] w fun e w'=>e=.returned (.int .i64 (Fr.sz k:Int))∧Below w.heap.size w w':=by
 by_cases h:k<1∨k > 5
 ·have hs:Fr.sz k=0:=by rcases Fr.sz_cases k with h|h|h<;>omega
  rw [hs]
  go_enter Tryz.func67,Tryz.ntmps67
  rcases h with h|h
  ·go_wp2
   go_ret
   exact⟨rfl,bself _ _⟩
  ·have h2:¬ k<1:=by omega
   go_wp2
   go_ret
   exact⟨rfl,bself _ _⟩
 ·obtain h|h|h|h|h:k=1∨k=2∨k=3∨k=4∨k=5:=by omega
  all_goals
   subst h
   clear h
   go_enter Tryz.func67,Tryz.ntmps67
   go_wp2
   go_ret
   exact⟨rfl,bself _ _⟩
theorem rget_short(a:Option Addr)(l:List Nat)(c:Nat)(w:World)(ha:RdB w a l)(h:l.length<5) :
  Calls Tryz.prog 45 #[.slice a l.length c] w fun e w'=>e=.returned (gv (Fr.get l))∧Below w.heap.size w w':=by
 have hg:Fr.get l=⟨0,0,0,14⟩:=by unfold Fr.get;rw [if_pos h]
 rw [hg]
 clear hg
 go_enter Tryz.func45,Tryz.ntmps45
 go_wp2_with fail
 exact bodyPost_ret (v:=gv ⟨0,0,0,14⟩) (by simp [results,Tryz.results45,go_sem,gv]) rfl ⟨rfl,bself _ _⟩
theorem rget_kind(a:Option Addr)(l:List Nat)(c:Nat)(w:World)(ha:RdB w a l)(h:5≤l.length)(hm:l.length≤1000000)(hk:Fr.sz (l.getD 0 0)=0) :
  Calls Tryz.prog 45 #[.slice a l.length c] w fun e w'=>e=.returned (gv (Fr.get l))∧Below w.heap.size w w':=by
 have hg:Fr.get l=⟨0,0,0,30⟩:=by unfold Fr.get;rw [if_neg (by omega),if_pos hk]
 rw [hg]
 clear hg
 obtain⟨b,off,rfl,hbl,hcell⟩:=ha.at_ (by omega)
 have hc0:=hcell 0 (by omega)
 rw [Nat.add_zero] at hc0
 have hS:∀ w,Calls Tryz.prog 67 #[.int .i64 ((l.getD 0 0:Nat):Int)] w fun e w'=>e=.returned (.int .i64 0)∧Below w.heap.size w w':=fun w=>by
  have:=rsize_any ((l.getD 0 0:Nat):Int) w
  rw [hk] at this
  exact this
 have hlt:=getD_lt256 ha.lt 0
 generalize l.getD 0 0=k at hc0 hS hlt
 have HS:=Lib.hid hS;clear hS hcell hk ha
 go_enter Tryz.func45,Tryz.ntmps45
 go_wp2_with fail
 refine(HS.out _).mono ?_
 rintro e w1 ⟨rfl,hb1⟩
 have hb0:=on_past (bself _ _) hb1
 obtain⟨hc,hz,hl⟩:=bcell hb1
 obtain⟨q0,q1,q2⟩:=after3 hb1
 have zw10:w.heap.size<w1.heap.size:=by have:=hb1.size;simp at this;omega
 clear hc
 clear HS
 go_wp2_with fail
 obtain⟨wz,ez,hbz,c0,c1,c2⟩:=store3 hb0 (Nat.le_refl _) q0 q1 q2 (.int .i64 0) (.int .i64 0) (.int .i64 0)
 rw [← ez]
 clear ez hz hl
 exact bodyPost_ret (v:=gv ⟨0,0,0,30⟩) (by simp [results,Tryz.results45,go_sem,gv,c0,c1,c2]) rfl ⟨rfl,hbz⟩
theorem rget_form(a:Option Addr)(l:List Nat)(c:Nat)(w:World)(ha:RdB w a l)(h:5≤l.length)(hm:l.length≤1000000)(hk:Fr.sz (l.getD 0 0)≠0)(hf:l.getD 2 0≠Fr.sz (l.getD 0 0)∨l.length≠5+Fr.sz (l.getD 0 0)) :
  Calls Tryz.prog 45 #[.slice a l.length c] w fun e w'=>e=.returned (gv (Fr.get l))∧Below w.heap.size w w':=by
 have hg:Fr.get l=⟨0,0,0,11⟩:=by unfold Fr.get;rw [if_neg (by omega),if_neg hk,if_pos hf]
 rw [hg]
 clear hg
 have HA:=Lib.hid ha
 obtain⟨b,off,rfl,hbl,hcell⟩:=ha.at_ (by omega)
 have hc0:=hcell 0 (by omega)
 have hc2:=hcell 2 (by omega)
 rw [Nat.add_zero] at hc0
 have hS:∀ w,Calls Tryz.prog 67 #[.int .i64 ((l.getD 0 0:Nat):Int)] w fun e w'=>e=.returned (.int .i64 (Fr.sz ((l.getD 0 0:Nat):Int):Int))∧Below w.heap.size w w':=fun w=>rsize_any _ w
 have hn:Fr.sz ((l.getD 0 0:Nat):Int)≤4:=by rcases Fr.sz_cases ((l.getD 0 0:Nat):Int) with h|h|h<;>omega
 have hlt:=getD_lt256 ha.lt 0
 have hlt2:=getD_lt256 ha.lt 2
 generalize Fr.sz ((l.getD 0 0:Nat):Int)=n at hS hn hk hf
 generalize l.getD 0 0=k at hc0 hS hlt
 generalize l.getD 2 0=m at hc2 hlt2 hf
 have hn0:((n:Int)==0)=false:=by simp;omega
 have HS:=Lib.hid hS;clear hS hcell hk ha
 go_enter Tryz.func45,Tryz.ntmps45
 go_wp2_with fail
 refine(HS.out _).mono ?_
 rintro e w1 ⟨rfl,hb1⟩
 have hb0:=on_past (bself _ _) hb1
 obtain⟨hc,hz,hl⟩:=bcell hb1
 obtain⟨q0,q1,q2⟩:=after3 hb1
 have zw10:w.heap.size<w1.heap.size:=by have:=hb1.size;simp at this;omega
 clear hc
 have hc2':=(Below.cell (p:=⟨b,off+2,none⟩) hb0 hbl).trans hc2
 clear hc2
 by_cases h2:m=n
 ·have d1:((m:Int) != (n:Int))=false:=by simp;omega
  have d2:((l.length:Int) != 5+(n:Int))=true:=by simp;omega
  clear hf h2
  go_wp2_with fail
  obtain⟨wz,ez,hbz,c0,c1,c2⟩:=store3 hb0 (Nat.le_refl _) q0 q1 q2 (.int .i64 0) (.int .i64 0) (.int .i64 0)
  rw [← ez]
  clear ez hz hl
  exact bodyPost_ret (v:=gv ⟨0,0,0,11⟩) (by simp [results,Tryz.results45,go_sem,gv,c0,c1,c2]) rfl ⟨rfl,hbz⟩
 ·have d1:((m:Int) != (n:Int))=true:=by simp;omega
  clear hf h2
  go_wp2_with fail
  obtain⟨wz,ez,hbz,c0,c1,c2⟩:=store3 hb0 (Nat.le_refl _) q0 q1 q2 (.int .i64 0) (.int .i64 0) (.int .i64 0)
  rw [← ez]
  clear ez hz hl
  exact bodyPost_ret (v:=gv ⟨0,0,0,11⟩) (by simp [results,Tryz.results45,go_sem,gv,c0,c1,c2]) rfl ⟨rfl,hbz⟩
end
section
open Go.ChangeShapes Go.WideShapes Go.RowKit Go.Sort
theorem two_end{l:List Nat}{n:Nat}(hl:l.length=5+n):l=l.take (3+n)++[l.getD (3+n) 0,l.getD (4+n) 0]:=by
 apply List.ext_getElem?
 intro i
 by_cases h:i<3+n
 ·rw [List.getElem?_append_left (by rw [List.length_take];omega),List.getElem?_take,if_pos h]
 ·rw [List.getElem?_append_right (by rw [List.length_take];omega),List.length_take,Nat.min_eq_left (by omega)]
  by_cases h1:i=3+n
  ·subst h1;simp [List.getD,List.getElem?_eq_getElem (show 3+n<l.length by omega)]
  by_cases h2:i=4+n
  ·subst h2
   have e:4+n-(3+n)=1:=by omega
   rw [e];simp [List.getD,List.getElem?_eq_getElem (show 4+n<l.length by omega)]
  ·rw [List.getElem?_eq_none (by omega),List.getElem?_eq_none (by simp;omega)]
theorem rget_sum(a:Option Addr)(l:List Nat)(c:Nat)(w:World)(ha:RdB w a l)(hcl:l.length≤c)(hcm:c≤maxLen)(hm:l.length≤1000000)(n:Nat)(hn:n=2∨n=4)(hk:Fr.sz (l.getD 0 0)=n)(h2:l.getD 2 0=n)(h3:l.length=5+n)(hs:Crc.sum l≠0) :
  Calls Tryz.prog 45 #[.slice a l.length c] w fun e w'=>e=.returned (gv (Fr.get l))∧Below w.heap.size w w':=by
 have hg:Fr.get l=⟨0,0,0,31⟩:=by unfold Fr.get;rw [if_neg (by omega),if_neg (by omega),if_neg (by omega),if_pos hs]
 rw [hg]
 clear hg
 have hte:=two_end h3
 have hss:(Crc.sum (l.take (3+n))).toNat≠l.getD (3+n) 0*256+l.getD (4+n) 0:=by
  intro h
  apply hs
  rw [hte]
  exact(Crc.sum_zero _ _ _ (getD_lt256 ha.lt _) (getD_lt256 ha.lt _)).2 h
 clear hte
 have HA:=Lib.hid ha
 obtain⟨b,off,rfl,hbl,hcell⟩:=ha.at_ (by omega)
 have hc0:=hcell 0 (by omega)
 have hc2:=hcell 2 (by omega)
 have hc3:=hcell (3+n) (by omega)
 have hc4:=hcell (4+n) (by omega)
 rw [Nat.add_zero] at hc0
 have hS:∀ w,Calls Tryz.prog 67 #[.int .i64 ((l.getD 0 0:Nat):Int)] w fun e w'=>e=.returned (.int .i64 (n:Int))∧Below w.heap.size w w':=fun w=>by
  have:=rsize_any ((l.getD 0 0:Nat):Int) w
  rw [hk] at this
  exact this
 have hlt:=getD_lt256 ha.lt 0
 have hlt2:=getD_lt256 ha.lt 2
 have hlt3:=getD_lt256 ha.lt (3+n)
 have hlt4:=getD_lt256 ha.lt (4+n)
 have hlen:(l.take (3+n)).length=3+n:=by rw [List.length_take];omega
 have hT:∀ (w':World) (hb:Below w.heap.size w w') ,Calls Tryz.prog 53 #[.slice (some ⟨b,off,none⟩) (3+n) c] w' fun e w2=>e=.returned (.int .i64 ((Crc.sum (l.take (3+n))).toNat:Int))∧Below w'.heap.size w' w2:=fun w' hb=>by
  have:=rsum_any _ (l.take (3+n)) c w' ((HA.out.below hb).take _) (by omega)
  rw [hlen] at this
  exact this.mono fun e w2 ⟨h,k,hk⟩=>⟨h,hk ▸ bdN (Below.refl _ _) k⟩
 rw [h2] at hc2
 have hSl:(Crc.sum (l.take (3+n))).toNat<65536:=(Crc.sum (l.take (3+n))).isLt
 generalize (Crc.sum (l.take (3+n))).toNat=S at hss hT hSl
 generalize l.getD (3+n) 0=x at hc3 hss hlt3
 generalize l.getD (4+n) 0=y at hc4 hss hlt4
 generalize l.getD 0 0=k at hc0 hS hlt
 have hn0:((n:Int)==0)=false:=by simp;omega
 have d3:((S:Int) != (x:Int)*256+(y:Int))=true:=by simp;omega
 have hS5:S<65536:=hSl
 have d1:((l.length:Int) != 5+(n:Int))=false:=by simp;omega
 have hh:l.length=5+n:=h3
 have HS:=Lib.hid hS
 have HT:=Lib.hid hT
 clear hS hT hcell hk ha hs hlt2 h2
 go_enter Tryz.func45,Tryz.ntmps45
 go_wp2_with fail
 refine(HS.out _).mono ?_
 rintro e w1 ⟨rfl,hb1⟩
 have hb0:=on_past (bself _ _) hb1
 obtain⟨hc,hz,hl⟩:=bcell hb1
 obtain⟨q0,q1,q2⟩:=after3 hb1
 have zw10:w.heap.size<w1.heap.size:=by have:=hb1.size;simp at this;omega
 clear hc
 have hc2':=(Below.cell (p:=⟨b,off+2,none⟩) hb0 hbl).trans hc2
 have hc3':=(Below.cell (p:=⟨b,off+(3+n),none⟩) hb0 hbl).trans hc3
 have hc4':=(Below.cell (p:=⟨b,off+(4+n),none⟩) hb0 hbl).trans hc4
 clear hc0 hc2 hc3 hc4
 go_wp2_with fail
 have zb:b<w1.heap.size:=Nat.lt_of_lt_of_le hbl hb0.size
 have HT2:=Lib.hid (fun d os=>HT.out (grow (redrawn w1 d) os) (on_past hb0 (below_regrown w1 d os)))
 clear HT HA
 refine wp_region_past (by kernel_rfl) (by kernel_rfl) (fun hG=>?_)
 repeat (go_big_quiet_step ((go_at_call 53;exact Calls.regrown_of (HT2.out _ _))))
 refine wpQuiet_nil ?_
 intro w3 hb3
 clear hG
 have r0:=(Below.cell (p:=⟨w.heap.size,0,none⟩) hb3 zw10).trans q0
 have r1:=(Below.cell (p:=⟨w.heap.size,1,none⟩) hb3 zw10).trans q1
 have r2:=(Below.cell (p:=⟨w.heap.size,2,none⟩) hb3 zw10).trans q2
 have rz:∀ o,w3.frozen? ⟨w.heap.size,o,none⟩=false:=fun o=>((bcell hb3).2.1 _ _ zw10).trans ((hz _ _ (by simp)).trans (by simp))
 have zw30:w.heap.size<w3.heap.size:=Nat.lt_of_lt_of_le zw10 hb3.size
 have hb4:=on_past hb0 hb3
 clear q0 q1 q2 hz hl
 go_wp2_with fail
 obtain⟨wz,ez,hbz,c0,c1,c2⟩:=store3 hb4 (Nat.le_refl _) r0 r1 r2 (.int .i64 0) (.int .i64 0) (.int .i64 0)
 rw [← ez]
 clear ez
 exact bodyPost_ret (v:=gv ⟨0,0,0,31⟩) (by simp [results,Tryz.results45,go_sem,gv,c0,c1,c2]) rfl ⟨rfl,hbz⟩
theorem rget_ok(a:Option Addr)(l:List Nat)(c:Nat)(w:World)(ha:RdB w a l)(hcl:l.length≤c)(hcm:c≤maxLen)(hm:l.length≤1000000)(n:Nat)(hn:n=2∨n=4)(hk:Fr.sz (l.getD 0 0)=n)(h2:l.getD 2 0=n)(h3:l.length=5+n)(hs:Crc.sum l=0) :
  Calls Tryz.prog 45 #[.slice a l.length c] w fun e w'=>e=.returned (gv (Fr.get l))∧Below w.heap.size w w':=by
 have hg:Fr.get l=⟨l.getD 0 0,l.getD 1 0,Fr.sgn n (Fr.val ((l.drop 3).take n)),0⟩:=by unfold Fr.get;rw [if_neg (by omega),if_neg (by omega),if_neg (by omega),if_neg (by simp [hs]),hk]
 rw [hg]
 clear hg
 have hte:=two_end h3
 have hss:(Crc.sum (l.take (3+n))).toNat=l.getD (3+n) 0*256+l.getD (4+n) 0:=by
  rw [hte] at hs
  exact(Crc.sum_zero _ _ _ (getD_lt256 ha.lt _) (getD_lt256 ha.lt _)).1 hs
 clear hte
 have HA:=Lib.hid ha
 obtain⟨b,off,rfl,hbl,hcell⟩:=ha.at_ (by omega)
 have hc0:=hcell 0 (by omega)
 have hc1:=hcell 1 (by omega)
 have hc2:=hcell 2 (by omega)
 have HCell:=Lib.hid hcell
 have hlt1:=getD_lt256 ha.lt 1
 have hc3:=hcell (3+n) (by omega)
 have hc4:=hcell (4+n) (by omega)
 rw [Nat.add_zero] at hc0
 have hS:∀ w,Calls Tryz.prog 67 #[.int .i64 ((l.getD 0 0:Nat):Int)] w fun e w'=>e=.returned (.int .i64 (n:Int))∧Below w.heap.size w w':=fun w=>by
  have:=rsize_any ((l.getD 0 0:Nat):Int) w
  rw [hk] at this
  exact this
 have hlt:=getD_lt256 ha.lt 0
 have hlt2:=getD_lt256 ha.lt 2
 have hlt3:=getD_lt256 ha.lt (3+n)
 have hlt4:=getD_lt256 ha.lt (4+n)
 have hlen:(l.take (3+n)).length=3+n:=by rw [List.length_take];omega
 have hT:∀ (w':World) (hb:Below w.heap.size w w') ,Calls Tryz.prog 53 #[.slice (some ⟨b,off,none⟩) (3+n) c] w' fun e w2=>e=.returned (.int .i64 ((Crc.sum (l.take (3+n))).toNat:Int))∧Below w'.heap.size w' w2:=fun w' hb=>by
  have:=rsum_any _ (l.take (3+n)) c w' ((HA.out.below hb).take _) (by omega)
  rw [hlen] at this
  exact this.mono fun e w2 ⟨h,k,hk⟩=>⟨h,hk ▸ bdN (Below.refl _ _) k⟩
 rw [h2] at hc2
 have hSl:(Crc.sum (l.take (3+n))).toNat<65536:=(Crc.sum (l.take (3+n))).isLt
 generalize (Crc.sum (l.take (3+n))).toNat=S at hss hT hSl
 generalize l.getD (3+n) 0=x at hc3 hss hlt3
 generalize l.getD (4+n) 0=y at hc4 hss hlt4
 generalize l.getD 1 0=q at hc1 hlt1
 generalize l.getD 0 0=k at hc0 hS hlt
 have hn0:((n:Int)==0)=false:=by simp;omega
 have d3:((S:Int) != (x:Int)*256+(y:Int))=false:=by simp;omega
 have hS5:S<65536:=hSl
 have d1:((l.length:Int) != 5+(n:Int))=false:=by simp;omega
 have hh:l.length=5+n:=h3
 have HS:=Lib.hid hS
 have HT:=Lib.hid hT
 clear hS hT hcell hk ha hs hlt2 h2
 go_enter Tryz.func45,Tryz.ntmps45
 go_wp2_with fail
 refine(HS.out _).mono ?_
 rintro e w1 ⟨rfl,hb1⟩
 have hb0:=on_past (bself _ _) hb1
 obtain⟨hc,hz,hl⟩:=bcell hb1
 obtain⟨q0,q1,q2⟩:=after3 hb1
 have zw10:w.heap.size<w1.heap.size:=by have:=hb1.size;simp at this;omega
 clear hc
 have hc2':=(Below.cell (p:=⟨b,off+2,none⟩) hb0 hbl).trans hc2
 have hc3':=(Below.cell (p:=⟨b,off+(3+n),none⟩) hb0 hbl).trans hc3
 have hc4':=(Below.cell (p:=⟨b,off+(4+n),none⟩) hb0 hbl).trans hc4
 have hc0':=(Below.cell (p:=⟨b,off,none⟩) hb0 hbl).trans hc0
 have hc1':=(Below.cell (p:=⟨b,off+1,none⟩) hb0 hbl).trans hc1
 have HC0:=Lib.hid hc0'
 have HC1:=Lib.hid hc1'
 clear hc0 hc1 hc0' hc1' hc2 hc3 hc4
 go_wp2_with fail
 have zb:b<w1.heap.size:=Nat.lt_of_lt_of_le hbl hb0.size
 have HT2:=Lib.hid (fun d os=>HT.out (grow (redrawn w1 d) os) (on_past hb0 (below_regrown w1 d os)))
 clear HT
 refine wp_region_past (by kernel_rfl) (by kernel_rfl) (fun hG=>?_)
 repeat (go_big_quiet_step ((go_at_call 53;exact Calls.regrown_of (HT2.out _ _))))
 refine wpQuiet_nil ?_
 intro w3 hb3
 clear hG
 have r0:=(Below.cell (p:=⟨w.heap.size,0,none⟩) hb3 zw10).trans q0
 have r1:=(Below.cell (p:=⟨w.heap.size,1,none⟩) hb3 zw10).trans q1
 have r2:=(Below.cell (p:=⟨w.heap.size,2,none⟩) hb3 zw10).trans q2
 have rz:∀ o,w3.frozen? ⟨w.heap.size,o,none⟩=false:=fun o=>((bcell hb3).2.1 _ _ zw10).trans ((hz _ _ (by simp)).trans (by simp))
 have zw30:w.heap.size<w3.heap.size:=Nat.lt_of_lt_of_le zw10 hb3.size
 have hb4:=on_past hb0 hb3
 clear q0 q1 q2 hz hl
 go_wp2_with fail
 have k0:=(Below.cell (p:=⟨b,off,none⟩) hb3 zb).trans HC0.out
 have k1:=(Below.cell (p:=⟨b,off+1,none⟩) hb3 zb).trans HC1.out
 have zb3:b<w3.heap.size:=Nat.lt_of_lt_of_le zb hb3.size
 clear hc2' hc3' hc4' d3
 have hltd:∀ x∈(l.drop 3).take n,x<256:=fun x hx=>HA.out.lt x (List.mem_of_mem_drop (List.mem_of_mem_take hx))
 have hvl:=Fr.val_lt ((l.drop 3).take n) hltd
 rw [show ((l.drop 3).take n).length=n by rw [List.length_take,List.length_drop];omega] at hvl
 have HVL:=Lib.hid hvl;clear hvl hltd
 have hlen5:=Lib.hid h3
 have hl5:l.length=5+n:=h3
 clear hh
 go_loopg [5,6] n (fun r s5 s6 wr=>∃ (i u:Nat),Hid (i+r=n)∧i≤n∧s6=.int .i64 (3+(i:Int))∧s5=.int .i64 u∧Hid (u=Fr.val ((l.drop 3).take i))∧wr=w3)
 case atStart=>exact⟨0,0,by simp [Hid],by omega,rfl,rfl,by simp [Hid,Fr.val],rfl⟩
 case round =>
  obtain⟨i,u,hi,hin,rfl,rfl,HU,rfl⟩:=hrel
  by_cases hlt':i<n
  ·have hx2:=(Below.cell (p:=⟨b,off+(3+i),none⟩) hb4 hbl).trans (HCell.out (3+i) (by omega))
   have lx:=getD_lt256 HA.out.lt (3+i)
   have hsn:(l.drop 3).take (i+1)=(l.drop 3).take i++[l.getD (3+i) 0]:=by
    rw [take_snoc (by rw [List.length_drop];omega)]
    congr 2
    simp [List.getD,List.getElem?_drop]
   have HSN:=Lib.hid hsn;clear hsn
   have hub:u<16777216:=by
    have h1:=Fr.val_lt ((l.drop 3).take i) (fun x hx=>HA.out.lt x (List.mem_of_mem_drop (List.mem_of_mem_take hx)))
    rw [← show u=_ from HU.out] at h1
    have h2:((l.drop 3).take i).length≤3:=by rw [List.length_take];omega
    have h3:256 ^ ((l.drop 3).take i).length≤256 ^ 3:=Nat.pow_le_pow_right (by omega) h2
    omega
   have hub':(u:Int)<16777216:=by omega
   clear hub
   generalize l.getD (3+i) 0=x' at hx2 lx HSN
   go_wp2_with fail
   go_roundg (gk-1)
   case measure=>have:=hi.out;omega
   case rel =>
    refine⟨i+1,u*256+x',show i+1+(gk-1)=n by have:=hi.out;omega,by omega,by go_num,by go_num,?_,rfl⟩
    show u*256+x'=_
    rw [HSN.out,Fr.val_snoc,← show u=_ from HU.out]
  ·obtain rfl:i=n:=by omega
   have hub:u<256 ^ i:=by rw [show u=_ from HU.out];exact HVL.out
   have hub':(u:Int)<4294967296:=by rcases hn with rfl|rfl<;>omega
   clear hub hS5 hSl hss
   have HM:=Lib.hid hm
   clear hm hcm
   by_cases h4:i=4
   ·have g1:((i:Int)==4)=true:=by simp;omega
    by_cases hg:(2147483648:Int)≤(u:Int)
    ·have hsg:Fr.sgn i (Fr.val ((l.drop 3).take i))=(u:Int)-4294967296:=by
      rw [← show u=_ from HU.out]
      unfold Fr.sgn
      rw [if_pos ⟨h4,by omega⟩]
     have HSG:=Lib.hid hsg
     clear hsg h4
     go_wp2_with fail
     refine wp_region_past_tail 10 (by kernel_rfl) (by kernel_rfl) (fun hG=>?_)
     simp only [List.take_succ_cons,List.take_zero,List.drop_succ_cons,List.drop_zero]
     repeat (go_big_quiet_step (fail))
     refine wpQuiet_nil ?_
     intro w4 hb5
     clear hG
     have s0:=(Below.cell (p:=⟨w.heap.size,0,none⟩) hb5 zw30).trans r0
     have s1:=(Below.cell (p:=⟨w.heap.size,1,none⟩) hb5 zw30).trans r1
     have s2:=(Below.cell (p:=⟨w.heap.size,2,none⟩) hb5 zw30).trans r2
     have sz':∀ o,w4.frozen? ⟨w.heap.size,o,none⟩=false:=fun o=>((bcell hb5).2.1 _ _ zw30).trans (rz o)
     have hb6:=on_past hb4 hb5
     clear r0 r1 r2 rz
     go_wp2_with fail
     obtain⟨wz,ez,hbz,c0,c1,c2⟩:=store3 hb6 (Nat.le_refl _) s0 s1 s2 (.int .i64 k) (.int .i64 q) (.int .i64 ((u:Int)-4294967296))
     rw [← ez]
     clear ez
     exact bodyPost_ret (v:=gv ⟨k,q,(u:Int)-4294967296,0⟩) (by simp [results,Tryz.results45,go_sem,gv,c0,c1,c2]) rfl ⟨by rw [HSG.out],hbz⟩
    ·have hsg:Fr.sgn i (Fr.val ((l.drop 3).take i))=(u:Int):=by
      rw [← show u=_ from HU.out]
      unfold Fr.sgn
      rw [if_neg (by omega)]
     have HSG:=Lib.hid hsg
     clear hsg h4
     go_wp2_with fail
     refine wp_region_past_tail 10 (by kernel_rfl) (by kernel_rfl) (fun hG=>?_)
     simp only [List.take_succ_cons,List.take_zero,List.drop_succ_cons,List.drop_zero]
     repeat (go_big_quiet_step (fail))
     refine wpQuiet_nil ?_
     intro w4 hb5
     clear hG
     have s0:=(Below.cell (p:=⟨w.heap.size,0,none⟩) hb5 zw30).trans r0
     have s1:=(Below.cell (p:=⟨w.heap.size,1,none⟩) hb5 zw30).trans r1
     have s2:=(Below.cell (p:=⟨w.heap.size,2,none⟩) hb5 zw30).trans r2
     have sz':∀ o,w4.frozen? ⟨w.heap.size,o,none⟩=false:=fun o=>((bcell hb5).2.1 _ _ zw30).trans (rz o)
     have hb6:=on_past hb4 hb5
     clear r0 r1 r2 rz
     go_wp2_with fail
     obtain⟨wz,ez,hbz,c0,c1,c2⟩:=store3 hb6 (Nat.le_refl _) s0 s1 s2 (.int .i64 k) (.int .i64 q) (.int .i64 ((u:Int)))
     rw [← ez]
     clear ez
     exact bodyPost_ret (v:=gv ⟨k,q,(u:Int),0⟩) (by simp [results,Tryz.results45,go_sem,gv,c0,c1,c2]) rfl ⟨by rw [HSG.out],hbz⟩
   ·have hsg:Fr.sgn i (Fr.val ((l.drop 3).take i))=(u:Int):=by
     rw [← show u=_ from HU.out]
     unfold Fr.sgn
     rw [if_neg (by omega)]
    have g1:((i:Int)==4)=false:=by simp;omega
    have HSG:=Lib.hid hsg
    clear hsg h4
    go_wp2_with fail
    refine wp_region_past_tail 10 (by kernel_rfl) (by kernel_rfl) (fun hG=>?_)
    simp only [List.take_succ_cons,List.take_zero,List.drop_succ_cons,List.drop_zero]
    repeat (go_big_quiet_step (fail))
    refine wpQuiet_nil ?_
    intro w4 hb5
    clear hG
    have s0:=(Below.cell (p:=⟨w.heap.size,0,none⟩) hb5 zw30).trans r0
    have s1:=(Below.cell (p:=⟨w.heap.size,1,none⟩) hb5 zw30).trans r1
    have s2:=(Below.cell (p:=⟨w.heap.size,2,none⟩) hb5 zw30).trans r2
    have sz':∀ o,w4.frozen? ⟨w.heap.size,o,none⟩=false:=fun o=>((bcell hb5).2.1 _ _ zw30).trans (rz o)
    have hb6:=on_past hb4 hb5
    clear r0 r1 r2 rz
    go_wp2_with fail
    obtain⟨wz,ez,hbz,c0,c1,c2⟩:=store3 hb6 (Nat.le_refl _) s0 s1 s2 (.int .i64 k) (.int .i64 q) (.int .i64 ((u:Int)))
    rw [← ez]
    clear ez
    exact bodyPost_ret (v:=gv ⟨k,q,(u:Int),0⟩) (by simp [results,Tryz.results45,go_sem,gv,c0,c1,c2]) rfl ⟨by rw [HSG.out],hbz⟩
theorem rget_any(a:Option Addr)(l:List Nat)(c:Nat)(w:World)(ha:RdB w a l)(hcl:l.length≤c)(hcm:c≤maxLen)(hm:l.length≤1000000) :
  Calls Tryz.prog 45 #[.slice a l.length c] w fun e w'=>e=.returned (gv (Fr.get l))∧Below w.heap.size w w':=by
 by_cases h:l.length<5
 ·exact rget_short a l c w ha h
 by_cases hk:Fr.sz (l.getD 0 0)=0
 ·exact rget_kind a l c w ha (by omega) hm hk
 by_cases hf:l.getD 2 0≠Fr.sz (l.getD 0 0)∨l.length≠5+Fr.sz (l.getD 0 0)
 ·exact rget_form a l c w ha (by omega) hm hk hf
 have hn:Fr.sz (l.getD 0 0)=2∨Fr.sz (l.getD 0 0)=4:=by
  rcases Fr.sz_cases ((l.getD 0 0:Nat):Int) with h2|h2|h2
  ·exact absurd h2.1 hk
  ·exact .inl h2.1
  ·exact .inr h2.1
 by_cases hs:Crc.sum l=0
 ·exact rget_ok a l c w ha hcl hcm hm _ hn rfl (by omega) (by omega) hs
 ·exact rget_sum a l c w ha hcl hcm hm _ hn rfl (by omega) (by omega) hs
end
namespace Y
open Go Go.RowKit Go.Sort
theorem bytes_R{S:Nat→Prop}{w:World}{ids:List Loc}{l:List Nat}{V:Value}(hl:∀ x∈l,x<256)(h:R S w ids (bytesV l) V):∃ a c,V=.slice a l.length c∧RdB w a l∧l.length≤c∧c≤maxLen:=by
 obtain⟨A,c,e,h1,h2,h3⟩:=(R_pu (a:=bytesV l) rfl).1 h
 refine⟨A,c,e,⟨hl,fun h0=>?_⟩,h1,h2⟩
 obtain⟨b,o,g1,g2,g3,g4⟩:=h3 h0
 refine⟨b,o,g1,g3,fun i hi=>?_⟩
 obtain⟨cs,⟨v,r,q1,q2,q3⟩,q4,q5⟩:=g4 i hi
 have hv:v=.int .u8 ((l.getD i 0:Nat):Int):=q2
 have:=q5.cell 0 v (by rw [q1];rfl)
 rw [hv] at this
 simpa using this
theorem Ret.bytes{P:Program}{f:Nat}{l:List Nat}{r:AV}(hl:∀ x∈l,x<256)(hr:Y.flat r=true)(h:∀ a c w,RdB w a l→l.length≤c→c≤maxLen→Calls P f #[.slice a l.length c] w fun e w'=>e=.returned (val r)∧Below w.heap.size w w'):Ret P f [bytesV l] (·=r):=by
 intro S w bs Vs hG hlt hV
 have hb:bs=[]:=List.length_eq_zero_iff.1 (by rw [hG.len];rfl)
 subst hb
 match Vs,hV with
 |[V],⟨h1,_⟩ =>
  obtain⟨a,c,rfl,q1,q2,q3⟩:=bytes_R hl h1
  exact(h a c w q1 q2 q3).mono fun e w' ⟨h1,h2⟩=>⟨r,val r,[],[],S,h1,rfl,(flat_iff hr).2 rfl,Gs.nil _ _,Ids.nil _,rfl,(fun i o L b hi=>by simp [nth] at hi),fun _ h=>h,fun _ h _=>h,fun b hb=>Nat.lt_of_lt_of_le (hlt b hb) h2.size,⟨h2.os,h2.tape,h2.output,h2.size,fun b hb _=>h2.block b hb⟩⟩
theorem crcSum(l:List Nat)(hl:∀ x∈l,x<256)(hn:l.length≤1000000):Ret Tryz.prog 75 [bytesV l] (·=.int .u16 (Crc.sum l).toNat) :=
 Ret.bytes hl rfl fun a c w h _ _=>(sum_any a l c w h (by omega)).mono fun e w' ⟨h1,h2⟩=>⟨h1,h2 ▸ Below.refl _ _⟩
theorem r6Sum(l:List Nat)(hl:∀ x∈l,x<256)(hn:l.length≤1000000):Ret Tryz.prog 53 [bytesV l] (·=I (Crc.sum l).toNat) :=
 Ret.bytes hl rfl fun a c w h _ _=>(rsum_any a l c w h hn).mono fun e w' ⟨h1,n,h2⟩=>⟨h1,h2 ▸ bdN (Below.refl _ _) n⟩
abbrev gvA(g:Fr.G):AV:=.tup [.agg [I g.kind,I g.seq,I g.value],I g.err]
theorem frGet(l:List Nat)(hl:∀ x∈l,x<256)(hn:l.length≤1000000):Ret Tryz.prog 123 [bytesV l] (·=gvA (Fr.get l)) :=
 Ret.bytes hl rfl fun a c w h h1 h2=>get_any a l c w h h1 h2 hn
theorem r7Get(l:List Nat)(hl:∀ x∈l,x<256)(hn:l.length≤1000000):Ret Tryz.prog 45 [bytesV l] (·=gvA (Fr.get l)) :=
 Ret.bytes hl rfl fun a c w h h1 h2=>rget_any a l c w h h1 h2 hn
end Y
section
open Go.ChangeShapes Go.WideShapes Go.RowKit
def str(l:List Nat):ByteArray:=strOfNums (l.map fun n:Nat=>(n:Int))
theorem conv_b{w:World}{a:Option Addr}{l:List Nat}{c:Nat}(h:RdB w a l) :
  (convert 85 9 (.slice a l.length c)).run Tryz.prog w=.ok (.string (str l)) w:=by
 by_cases h0:0<l.length
 ·obtain⟨b,off,rfl,_,hc⟩:=h.at_ h0
  refine run_convert_bytes_arg (P:=Tryz.prog) (w:=w) 85 5 Tryz.underlying85 Tryz.underlying5 b off l.length c (l.map fun n:Nat=>(n:Int)) (by simp) ?_ 9 Tryz.underlying9
  intro i hi
  rw [hc i (by simpa using hi)]
  have hi':i<l.length:=by simpa using hi
  simp [List.getD,List.getElem?_eq_getElem hi']
 ·have:l=[]:=List.eq_nil_of_length_eq_zero (by omega)
  subst this
  cases a with
  |none=>exact run_convert_bytes_nil (P:=Tryz.prog) (w:=w) 85 5 Tryz.underlying85 Tryz.underlying5 _ _ 9 Tryz.underlying9
  |some ad =>
   rw [run_convert_bytes_string w 85 9 5 (some ad) _ c Tryz.underlying85 Tryz.underlying5 Tryz.underlying9]
   show (Conv.bytesToString (.slice (some ad) 0 c)).run Tryz.prog w=_
   rw [run_bytesToString w ad 0 c [] (run_loadCells_list (P:=Tryz.prog) w ad [] (by simp))]
   rfl
end
namespace Y
open Go Go.RowKit Go.Sort
def encT(t:W.Trk):List Nat:=encN 2 t.segs.length++(t.segs.flatMap encS++(encN 2 t.grps.length++t.grps.flatMap encG))
def headT:List Nat:=[79,68,79,49]
def packT(t:W.Trk):List Nat:=(headT++encT t)++[(Crc.sum (headT++encT t)).toNat/256,(Crc.sum (headT++encT t)).toNat%256]
structure ImgOk(t:W.Trk):Prop where
 sg:∀ s∈t.segs,SgB s
 gp:∀ g∈t.grps,GrB g
 sn:t.segs.length≤200
 gn:t.grps.length≤400
theorem encPiece_b(p:W.Piece):∀ x∈encPiece p,x<256:=fun x hx=>by
 unfold encPiece at hx
 rcases List.mem_append.1 hx with h|h<;>exact encN_b _ _ x h
theorem encS_b(s:W.Seg):∀ x∈encS s,x<256:=fun x hx=>by
 unfold encS at hx
 simp only [List.mem_append,List.mem_flatMap] at hx
 rcases hx with h|h|⟨p,_,h⟩|h|⟨p,_,h⟩
 ·exact encN_b _ _ x h
 ·exact encN_b _ _ x h
 ·exact encPiece_b _ x h
 ·exact encN_b _ _ x h
 ·exact encN_b _ _ x h
theorem encG_b(g:W.Grp):∀ x∈encG g,x<256:=fun x hx=>by
 unfold encG at hx
 simp only [List.mem_append] at hx
 rcases hx with h|h|h|h|h<;>exact encN_b _ _ x h
theorem encT_b(t:W.Trk):∀ x∈encT t,x<256:=fun x hx=>by
 unfold encT at hx
 simp only [List.mem_append,List.mem_flatMap] at hx
 rcases hx with h|⟨p,_,h⟩|h|⟨p,_,h⟩
 ·exact encN_b _ _ x h
 ·exact encS_b _ x h
 ·exact encN_b _ _ x h
 ·exact encG_b _ x h
theorem headE_b(t:W.Trk):∀ x∈headT++encT t,x<256:=fun x hx=>by
 rcases List.mem_append.1 hx with h|h
 ·simp [headT] at h;omega
 ·exact encT_b t x h
theorem packT_b(t:W.Trk):∀ x∈packT t,x<256:=fun x hx=>by
 unfold packT at hx
 have:=(Crc.sum (headT++encT t)).isLt
 rcases List.mem_append.1 hx with h|h
 ·exact headE_b t x h
 ·simp at h;omega
theorem packT_sum(t:W.Trk):Crc.sum (packT t)=0:=by
 have:=(Crc.sum (headT++encT t)).isLt
 exact(Crc.sum_zero _ _ _ (by omega) (by omega)).2 (by omega)
theorem flatMap_le{α:Type}{f:α→List Nat}{n:Nat}:∀ {l:List α},(∀ x∈l,(f x).length≤n)→(l.flatMap f).length≤l.length*n
 |[],_=>by simp
 |x::l,h=>by
  rw [List.flatMap_cons,List.length_append,List.length_cons,Nat.succ_mul]
  have:=h x List.mem_cons_self
  have:=flatMap_le (l:=l) fun y hy=>h y (List.mem_cons_of_mem _ hy)
  omega
theorem encS_len{s:W.Seg}(h:SgB s):(encS s).length≤1000:=by
 unfold encS
 simp only [List.length_append,encN_len]
 have h1:=flatMap_le (f:=encPiece) (n:=12) (l:=s.pieces) fun x _=>by unfold encPiece;simp [encN_len]
 have h2:=flatMap_le (f:=fun x:Int=>encN 1 x.toNat) (n:=1) (l:=s.next) fun x _=>by simp [encN_len]
 have:=h.pn
 have:=h.nn
 omega
theorem packT_len{t:W.Trk}(h:ImgOk t):(packT t).length≤300000:=by
 unfold packT encT headT
 simp only [List.length_append,encN_len,List.length_cons,List.length_nil]
 have h1:=flatMap_le (f:=encS) (n:=1000) (l:=t.segs) fun x hx=>encS_len (h.sg x hx)
 have h2:=flatMap_le (f:=encG) (n:=19) (l:=t.grps) fun x _=>by unfold encG;simp [encN_len]
 have:=h.sn
 have:=h.gn
 omega
section
variable{N:Nat}{E:En}{o:Oper}{f:Nat}{xs:List AV}{a b:List Nat}{r:AV}{K:Tm→Ow→Prop}{tm:Tm}{own:Ow}
theorem CallN.rdI(i:Nat){dst:Option Nat}(h:RetO Tryz.prog f [.blk [bytesV a,.bool false]] (.own 0 0::xs) (fun v gs'=>v=r∧gs'=[.blk [bytesV b,.bool false]]))(hp:puL xs=true)(hb:nth own i=some (.blk [bytesV a,.bool false]))
  (hK:put N tm dst r fun tm=>K tm (own.set i (.blk [bytesV b,.bool false]))):CallN Tryz.prog N E f (.own i 0::xs) dst K tm own:=by
 refine CallN.upd [i] [] (RvJL.cons (RvJ.ownP rfl) (RvJL.pu hp)) (Als.nil _) (by simp) (Giv.one hb (by simp) (RcJ.pu rfl)) h (fun v gs' hp' _=>?_)
 obtain⟨rfl,rfl⟩:=hp'
 exact hK
theorem CallN.rdIF(i:Nat){dst:Option Nat}{g:Nat}{m:Int}(h:RetO Tryz.prog f [.blk [bytesV a,.bool false]] [I m,.fn g [.own 0 0] []] (fun v gs'=>v=r∧gs'=[.blk [bytesV b,.bool false]]))(hb:nth own i=some (.blk [bytesV a,.bool false]))
  (hK:put N tm dst r fun tm=>K tm (own.set i (.blk [bytesV b,.bool false]))):CallN Tryz.prog N E f [I m,.fn g [.own i 0] []] dst K tm own:=by
 refine CallN.upd [i] [] (RvJL.cons (RvJ.pu rfl) (RvJL.cons (RvJ.fn (R0J.ownP rfl R0J.nil) R0J.nil) RvJL.nil)) (Als.nil _) (by simp) (Giv.one hb (by simp) (RcJ.pu rfl)) h (fun v gs' hp' _=>?_)
 obtain⟨rfl,rfl⟩:=hp'
 exact hK
end
theorem QAt.convStr{o:Oper}{tm:Tm}{own:Ow}{K:AV→Prop}{x:Operand}(l:List Nat)(hl:∀ x∈l,x<256)(ho:o.op=.convert 85 9 x)(hx:ev tm x fun v=>∃ n f,v=.lst 1 n f∧n=l.length∧∀ i,i<n→f i=[.int .u8 ((l.getD i 0:Nat):Int)])(hK:K (.raw (.string (str l)))):QAt Tryz.prog o tm own K:=by
 refine⟨.raw (.string (str l)),hK,fun N E S ids a n hs=>⟨.string (str l),R_flat rfl,fun w hp=>?_⟩⟩
 obtain⟨u,⟨m,f,rfl,rfl,hf⟩,h1⟩:=ev_sound hx
 obtain⟨A,c,e,h2,h3,h4⟩:=(h1 S n ids a hs.sl).lst
 have hrd:RdB n A l:=⟨hl,fun h0=>by
  obtain⟨b,o,g1,g2,g3,g4⟩:=h4 h0
  refine⟨b,o,g1,g3,fun i hi=>?_⟩
  obtain⟨cs,q1,q4,q5⟩:=g4 i hi
  rw [hf i hi] at q1
  obtain⟨v,r,q1,q2,q3⟩:=q1
  have hv:v=.int .u8 ((l.getD i 0:Nat):Int):=q2
  have:=q5.cell 0 v (by rw [q1];rfl)
  rw [hv] at this
  simpa using this⟩
 have:=conv_b (c:=c) (hrd.below hp)
 unfold execOp
 simp only [ho,e,Sem.run_bind,this]
 rfl
theorem str_neq(s:ByteArray)(x y:Operand)(w:World):((do eqGuard .neq 9 x y (.string s) (.string s);Go.binOp .neq 9 (.string s) (.string s)):Sem Value).run Tryz.prog w=.ok (.bool false) w:=by
 have hg:(eqGuard .neq 9 x y (.string s) (.string s)).run Tryz.prog w=.ok () w:=rfl
 rw [Sem.run_bind,hg]
 simp [Go.binOp,Op.stringOp,Sem.run_pure,Result.andThen]
theorem open_(t:W.Trk)(h:ImgOk t)(hI:TrkI t)(hc:t.check.1=0):Ret Tryz.prog 46 [bytesV (packT t)] (·=.tup [trkV t,I 0]):=by
 have hlen:=packT_len h
 have hlen6:(packT t).length=(encT t).length+6:=by unfold packT headT;simp
 have hsn:=h.sn
 have hgn:=h.gn
 have hhead:∀ i,i<4→(packT t).getD i 0=headT.getD i 0:=fun i hi=>by
  unfold packT
  have:(headT++encT t++[(Crc.sum (headT++encT t)).toNat/256,(Crc.sum (headT++encT t)).toNat%256])[i]?=headT[i]?:=by
   rw [List.append_assoc,List.getElem?_append_left (by show i<4;exact hi)]
  simp only [List.getD,this]
 have hbody:∀ i,i<(encT t).length→(packT t).getD (4+i) 0=(encT t).getD i 0:=fun i hi=>by
  unfold packT
  have:(headT++encT t++[(Crc.sum (headT++encT t)).toNat/256,(Crc.sum (headT++encT t)).toNat%256])[4+i]?=(encT t)[i]?:=by
   rw [List.append_assoc,List.getElem?_append_right (by show 4≤4+i;omega)]
   have e:4+i-headT.length=i:=by show 4+i-4=i;omega
   rw [e,List.getElem?_append_left hi]
  simp only [List.getD,this]
 have hcs:Ret Tryz.prog 75 [bytesV (packT t)] (·=.int .u16 0):=by
  have:=crcSum _ (packT_b t) (by omega)
  rw [packT_sum] at this
  exact this
 have q2:=fun rest=>countV 2 t.segs.length rest (by decide) (by omega) (by omega) 2 200 rfl (by omega)
 have q3:=fun rest=>countV 2 t.grps.length rest (by decide) (by omega) (by omega) 2 400 rfl (by omega)
 have hS:=manySeg t.segs (fun k=>(t.segs.drop k).flatMap encS++(encN 2 t.grps.length++t.grps.flatMap encG)) (fun k hk=>by
  rw [drop_get hk default,List.flatMap_cons,List.append_assoc]
  exact segmentV _ _ (h.sg _ (by simp [List.getD,hk]))) (by omega)
 have hG:=manyGrp t.grps (fun k=>(t.grps.drop k).flatMap encG) (fun k hk=>by
  rw [drop_get hk default,List.flatMap_cons]
  exact groupV _ _ (h.gp _ (by simp [List.getD,hk]))) (by omega)
 simp only [List.drop_length,List.flatMap_nil,List.nil_append,List.drop_zero] at hS hG
 have hck:=trkCheck t hI
 rw [hc] at hck
 obtain⟨c2,hc2⟩:∃ c2,c2=t.check.2:=⟨_,rfl⟩
 rw [← hc2] at hck
 have hne:∀ w,((do eqGuard .neq 9 (.tmp 20) (.const (.string ⟨#[79,68,79,49]⟩)) (val (.raw (.string (str headT)))) (val (.raw (.string ⟨#[79,68,79,49]⟩)));Go.binOp .neq 9 (val (.raw (.string (str headT)))) (val (.raw (.string ⟨#[79,68,79,49]⟩)))):Sem Value).run Tryz.prog w=.ok (val (.bool false)) w:=fun w=>by
  have hs:str headT=⟨#[79,68,79,49]⟩:=by kernel_rfl
  rw [hs]
  exact str_neq _ _ _ w
 refine enterO tabOk (N:=70) (gs:=[]) (args:=[_]) Tryz.func46 rfl rfl rfl (nLe rfl) (fun E hE=>?_)
 conv=>whnf
 repeat' ((first|refine QAt.convStr headT (by decide) rfl ⟨_,_,rfl,rfl,fun i hi=>congrArg (fun z:Nat=>[AV.int .u8 (z:Int)]) (hhead i hi)⟩ ?_|refine QAt.bin (vx:=.raw (.string (str headT))) (vy:=.raw (.string ⟨#[79,68,79,49]⟩)) (r:=.bool false) rfl rfl rfl rfl rfl rfl hne ?_|refine Br.pf (by omega) ?_|refine Br.nf (by omega) ?_|refine Br.of rfl ?_|refine CallS.q (hcs) rfl ?_|refine Ob.mk (by unfold W.I64 at *;omega) ?_|refine Ob.mk (by simp only [Option.getD_some,Option.getD_none];omega) ?_|refine Ix.nat _ ?_|refine Ix.tn (by omega) ?_);conv=>whnf)
 refine CallS.call (CallN.upd [1] [] (RvJL.cons (RvJ.ownP rfl) (RvJL.pu rfl)) (Als.nil _) (by simp) (Giv.one rfl (by simp) (RcJ.cons (Rv.lst (g:=fun i=>[.int .u8 (((encN 2 t.segs.length++(t.segs.flatMap encS++(encN 2 t.grps.length++t.grps.flatMap encG))).getD i 0:Nat):Int)]) (m':=(encN 2 t.segs.length++(t.segs.flatMap encS++(encN 2 t.grps.length++t.grps.flatMap encG))).length) ?_ (fun i hi=>PLe.of (congrArg (fun z:Nat=>[AV.int .u8 (z:Int)]) (hbody i ?_)))) (RcJ.pu rfl))) (q2 _) (fun v gs' hp' _=>?_))
 ·show ((packT t).length-2:Int).toNat-4=(encT t).length
  omega
 ·have hi':i<((packT t).length-2:Int).toNat-4:=hi
  show i<(encT t).length
  omega
 obtain⟨rfl,rfl⟩:=hp'
 conv=>whnf
 repeat' ((first|refine CallS.call (CallN.rdI 1 (q3 _) rfl rfl ?_)|refine CallS.call (CallN.rdIF 1 hS rfl ?_)|refine CallS.call (CallN.rdIF 1 hG rfl ?_)|refine Br.nf (by assumption) ?_|refine Br.nf (by omega) ?_|refine CallS.q (hck) rfl ?_|refine FinAt.val rfl ?_);conv=>whnf)
 rfl
theorem laidOut:laidOutB Tryz.prog=true:=by kernel_rfl
theorem rtLaw:WideMaps.KeyLaw Tryz.prog 229:=deep_law_gate laidOut (nLe (by kernel_rfl)) (Nat.lt_of_lt_of_le (Nat.lt_succ_self _) (nLe (by kernel_rfl))) (by kernel_rfl) (by kernel_rfl)
def rtVal(r:W.Rt):Value:=.agg ⟨valL (rtC r)⟩
structure RtB(r:W.Rt):Prop where
 n:W.I64 r.n
 s:∀ i,W.I64 (r.seg.getD i 0)
theorem wf64{x:Int}(h:W.I64 x):(Lit.int .i64 x).wf=true:=by
 unfold W.I64 at h
 simp [Lit.wf,IntKind.min,IntKind.max,IntKind.bits,IntKind.signed]
 omega
theorem key_int(d:Nat){x:Int}(h:W.I64 x):Tryz.prog.keyLits (d+1) 3 [.int .i64 x]=some [.int .i64 x]:=by
 have e:Tryz.prog.underlying 3=some (.int .i64):=by kernel_rfl
 simp [Program.keyLits,e,wf64 h]
theorem key_arr(d:Nat){x0 x1 x2 x3 x4 x5 x6 x7 x8 x9 x10 x11:Int}(h:W.I64 x0∧W.I64 x1∧W.I64 x2∧W.I64 x3∧W.I64 x4∧W.I64 x5∧W.I64 x6∧W.I64 x7∧W.I64 x8∧W.I64 x9∧W.I64 x10∧W.I64 x11) :
  ∃ l,Tryz.prog.keyLits (d+2) 227 [.int .i64 x0,.int .i64 x1,.int .i64 x2,.int .i64 x3,.int .i64 x4,.int .i64 x5,.int .i64 x6,.int .i64 x7,.int .i64 x8,.int .i64 x9,.int .i64 x10,.int .i64 x11]=some l:=by
 obtain⟨h0,h1,h2,h3,h4,h5,h6,h7,h8,h9,h10,h11⟩:=h
 have e:Tryz.prog.underlying 227=some (.array 12 3):=by kernel_rfl
 have e2:Tryz.prog.cellsOf 227=12:=by kernel_rfl
 have e3:Tryz.prog.cellsOf 3=1:=by kernel_rfl
 have er:List.range 12=[0,1,2,3,4,5,6,7,8,9,10,11]:=rfl
 have k:=fun x (h:W.I64 x)=>key_int d h
 rw [show d+2=(d+1)+1 from rfl,Program.keyLits.eq_def]
 simp only [e,e2,e3,er,List.length_cons,List.length_nil,if_true,List.mapM_cons,List.mapM_nil,Nat.mul_one,List.drop_zero,List.drop_succ_cons,List.take_succ_cons,List.take_zero]
 rw [k _ h0,k _ h1,k _ h2,k _ h3,k _ h4,k _ h5,k _ h6,k _ h7,k _ h8,k _ h9,k _ h10,k _ h11]
 exact⟨_,rfl⟩
theorem rtKey{r:W.Rt}(h:RtB r):∃ l,keyOf Tryz.prog 229 (rtVal r)=some l:=by
 have e : ∃ fs, Tryz.prog.underlying 229 = some (.struct fs) ∧ fs.toList.map (fun f => (f.type, f.offset)) = [(3, 0), (227, 1)] ∧ fs.all (fun f => f.name != "_") = true := by
  refine⟨Tryz.prog.fieldsOf 229,by kernel_rfl,by kernel_rfl,by kernel_rfl⟩
 obtain⟨fs,e1,e2,e3⟩:=e
 have e4:Tryz.prog.keyType 229=true:=by kernel_rfl
 have e5:Tryz.prog.cellsOf 229=13:=by kernel_rfl
 have e6:Tryz.prog.cellsOf 3=1:=by kernel_rfl
 have e7:Tryz.prog.cellsOf 227=12:=by kernel_rfl
 obtain⟨d,hd⟩:∃ d,Tryz.prog.types.size+1=d+4:=by
  have:3≤Tryz.prog.types.size:=nLe (by kernel_rfl)
  exact⟨Tryz.prog.types.size-3,by omega⟩
 have hf:(rtVal r).formed Tryz.prog 229=true:=by
  simp [rtVal,Value.formed,e1,e5,valL]
 obtain⟨l,hl⟩:=key_arr (d+1) (x0:=r.seg.getD 0 0) (x1:=r.seg.getD 1 0) (x2:=r.seg.getD 2 0) (x3:=r.seg.getD 3 0) (x4:=r.seg.getD 4 0) (x5:=r.seg.getD 5 0) (x6:=r.seg.getD 6 0) (x7:=r.seg.getD 7 0) (x8:=r.seg.getD 8 0) (x9:=r.seg.getD 9 0) (x10:=r.seg.getD 10 0) (x11:=r.seg.getD 11 0) ⟨h.s 0,h.s 1,h.s 2,h.s 3,h.s 4,h.s 5,h.s 6,h.s 7,h.s 8,h.s 9,h.s 10,h.s 11⟩
 have hk:∃ L,Tryz.prog.keyLits (d+4) 229 (rtVal r).cells.toList=some L:=by
  obtain⟨f0,f1,hfs⟩:∃ f0 f1,fs.toList=[f0,f1]:=by
   have hl2:=congrArg List.length e2
   rw [List.length_map] at hl2
   match fs.toList,hl2 with
   |[f0,f1],_=>exact⟨f0,f1,rfl⟩
  ·rw [hfs] at e2
   simp only [List.map_cons,List.map_nil,List.cons.injEq,Prod.mk.injEq,and_true] at e2
   obtain⟨⟨a1,a2⟩,a3,a4⟩:=e2
   rw [show d+4=(d+3)+1 from rfl,Program.keyLits.eq_def]
   simp only [e1,rtVal,Value.cells,valL,val,e5]
   rw [if_pos ⟨by rfl,e3⟩,hfs]
   have k1:=key_int (d+2) h.n
   simp only [List.mapM_cons,List.mapM_nil,a1,a2,a3,a4,e6,e7,List.drop_zero,List.take_succ_cons,List.take_zero,List.drop_succ_cons,List.take_nil]
   rw [k1,hl]
   exact⟨_,rfl⟩
 obtain⟨L,hL⟩:=hk
 unfold keyOf
 simp only [e1,e4,hf,hd,hL,Bool.and_self,if_true,Option.map_some]
 exact⟨_,rfl⟩
section
variable{N:Nat}{E:En}{tm:Tm}{own:Ow}{S S':Nat→Prop}{ids:List Loc}{a:Act}{n n':World}
theorem Sim.newO(h:Sim N E tm own S ids a n)(ob:Obj)(P:Nat→Obj→Prop)(hP:P n.heap.size ob) :
  Sim N E tm (own++[.obj P]) S (ids++[Loc.at_ n.heap.size]) a (n.alloc ob):=by
 have hp:Past n (n.alloc ob):=bself n _
 have hnew:=heap_alloc_new n ob
 have hlt:n.heap.size<(n.alloc ob).heap.size:=(Array.getElem?_eq_some_iff.1 hnew).1
 refine(h.past hp).push ⟨n.heap.size,ob,rfl,hnew,hP⟩ (fun b hb=>?_) (fun j o' L' b h1 h2 h3 h4 e=>?_)
 ·obtain rfl:n.heap.size=b:=by simpa [Loc.at_] using hb
  exact⟨fun hS=>by have:=h.slt _ hS;omega,hlt,h.fr.size⟩
 ·obtain rfl:n.heap.size=b:=by simpa [Loc.at_] using e
  have:=h.lt h1 h2 h3 h4
  omega
theorem Sim.updO(h:Sim N E tm own S ids a n){i b:Nat}{P P':Nat→Obj→Prop}{o':Obj}(hi:nth own i=some (.obj P))(hb:nth ids i=some (Loc.at_ b))(hos:n'.os=n.os)(htp:n'.tape=n.tape)(hout:n'.output=n.output)(hsz:n.heap.size≤n'.heap.size)
  (hbl:∀ k,k<n.heap.size→k≠b→n'.heap[k]?=n.heap[k]?) (hS1:∀ b,S b→S' b) (hS2:∀ b,S' b→b<n.heap.size→S b) (hS3:∀ b,S' b→b<n'.heap.size) (ho:n'.heap[b]?=some o') (hP:P' b o') :
  Sim N E tm (own.set i (.obj P')) S' ids a n':=by
 have hil:=nth_lt hi
 obtain⟨q1,q2,q3⟩:=h.noS i _ _ b hi rfl hb rfl
 have hk:Kp S S' n n':=⟨hsz,hS1,fun k hk hS=>hbl k hk (fun e=>q1 (e ▸ hS))⟩
 have key:∀ {j:Nat} {x:OB},nth (own.set i (.obj P')) j=some x→(j≠i∧nth own j=some x)∨(j=i∧x=.obj P'):=fun {j x} hx=>by
  by_cases e:i=j
  ·subst e;rw [nth_set_self hil] at hx;exact .inr ⟨rfl,(Option.some.inj hx).symm⟩
  ·rw [nth_set_ne e] at hx;exact .inl ⟨fun e'=>e e'.symm,hx⟩
 have al:∀ {j:Nat} {x:OB},nth (own.set i (.obj P')) j=some x→alive x=true→∃ y,nth own j=some y∧alive y=true:=fun {j x} hx ax=>by
  rcases key hx with ⟨_,hx⟩|⟨rfl,rfl⟩
  ·exact⟨x,hx,ax⟩
  ·exact⟨_,hi,rfl⟩
 exact {
  size:=h.size
  defers:=h.defers
  sl:=fun t v hv=>by obtain⟨V,g1,g2⟩:=h.sl t v hv;exact⟨V,g1,g2.kp hk⟩
  len:=by simp [h.len]
  live:=fun j x L hx' hL=>by
   rcases key hx' with ⟨hne,hx'⟩|⟨rfl,rfl⟩
   ·cases ho':alive x with
    |false=>cases x<;>first|trivial|cases ho'
    |true =>
     refine(h.live j x L hx' hL).kp hk fun c hc=>?_
     have hlt:=h.lt hx' ho' hL hc
     exact⟨hbl c hlt (fun e=>hne (h.dist j i x _ L _ b hx' hi ho' rfl hL hb (e ▸ hc) rfl)),hlt⟩
   ·rw [hb] at hL;obtain rfl:=Option.some.inj hL;exact⟨b,o',rfl,ho,hP⟩
  dist:=fun j k x y L1 L2 c hx hy ax ay=>by
   obtain⟨x',hx',ax'⟩:=al hx ax
   obtain⟨y',hy',ay'⟩:=al hy ay
   exact h.dist j k x' y' L1 L2 c hx' hy' ax' ay'
  noS:=fun j x L c hx ax hL e=>by
   obtain⟨x',hx',ax'⟩:=al hx ax
   obtain⟨g1,g2,g3⟩:=h.noS j x' L c hx' ax' hL e
   exact⟨fun hS=>g1 (hS2 c hS g2),Nat.lt_of_lt_of_le g2 hsz,g3⟩
  pre:=h.pre
  slt:=hS3
  sold:=fun c hc hlt=>h.sold c (hS2 c hc (Nat.lt_of_lt_of_le hlt h.fr.size)) hlt
  snew:=fun c hc=>hS1 c (h.snew c hc)
  fr:=⟨hos.trans h.fr.os,htp.trans h.fr.tape,hout.trans h.fr.output,Nat.le_trans h.fr.size hsz,fun k hk hG =>
   (hbl k (Nat.lt_of_lt_of_le hk h.fr.size) (fun e=>by subst e;exact q3.elim (fun h1=>by omega) (fun h=>hG ⟨i,h⟩))).trans (h.fr.block k hk hG)⟩ }
end
def KeysAre(l:List W.Rt)(es:Array MapEntry)(clock:Nat):Prop:=MapKept.Stamped es clock∧es.toList.map (·.key)=l.map rtVal
def MapI(l:List W.Rt):Nat→Obj→Prop:=fun _ o=>∃ es clock,o=.map es clock∧KeysAre l es clock
theorem setBlock_get(w:World){b:Nat}(o:Obj)(h:b<w.heap.size):(ChangeMaps.setBlock w b o).heap[b]?=some o:=by
 simp [ChangeMaps.setBlock,h]
theorem setBlock_ne(w:World){b k:Nat}(o:Obj)(h:k≠b):(ChangeMaps.setBlock w b o).heap[k]?=w.heap[k]?:=by
 simp only [ChangeMaps.setBlock];rw [Array.getElem?_setIfInBounds_ne (fun e=>h e.symm)]
theorem setBlock_size(w:World)(b:Nat)(o:Obj):(ChangeMaps.setBlock w b o).heap.size=w.heap.size:=by simp [ChangeMaps.setBlock]
section
variable{P:Program}{N:Nat}{E:En}{o:Oper}{tm:Tm}{own:Ow}{K:Tm→Ow→Prop}
theorem Sim.obj{P:Nat→Obj→Prop}{S:Nat→Prop}{ids:List Loc}{a:Act}{n:World}(h:Sim N E tm own S ids a n){j:Nat}(hb:nth own j=some (.obj P)):∃ b ob,nth ids j=some (Loc.at_ b)∧n.heap[b]?=some ob∧P b ob:=by
 obtain⟨L,hL⟩:=nth_of_lt (l:=ids) (i:=j) (by rw [h.len];exact nth_lt hb)
 obtain⟨b,ob,e,h1,h2⟩:=h.live j _ L hb hL
 subst e
 exact⟨b,ob,hL,h1,h2⟩
theorem OpAt.mkMap{t:TypeId}(ho:o.op=.makeMap t none)(hK:put N tm o.dst (.mref own.length) fun tm=>K tm (own++[.obj (MapI [])])):OpAt P N E o K tm own:=by
 refine⟨fun S ids a n hs Q=>?_⟩
 have h1:=hs.newO (.map #[] 0) (MapI []) ⟨#[],0,rfl,⟨by simp [MapKept.Stamped],by simp⟩⟩
 obtain⟨tm',k1,k2⟩:=put_sound hK
 have hv:R S (n.alloc (.map #[] 0)) (ids++[Loc.at_ n.heap.size]) (.mref own.length) (.map (some n.heap.size)):=⟨n.heap.size,by rw [← hs.len,nth_append_new],rfl⟩
 have:=k2 E _ S _ a (n.alloc (.map #[] 0)) _ h1 hv
 have hr:(execOp a.eval o).run P n=.ok (.value (.map (some n.heap.size))) (n.alloc (.map #[] 0)):=by
  unfold execOp
  simp only [ho]
  rfl
 unfold Oper.wp
 rw [hr]
 exact⟨tm',_,S,_,k1,this⟩
theorem OpAt.mapUp{t e:TypeId}{x y z:Operand}{j:Nat}{l:List W.Rt}{r:W.Rt}{kk:IntKind}{q:Int}(ho:o.op=.mapUpdate t x y z)(ht:Tryz.prog.underlying t=some (.map 229 e))(hd:o.dst=none)(hx:ev tm x fun v=>v=.mref j)(hy:ev tm y fun v=>v=.agg (rtC r))(hz:ev tm z fun v=>v=.int kk q)(hb:nth own j=some (.obj (MapI l)))(hl:∀ x∈l,RtB x)(hr:RtB r)
  (hK:∀ l',(rtVal r∈l.map rtVal∧l'=l)∨(¬ rtVal r∈l.map rtVal∧l'=l++[r])→K tm (own.set j (.obj (MapI l')))):OpAt Tryz.prog N E o K tm own:=by
 refine⟨fun S ids a n hs Q=>?_⟩
 obtain⟨_,rfl,h1⟩:=ev_sound hx
 obtain⟨_,rfl,h2⟩:=ev_sound hy
 obtain⟨_,rfl,h3⟩:=ev_sound hz
 obtain⟨b,ob,g1,g2,es,clock,rfl,hst,hkeys⟩:=hs.obj hb
 obtain⟨b',g3,e1⟩:∃ b,nth ids j=some (Loc.at_ b)∧a.eval x=.map (some b):=h1 S n ids a hs.sl
 obtain rfl:=Loc.at_inj (Option.some.inj (g1.symm.trans g3))
 have e2:a.eval y=rtVal r:=(flat_iff (a:=.agg (rtC r)) rfl).1 ((R_pu rfl).1 (h2 S n ids a hs.sl))
 have e3:=(h3 S n ids a hs.sl).int
 obtain⟨kl,hkey⟩:=rtKey hr
 have hblt:b<n.heap.size:=(Array.getElem?_eq_some_iff.1 g2).1
 have hall:∀ x∈es.toList,∃ l,keyOf Tryz.prog 229 x.key=some l:=fun x hx=>by
  have:x.key∈es.toList.map (·.key):=List.mem_map.2 ⟨x,hx,rfl⟩
  rw [hkeys] at this
  obtain⟨r',hr',e⟩:=List.mem_map.1 this
  rw [← e]
  exact rtKey (hl r' hr')
 have done:∀ es' clock' l',KeysAre l' es' clock'→((rtVal r∈l.map rtVal∧l'=l)∨(¬ rtVal r∈l.map rtVal∧l'=l++[r]))→(Instr.mapUpdate t (.map (some b)) (rtVal r) (.int kk q)).run Tryz.prog n=.ok () (ChangeMaps.setBlock n b (.map es' clock'))→o.wp Tryz.prog a n (After N E K) Q:=fun es' clock' l' hkk hll hrun=>by
  have hrr:(execOp a.eval o).run Tryz.prog n=.ok .skip (ChangeMaps.setBlock n b (.map es' clock')):=by
   unfold execOp
   simp only [ho,e1,e2,e3,Sem.run_bind,hrun]
   rfl
  unfold Oper.wp
  rw [hrr]
  refine⟨tm,_,S,ids,hK l' hll,?_⟩
  rw [hd]
  exact hs.updO (S':=S) (n':=ChangeMaps.setBlock n b (.map es' clock')) hb g1 rfl rfl rfl (by rw [setBlock_size];exact Nat.le_refl _) (fun k _ hk=>setBlock_ne n _ hk) (fun _ h=>h) (fun _ h _=>h) (fun c hc=>by rw [setBlock_size];exact hs.slt c hc) (P':=MapI l') (setBlock_get n _ hblt) ⟨es',clock',rfl,hkk⟩
 rcases rtLaw.find n hkey es.toList hall with ⟨h4,h5⟩|⟨p,e0,h4,h5,h6⟩
 ·refine done (es.push ⟨rtVal r,.int kk q,clock⟩) (clock+1) (l++[r]) ⟨MapKept.stamped_push hst h5,by simp [hkeys]⟩ (.inr ⟨fun hm=>?_,rfl⟩) ?_
  ·rw [← hkeys] at hm
   obtain⟨x,hx,e⟩:=List.mem_map.1 hm
   exact h5 x hx e
  ·simp [Instr.mapUpdate,run_underlying ht,MapKept.run_getObj_map g2,rtLaw.check n false hkey,h4,MapKept.run_setObj_map _ g2,Result.andThen,ChangeMaps.setBlock]
 ·have hj:es[p]?=some e0:=by simpa using h5
  have hmem:rtVal r∈l.map rtVal:=by
   rw [← hkeys,← h6]
   exact List.mem_map.2 ⟨e0,List.mem_of_getElem? h5,rfl⟩
  have hkeyf:∀ e',es[p]?=some e'→({ e' with key:=rtVal r,val:=.int kk q }:MapEntry).key=e'.key:=fun e' he'=>by rw [hj] at he';cases he';exact h6.symm
  refine done (es.modify p (fun e'=>{ e' with key:=rtVal r,val:=.int kk q })) clock l ⟨MapKept.stamped_modify hst _ _ (fun _ _=>rfl) (fun e' _ he'=>hkeyf e' he'),?_⟩ (.inl ⟨hmem,rfl⟩) ?_
  ·rw [← hkeys,Array.toList_modify]
   apply List.ext_getElem?
   intro k
   rw [List.getElem?_map,List.getElem?_map,List.getElem?_modify]
   by_cases hk:p=k
   ·subst hk
    simp [h5,h6]
   ·simp [hk]
  ·simp [Instr.mapUpdate,run_underlying ht,MapKept.run_getObj_map g2,rtLaw.check n false hkey,h4,hj,h6,rtLaw.stays n hkey,MapKept.run_setObj_map _ g2,Result.andThen,ChangeMaps.setBlock]
theorem QAt.lenMap{t k e:TypeId}{x:Operand}{j:Nat}{l:List W.Rt}{P:Program}{K:AV→Prop}(ho:o.op=.call { callee:=.builtin .len,args:=#[x],argTypes:=#[t] })(ht:P.underlying t=some (.map k e))(hx:ev tm x fun v=>v=.mref j)(hb:nth own j=some (.obj (MapI l)))(hK:K (.int .i64 (l.length:Int))):QAt P o tm own K:=by
 refine⟨_,hK,fun N E S ids a n hs=>⟨.int .i64 (l.length:Int),rfl,fun w hp=>?_⟩⟩
 obtain⟨_,rfl,h1⟩:=ev_sound hx
 obtain⟨b,ob,g1,g2,es,clock,rfl,hst,hkeys⟩:=hs.obj hb
 obtain⟨b',g3,e1⟩:∃ b,nth ids j=some (Loc.at_ b)∧a.eval x=.map (some b):=h1 S n ids a hs.sl
 obtain rfl:=Loc.at_inj (Option.some.inj (g1.symm.trans g3))
 have hblt:b<n.heap.size:=(Array.getElem?_eq_some_iff.1 g2).1
 have hsz:es.size=l.length:=by
  have:=congrArg List.length hkeys
  simpa using this
 have g4:w.heap[b]?=some (.map es clock):=by rw [hp.block b hblt];exact g2
 unfold execOp
 simp only [ho,resolve,invoke,builtin,Sem.run_bind,Sem.run_pure,Result.andThen_ok,List.map_toArray,List.map_cons,List.map_nil,e1]
 simp [Builtin.len_,run_underlying ht,MapKept.run_getObj_map g4,goInt,hsz]
def MapE(bm:Nat)(es:Array MapEntry)(clock:Nat):Nat→Obj→Prop:=fun b o=>b=bm∧o=.map es clock
def ItE(bm:Nat)(es:Array MapEntry)(is:List Nat)(clock:Nat):Nat→Obj→Prop:=fun _ o=>o=.mapIter (some bm) clock ⟨is.map fun i=>(es.getD i default).born⟩ clock
theorem OpAt.range{t k e:TypeId}{x:Operand}{j:Nat}{l:List W.Rt}{P:Program}(ho:o.op=.range t x)(ht:P.underlying t=some (.map k e))(hx:ev tm x fun v=>v=.mref j)(hb:nth own j=some (.obj (MapI l)))
  (hK:∀ bm es clock,KeysAre l es clock→put N tm o.dst (.own own.length 0) fun tm=>K tm (own.set j (.obj (MapE bm es clock))++[.obj (ItE bm es [] clock)])):OpAt P N E o K tm own:=by
 refine⟨fun S ids a n hs Q=>?_⟩
 obtain⟨_,rfl,h1⟩:=ev_sound hx
 obtain⟨b,ob,g1,g2,es,clock,rfl,hst,hkeys⟩:=hs.obj hb
 obtain⟨b',g3,e1⟩:∃ b,nth ids j=some (Loc.at_ b)∧a.eval x=.map (some b):=h1 S n ids a hs.sl
 obtain rfl:=Loc.at_inj (Option.some.inj (g1.symm.trans g3))
 have hs1:=hs.updO (S':=S) (n':=n) hb g1 rfl rfl rfl (Nat.le_refl _) (fun k _ _=>rfl) (fun _ h=>h) (fun _ h _=>h) hs.slt (P':=MapE b es clock) g2 ⟨rfl,rfl⟩
 have hs2:=hs1.newO (.mapIter (some b) clock #[] clock) (ItE b es [] clock) rfl
 obtain⟨tm',k1,k2⟩:=put_sound (hK b es clock ⟨hst,hkeys⟩)
 have hv:R S (n.alloc (.mapIter (some b) clock #[] clock)) (ids++[Loc.at_ n.heap.size]) (.own own.length 0) (.pointer (some ⟨n.heap.size,0,none⟩)):=⟨n.heap.size,by rw [← hs.len,nth_append_new],rfl⟩
 have:=k2 E _ S _ a _ _ hs2 hv
 unfold Oper.wp execOp
 simp only [ho,e1,Sem.run_bind,run_range_map n t k e b es clock ht g2,Result.andThen_ok,Sem.run_pure]
 exact⟨tm',_,S,_,k1,this⟩
theorem run_next_at{P:Program}(w:World)(ty:TypeId)(bi bm since c0:Nat)(seen:Array Nat)(es:Array MapEntry)(clock:Nat)(hi:w.heap[bi]?=some (.mapIter (some bm) since seen c0))(hb:w.heap[bm]?=some (.map es clock))(hold:∀ x∈es.toList,x.born<since)(hsc:since≤c0) :
  ((leftOf es seen).size=0∧(Instr.next (.pointer (some ⟨bi,0,none⟩)) false ty).run P w=.ok (.tuple #[.bool false]) w) ∨
  ∃ e∈(leftOf es seen).toList,∃ w1:World,(w1=w∨w1=w.drew)∧(Instr.next (.pointer (some ⟨bi,0,none⟩)) false ty).run P w=.ok (.tuple #[.bool true,e.key,e.val]) (ChangeMaps.setBlock w1 bi (.mapIter (some bm) since (seen.push e.born) clock)):=by
 have hilt:bi<w.heap.size:=(Array.getElem?_eq_some_iff.1 hi).1
 simp only [Instr.next,getObj,Sem.run_bind,Sem.run,hi,hb,Result.andThen,next_test_false seen es since c0 hold hsc,Bool.false_eq_true,if_false]
 unfold leftOf
 have hmem:∀ x∈(Array.filter (fun e=>!seen.contains e.born) es).toList,x.born<since:=fun x hx=>hold x (by simp at hx ⊢;exact hx.1)
 generalize Array.filter (fun e=>!seen.contains e.born) es=L at hmem ⊢
 have e1:L.filter (fun x=>decide (x.born<since))=L:=Array.filter_eq_self.2 (fun x hx=>by simpa using hmem x (by simpa using hx))
 have e2:L.filter (fun x=>decide (x.born ≥ since))=#[]:=by
  rw [Array.filter_eq_empty_iff]
  intro x hx
  have:=hmem x (by simpa using hx)
  simp
  omega
 simp only [e1,e2,Array.append_empty]
 by_cases h0:L.size=0
 ·left
  have:L=#[]:=Array.eq_empty_of_size_eq_zero h0
  subst this
  refine⟨rfl,?_⟩
  simp [choose,Sem.run,Question.forced]
 ·right
  have hne:L.isEmpty=false:=by simp [Array.isEmpty,h0]
  simp only [hne,Bool.false_eq_true,if_false,Array.empty_append,Array.size_map]
  have hch:∃ (j:Nat) (w1:World),j<L.size∧(w1=w∨w1=w.drew)∧(choose (Question.mapNext L.size)).run P w=.ok j w1:=by
   by_cases hf:L.size≤1
   ·exact⟨0,w,by omega,.inl rfl,by simp [choose,Sem.run,Question.forced,hf]⟩
   ·exact⟨_,w.drew,Nat.mod_lt _ (by omega),.inr rfl,by
     simp only [choose,Sem.run,Question.forced,decide_eq_true_eq,hf,if_false,Question.cut]
     rfl⟩
  obtain⟨j,w1,hj,hal,hrun⟩:=hch
  refine⟨L[j],by simp,w1,hal,?_⟩
  have hw1:w1.heap=w.heap:=by rcases hal with rfl|rfl<;>rfl
  have hset:∀ (o':Obj),(setObj bi o').run P w1=.ok () (ChangeMaps.setBlock w1 bi o'):=fun o'=>by
   simp only [setObj,Sem.run,hw1,hi,ChangeMaps.setBlock]
  simp only [hrun,Array.getElem?_map,Array.getElem?_eq_getElem hj,Option.map_some,Sem.run_bind,hset,Result.andThen]
  rfl
theorem left_at{es:Array MapEntry}{is:List Nat}(hn:(es.toList.map (·.born)).Nodup)(hi:∀ i∈is,i<es.size){e:MapEntry}(he:e∈(leftOf es ⟨is.map fun i=>(es.getD i default).born⟩).toList):∃ i,i<es.size∧¬ i∈is∧es.getD i default=e:=by
 unfold leftOf at he
 rw [Array.toList_filter,List.mem_filter] at he
 obtain⟨h1,h2⟩:=he
 obtain⟨i,hlt,e1⟩:=List.getElem_of_mem h1
 have hlt':i<es.size:=by simpa using hlt
 have e2:es.getD i default=e:=by simpa [Array.getD,hlt'] using e1
 refine⟨i,hlt',fun hm=>?_,e2⟩
 have:e.born∈is.map fun i=>(es.getD i default).born:=List.mem_map.2 ⟨i,hm,by rw [e2]⟩
 simp at h2
 obtain⟨j,hj1,hj2⟩:=List.mem_map.1 this
 exact h2 j hj1 (by simpa [Array.getD_eq_getD_getElem?] using hj2)
theorem left_none{es:Array MapEntry}{is:List Nat}(hn:(es.toList.map (·.born)).Nodup)(hi:∀ i∈is,i<es.size)(h:(leftOf es ⟨is.map fun i=>(es.getD i default).born⟩).size=0):∀ i,i<es.size→i∈is:=fun i hlt=>by
 have he:leftOf es ⟨is.map fun i=>(es.getD i default).born⟩=#[]:=Array.eq_empty_of_size_eq_zero h
 unfold leftOf at he
 rw [Array.filter_eq_empty_iff] at he
 have h1:=he es[i] (Array.getElem_mem hlt)
 simp at h1
 obtain⟨j,hj1,hj2⟩:=h1
 have hjl:=hi j hj1
 have:es.toList.map (·.born)=es.toList.map (·.born):=rfl
 have hij:i=j:=by
  have e3:(es.toList.map (·.born))[i]?=(es.toList.map (·.born))[j]?:=by
   rw [List.getElem?_map,List.getElem?_map]
   simp [hlt,hjl]
   simpa [Array.getD,hjl] using hj2.symm
  exact(List.getElem?_inj (by simpa using hlt) hn).1 e3
 rw [hij];exact hj1
theorem OpAt.next{x:Operand}{bl:Bool}{j k bm clock:Nat}{es:Array MapEntry}{is:List Nat}{P:Program}(ho:o.op=.next x bl)(hbl:bl=false)(hx:ev tm x fun v=>v=.own k 0)(hj:nth own j=some (.obj (MapE bm es clock)))(hk:nth own k=some (.obj (ItE bm es is clock)))(hst:MapKept.Stamped es clock)(his:∀ i∈is,i<es.size)
  (h1:(∀ i,i<es.size→i∈is)→put N tm o.dst (.tup [.bool false]) fun tm=>K tm own)
  (h2:∀ i,i<es.size→¬ i∈is→put N tm o.dst (.tup [.bool true,.raw (es.getD i default).key,.raw (es.getD i default).val]) fun tm=>K tm (own.set k (.obj (ItE bm es (is++[i]) clock)))):OpAt P N E o K tm own:=by
 subst hbl
 refine⟨fun S ids a n hs Q=>?_⟩
 obtain⟨_,rfl,g0⟩:=ev_sound hx
 obtain⟨b,ob,g1,g2,rfl,rfl⟩:=hs.obj hj
 obtain⟨bi,ob2,q1,q2,rfl⟩:=hs.obj hk
 obtain⟨b',g3,e1⟩:∃ b,nth ids k=some (Loc.at_ b)∧a.eval x=.pointer (some ⟨b,0,none⟩):=g0 S n ids a hs.sl
 obtain rfl:=Loc.at_inj (Option.some.inj (q1.symm.trans g3))
 have hbi:bi<n.heap.size:=(Array.getElem?_eq_some_iff.1 q2).1
 unfold Oper.wp execOp
 rcases run_next_at (P:=P) n o.type bi b clock clock _ es clock q2 g2 hst.1 (Nat.le_refl _) with ⟨r1,r2⟩|⟨e,r1,w1,r2,r3⟩
 ·simp only [ho,e1,Sem.run_bind,r2,Result.andThen_ok,Sem.run_pure]
  obtain⟨tm',k1,k2⟩:=put_sound (h1 (left_none hst.2.1 his r1))
  exact⟨tm',_,S,_,k1,k2 E _ S ids a n _ hs ⟨_,rfl,_,_,rfl,rfl,rfl⟩⟩
 ·simp only [ho,e1,Sem.run_bind,r3,Result.andThen_ok,Sem.run_pure]
  obtain⟨i,i1,i2,i3⟩:=left_at hst.2.1 his r1
  obtain⟨tm',k1,k2⟩:=put_sound (h2 i i1 i2)
  have hp:Past n w1:=by
   rcases r2 with rfl|rfl
   ·exact Below.refl _ _
   ·exact Past.draw n
  have hw1:w1.heap=n.heap:=by rcases r2 with rfl|rfl<;>rfl
  have hs1:=(hs.past hp).updO (S':=S) (n':=ChangeMaps.setBlock w1 bi (.mapIter (some b) clock (Array.push ⟨is.map fun i=>(es.getD i default).born⟩ e.born) clock)) hk q1 rfl rfl rfl (by rw [setBlock_size];exact Nat.le_refl _) (fun k _ hk=>setBlock_ne w1 _ hk) (fun _ h=>h) (fun _ h _=>h) (fun c hc=>by rw [setBlock_size,hw1];exact hs.slt c hc) (P':=ItE b es (is++[i]) clock) (setBlock_get w1 _ (by rw [hw1];exact hbi)) (by rw [← i3];simp [ItE])
  exact⟨tm',_,S,_,k1,k2 E _ S ids a _ _ hs1 (by rw [i3];exact⟨_,rfl,_,_,rfl,rfl,_,_,rfl,rfl,_,_,rfl,rfl,rfl⟩)⟩
theorem OpAt.entry{x:Operand}{j k bm clock i:Nat}{es:Array MapEntry}{is:List Nat}{r:W.Rt}{P:Program}(ho:o.op=.entry x)(hx:ev tm x fun v=>v=.own k 0)(hj:nth own j=some (.obj (MapE bm es clock)))(hk:nth own k=some (.obj (ItE bm es (is++[i]) clock)))(hst:MapKept.Stamped es clock)(hi:i<es.size)(hr:(es.getD i default).key=rtVal r)
  (h:put N tm o.dst (.tup [.agg (rtC r),.raw (es.getD i default).val]) fun tm=>K tm own):OpAt P N E o K tm own:=by
 refine⟨fun S ids a n hs Q=>?_⟩
 obtain⟨_,rfl,g0⟩:=ev_sound hx
 obtain⟨b,ob,g1,g2,rfl,rfl⟩:=hs.obj hj
 obtain⟨bi,ob2,q1,q2,rfl⟩:=hs.obj hk
 obtain⟨b',g3,e1⟩:∃ b,nth ids k=some (Loc.at_ b)∧a.eval x=.pointer (some ⟨b,0,none⟩):=g0 S n ids a hs.sl
 obtain rfl:=Loc.at_inj (Option.some.inj (q1.symm.trans g3))
 have hmem:es.getD i default∈es.toList:=by simp [Array.getD,hi]
 have hf:es.find? (·.born==(es.getD i default).born)=some (es.getD i default):=by rw [← Array.find?_toList];exact find_born _ es.toList hst.2.1 hmem
 have hback:(⟨(is++[i]).map fun i=>(es.getD i default).born⟩:Array Nat).back?=some (es.getD i default).born:=by simp
 have hrun:(Instr.entry (.pointer (some ⟨bi,0,none⟩))).run P n=.ok (.tuple #[(es.getD i default).key,(es.getD i default).val]) n:=by
  simp only [Instr.entry,getObj,Sem.run_bind,Sem.run,q2,g2,Result.andThen,hback,bne_self_eq_false,Bool.false_eq_true,if_false,hf]
  rfl
 obtain⟨tm',k1,k2⟩:=put_sound h
 unfold Oper.wp execOp
 simp only [ho,e1,Sem.run_bind,hrun,Result.andThen_ok,Sem.run_pure]
 refine⟨tm',_,S,_,k1,k2 E _ S ids a n _ hs ?_⟩
 rw [hr]
 exact(R_pu rfl).2 ⟨_,rfl,_,_,rfl,(flat_iff (a:=.agg (rtC r)) rfl).2 rfl,_,_,rfl,rfl,rfl⟩
end
theorem rtC_get{r:W.Rt}{k:Nat}(hk:k<12):nth (rtC r) (1+k)=some (I (r.seg.getD k 0)):=by
 rcases(show k=0∨k=1∨k=2∨k=3∨k=4∨k=5∨k=6∨k=7∨k=8∨k=9∨k=10∨k=11 by omega) with rfl|rfl|rfl|rfl|rfl|rfl|rfl|rfl|rfl|rfl|rfl|rfl<;>rfl
theorem LdAt.rt{r:W.Rt}{i off:Nat}{own:Ow}{K:AV→Prop}(hb:nth own i=some (.blk (rtC r)))(k:Nat)(ho:off=1+k*1)(hk:k<12)(hK:K (I (r.seg.getD k 0))):LdAt i off .sc own K:=by
 refine⟨_,hb,_,?_,rfl,hK⟩
 rw [ho,Nat.mul_one,rtC_get hk]
theorem rtC_set{r:W.Rt}(hl:r.seg.length=12){k:Nat}(hk:k<12)(x:Int):(rtC r).take (1+k)++([I x]++((rtC r).drop (1+k)).drop 1)=rtC ⟨r.n,r.seg.set k x⟩:=by
 obtain⟨n,s⟩:=r
 match s,hl with
 |[a0,a1,a2,a3,a4,a5,a6,a7,a8,a9,a10,a11],_ =>
  rcases(show k=0∨k=1∨k=2∨k=3∨k=4∨k=5∨k=6∨k=7∨k=8∨k=9∨k=10∨k=11 by omega) with rfl|rfl|rfl|rfl|rfl|rfl|rfl|rfl|rfl|rfl|rfl|rfl<;>rfl
theorem StAt.rt{r:W.Rt}{i off:Nat}{own:Ow}{vs:List AV}{K:Ow→Prop}(hb:nth own i=some (.blk (rtC r)))(hl:r.seg.length=12)(k:Nat)(ho:off=1+k*1)(hk:k<12)(x:Int)(hx:vs=[I x])(hK:K (own.set i (.blk (rtC ⟨r.n,r.seg.set k x⟩)))):StAt i off vs own K:=by
 subst hx
 refine⟨_,hb,?_,?_⟩
 ·rw [ho];show 1+k*1+1≤13;omega
 ·rw [ho,Nat.mul_one]
  show K (own.set i (.blk ((rtC r).take (1+k)++([I x]++((rtC r).drop (1+k)).drop 1))))
  rw [rtC_set hl hk]
  exact hK
structure NOk(t:W.Trk):Prop where
 n:t.segs.length≤1000
 w:∀ i,i<t.segs.length→(t.segs.getD i default).next.length≤1000
 x:∀ i,i<t.segs.length→∀ k,k<(t.segs.getD i default).next.length→0≤(t.segs.getD i default).next.getD k 0∧(t.segs.getD i default).next.getD k 0<t.segs.length
structure RGood(t:W.Trk)(r:W.Rt):Prop extends ROk t r where
 b:RtB r
theorem rtVal_inj{r r':W.Rt}(h1:r.seg.length=12)(h2:r'.seg.length=12)(h:rtVal r=rtVal r'):r=r':=by
 obtain⟨n,s⟩:=r
 obtain⟨n',s'⟩:=r'
 match s,h1,s',h2 with
 |[a0,a1,a2,a3,a4,a5,a6,a7,a8,a9,a10,a11],_,[b0,b1,b2,b3,b4,b5,b6,b7,b8,b9,b10,b11],_ =>
  simp [rtVal,valL,val] at h
  simp [h]
theorem last_ok{t:W.Trk}{r:W.Rt}(h:ROk t r):0≤r.seg.getD (r.n-1).toNat 0∧r.seg.getD (r.n-1).toNat 0<t.segs.length:=by
 have h1:=h.lo
 have h2:=h.hi
 have hl:=path_len h.len h1 h2
 have h3:=h.p (r.n-1).toNat (by omega)
 have e:r.path.getD (r.n-1).toNat 0=r.seg.getD (r.n-1).toNat 0:=by
  unfold W.Rt.path
  rw [List.getD_eq_getElem?_getD,List.getElem?_take,if_pos (by omega),List.getD_eq_getElem?_getD]
 rw [e] at h3
 exact h3
theorem next_ok{t:W.Trk}{r:W.Rt}(hn:NOk t)(h:RGood t r)(h12:r.n<12){x:Int}(hx:0≤x∧x<t.segs.length):RGood t ⟨r.n+1,r.seg.set r.n.toNat x⟩:=by
 have h1:=h.lo
 have hl:=path_len h.len h.lo h.hi
 refine⟨⟨by simp [h.len],by show 1≤r.n+1;omega,by show r.n+1≤12;omega,fun k hk=>?_⟩,⟨?_,fun i=>?_⟩⟩
 ·have hp:(⟨r.n+1,r.seg.set r.n.toNat x⟩:W.Rt).path=(r.seg.set r.n.toNat x).take (r.n.toNat+1):=by
   unfold W.Rt.path
   congr 1
   show (min (max (r.n+1) 0) 12).toNat=_
   omega
  rw [hp] at hk ⊢
  have hk2:k<r.n.toNat+1:=by simp at hk;omega
  rw [List.getD_eq_getElem?_getD,List.getElem?_take,if_pos hk2,List.getElem?_set]
  by_cases he:r.n.toNat=k
  ·rw [if_pos he,if_pos (by rw [h.len];omega)]
   exact hx
  ·rw [if_neg he]
   have h3:=h.p k (by omega)
   unfold W.Rt.path at h3
   rw [List.getD_eq_getElem?_getD,List.getElem?_take,if_pos (by omega)] at h3
   exact h3
 ·have:=h.hi
  show W.I64 (r.n+1)
  unfold W.I64;omega
 ·rw [List.getD_eq_getElem?_getD,List.getElem?_set]
  by_cases he:r.n.toNat=i
  ·rw [if_pos he]
   split
   ·have:=hn.n
    simp only [Option.getD_some]
    unfold W.I64;omega
   ·simp [W.I64]
  ·rw [if_neg he,← List.getD_eq_getElem?_getD]
   exact h.b.s i
theorem addRt_good{t:W.Trk}{r:W.Rt}{l:List W.Rt}(hr:RGood t r)(hl:∀ x∈l,RGood t x):∀ x∈W.addRt r l,RGood t x:=by
 intro x hx
 unfold W.addRt at hx
 split at hx
 ·exact hl x hx
 ·rcases List.mem_append.1 hx with h|h
  ·exact hl x h
  ·simp at h;subst h;exact hr
theorem growF_good{t:W.Trk}(p:W.Sp)(hn:NOk t):∀ (f:Nat) (r:W.Rt) (e:Int) (st:List W.Rt×Int),RGood t r→(∀ x∈st.1,RGood t x)→∀ x∈(W.growF t p f r e st).1,RGood t x
 |0,r,e,st,hr,h=>h
 |f+1,r,e,st,hr,h=>by
  unfold W.growF
  split
  ·exact h
  ·split
   ·dsimp only
    split
    ·exact addRt_good hr h
    ·exact h
   ·split
    ·exact h
    ·next h12 =>
     have hlt:r.n<12:=by have:=hr.hi;omega
     have hx:∀ x∈(t.seg r.last).next,0≤x∧x<t.segs.length:=fun x hx=>by
      have hlo:=last_ok hr.toROk
      obtain⟨k,hk,e⟩:=List.getElem_of_mem hx
      have:=hn.x r.last.toNat (by unfold W.Rt.last;omega) k hk
      rw [show (t.segs.getD r.last.toNat default).next.getD k 0=x by rw [← e,List.getD_eq_getElem?_getD];rw [show (t.segs.getD r.last.toNat default)=t.seg r.last from rfl,List.getElem?_eq_getElem hk];rfl] at this
      exact this
     generalize (t.seg r.last).next=nx at hx
     have key:∀ (nx:List Int) (st:List W.Rt×Int),(∀ x∈nx,0≤x∧x<t.segs.length)→(∀ x∈st.1,RGood t x)→∀ x∈(nx.foldl (fun st x=>W.growF t p f ⟨r.n+1,r.seg.set r.n.toNat x⟩ (e+t.len x) st) st).1,RGood t x:=fun nx=>by
      induction nx with
      |nil=>exact fun st hx h=>h
      |cons x nx ih =>
       intro st hx h
       rw [List.foldl_cons]
       exact ih _ (fun y hy=>hx y (List.mem_cons_of_mem _ hy)) (growF_good p hn f _ _ _ (next_ok hn hr hlt (hx x List.mem_cons_self)) h)
     exact key nx st hx h
abbrev growerC(t:W.Trk)(p:W.Sp)(e:Int):List AV:=[sgsV t.segs,gpsV t.grps,I p.lo,I p.hi,.mref 1,I e]
theorem growC(t:W.Trk)(p:W.Sp)(ht:TLen t)(hn:NOk t):∀ (f:Nat) (r:W.Rt) (e:Int) (l:List W.Rt) (err:Int),13≤(f:Int)+r.n→RGood t r→-1099511627776≤e→e≤r.n*1099511627776→(∀ x∈l,RGood t x) →
  RetO Tryz.prog 182 [.blk (growerC t p err),.obj (MapI l)] [.own 0 0,rtV r,I e] (fun v gs'=>v=.tup []∧gs'=[.blk (growerC t p (W.growF t p f r e (l,err)).2),.obj (MapI (W.growF t p f r e (l,err)).1)])
 |0,r,e,l,err,h,hr,_,_,_=>by have:=hr.hi;omega
 |f+1,r,e,l,err,hf,hr,he1,he2,hl=>by
  have hlo:=hr.lo
  have hhi:=hr.hi
  have hlast:=last_ok hr.toROk
  have hF:W.growF t p (f+1) r e (l,err)=if err≠0 then (l,err) else
   if p.hi≤e∨(t.segs.getD (r.seg.getD (r.n-1).toNat 0).toNat default).next=[] then
    (let seen:=if p.lo≤e then W.addRt r l else l;(seen,if 16<seen.length then 13 else 0))
   else if r.n=12 then (l,13)
   else (t.segs.getD (r.seg.getD (r.n-1).toNat 0).toNat default).next.foldl (fun st x=>W.growF t p f ⟨r.n+1,r.seg.set r.n.toNat x⟩ (e+t.len x) st) (l,err):=rfl
  rw [hF]
  clear hF
  obtain⟨sl,hsl⟩:∃ sl,sl=(r.seg.getD (r.n-1).toNat 0).toNat:=⟨_,rfl⟩
  have hslt:sl<t.segs.length:=by omega
  have hnx:=hn.x sl hslt
  have hnw:=hn.w sl hslt
  rw [← hsl]
  refine enterO tabOk (N:=103) (gs:=[_,_]) (args:=[_,_,_]) Tryz.func182 rfl rfl rfl (nLe rfl) (fun E hE=>?_)
  have hadd:∀ l',((rtVal r∈l.map rtVal∧l'=l)∨(¬ rtVal r∈l.map rtVal∧l'=l++[r]))→l'=W.addRt r l:=fun l' h=>by
   have hm:rtVal r∈l.map rtVal↔r∈l:=⟨fun h=>by
    obtain⟨r',h1,h2⟩:=List.mem_map.1 h
    rw [rtVal_inj hr.len (hl r' h1).len h2.symm];exact h1,fun h=>List.mem_map.2 ⟨r,h,rfl⟩⟩
   rw [hm] at h
   unfold W.addRt
   rcases h with ⟨h1,h2⟩|⟨h1,h2⟩
   ·rw [if_pos h1];exact h2
   ·rw [if_neg h1];exact h2
  by_cases hE0:err=0
  ·subst hE0
   rw [if_neg (by simp)]
   obtain⟨nx,hnxe⟩:∃ nx,nx=(t.segs.getD sl default).next:=⟨_,rfl⟩
   have hnl:(t.segs.getD (r.seg.getD (r.n-1).toNat 0).toNat default).next.length=nx.length:=by rw [hnxe,hsl]
   by_cases hd:p.hi≤e∨nx=[]
   ·rw [if_pos (by rw [← hnxe];exact hd)]
    dsimp only
    have hd2:p.hi≤e∨nx.length=0:=hd.imp id (fun h=>by rw [h];rfl)
    by_cases hlo2:p.lo≤e
    ·rw [if_pos hlo2]
     conv=>whnf
     repeat' (first|((first|refine LdAt.rt rfl _ rfl (by omega) ?_|refine Pc.sym ?_|refine OpAt.mapUp (e:=3) (r:=r) rfl (by kernel_rfl) rfl rfl rfl rfl rfl (fun x hx=>(hl x hx).b) hr.b (fun l' hl'=>?_)|refine QAt.lenMap rfl (k:=229) (e:=3) (by kernel_rfl) rfl rfl ?_|refine Br.pt (by assumption) ?_|refine Br.pf (by assumption) ?_|refine Br.pt (by omega) ?_|refine Br.nf (by omega) ?_|refine Br.ot rfl ?_|refine Ob.mk (by omega) ?_|refine Ob.mk (by unfold W.I64 at *;omega) ?_|refine Drw.loose (by kernel_rfl) ?_|refine Ix.tn (by omega) ?_);conv=>whnf)|((refine Br.d (fun h=>?_) (fun h=>?_))<;>conv=>whnf))
     all_goals first
      |(exfalso;omega)
      |(
        obtain rfl:=hadd _ hl'
        refine FinAt.asis (ars:=[]) [] RvL.nil (by simp) (by show 2≤_;simp) rfl ⟨rfl,?_⟩
        first|(rw [if_pos (by omega)];rfl)|(rw [if_neg (by omega)];rfl))
    ·rw [if_neg hlo2]
     conv=>whnf
     repeat' (first|((first|refine LdAt.rt rfl _ rfl (by omega) ?_|refine Pc.sym ?_|refine QAt.lenMap rfl (k:=229) (e:=3) (by kernel_rfl) rfl rfl ?_|refine Br.pt (by assumption) ?_|refine Br.pf (by assumption) ?_|refine Br.pt (by omega) ?_|refine Br.nf (by omega) ?_|refine Br.ot rfl ?_|refine Ob.mk (by omega) ?_|refine Ob.mk (by unfold W.I64 at *;omega) ?_|refine Drw.loose (by kernel_rfl) ?_|refine Ix.tn (by omega) ?_);conv=>whnf)|((refine Br.d (fun h=>?_) (fun h=>?_))<;>conv=>whnf))
     all_goals first
      |(exfalso;omega)
      |(
        refine FinAt.asis (ars:=[]) [] RvL.nil (by simp) (by show 2≤_;simp) rfl ⟨rfl,?_⟩
        first|(rw [if_pos (by omega)];rfl)|(rw [if_neg (by omega)];rfl))
   ·rw [if_neg (by rw [← hnxe];exact hd)]
    have hd2:¬ p.hi≤e∧¬ nx.length=0:=⟨fun h=>hd (.inl h),fun h=>hd (.inr (List.length_eq_zero_iff.1 h))⟩
    by_cases h12:r.n=12
    ·rw [if_pos h12]
     conv=>whnf
     repeat' ((first|refine LdAt.rt rfl _ rfl (by omega) ?_|refine Pc.sym ?_|refine Br.pt (by assumption) ?_|refine Br.pf (by omega) ?_|refine Br.nf (by omega) ?_|refine Ob.mk (by omega) ?_|refine Ob.mk (by unfold W.I64 at *;omega) ?_|refine Drw.loose (by kernel_rfl) ?_|refine Ix.tn (by omega) ?_);conv=>whnf)
     all_goals first
      |(exfalso;omega)
      |refine FinAt.asis (ars:=[]) [] RvL.nil (by simp) (by show 2≤_;simp) rfl ⟨rfl,rfl⟩
    ·rw [if_neg h12]
     rw [← hnxe]
     obtain⟨step,hstep⟩:∃ step:List W.Rt×Int→Int→List W.Rt×Int,step=fun st x=>W.growF t p f ⟨r.n+1,r.seg.set r.n.toNat x⟩ (e+t.len x) st:=⟨_,rfl⟩
     rw [← hstep]
     conv=>whnf
     repeat' ((first|refine LdAt.rt rfl _ rfl (by omega) ?_|refine Pc.sym ?_|refine Br.pf (by assumption) ?_|refine Br.pf (by omega) ?_|refine Br.nf (by omega) ?_|refine Ob.mk (by omega) ?_|refine Ob.mk (by unfold W.I64 at *;omega) ?_|refine Drw.loose (by kernel_rfl) ?_|refine Ix.tn (by omega) ?_);conv=>whnf)
     all_goals first
      |(exfalso;omega)
      |skip
     refine LoopAt.rule tabOk [(0,_),(2,_),(4,_),(76,_),(77,_)] (fun (i:Nat×(List W.Rt×Int)×W.Rt)=>[(78,.int .i64 (i.1:Int))]) (fun (i:Nat×(List W.Rt×Int)×W.Rt)=>[.blk (growerC t p i.2.1.2),.obj (MapI i.2.1.1),.blk (rtC i.2.2)]) (fun (i:Nat×(List W.Rt×Int)×W.Rt)=>i.1≤nx.length∧i.2.1=(nx.take i.1).foldl step (l,0)∧(i.2.2.n=r.n+1∧i.2.2.seg.length=12∧∀ x,i.2.2.seg.set r.n.toNat x=r.seg.set r.n.toNat x)∧∀ x∈i.2.1.1,RGood t x) (fun (i:Nat×(List W.Rt×Int)×W.Rt)=>nx.length-i.1) (0,(l,0),⟨r.n+1,r.seg⟩) (by trivial) ⟨by simp,rfl,⟨rfl,hr.len,fun _=>rfl⟩,hl⟩ (by trivial) (by trivial) (fun _=>⟨rfl,rfl,rfl,by simp [hE]⟩) (fun i hk=>?_)
     obtain⟨k,⟨lk,ek⟩,rr⟩:=i
     obtain⟨hk,hst,⟨hrn,hsgl,hsg⟩,hlk⟩:=hk
     dsimp only at hk hst hrn hsgl hsg hlk ⊢
     have hkw:k≤1000:=by rw [← hnxe] at hnw;omega
     by_cases hlt:k<nx.length
     ·have hx:=hnx k (by rw [← hnxe];exact hlt)
      rw [hsl] at hx
      have hseglen:t.len ((t.segs.getD (r.seg.getD (r.n-1).toNat 0).toNat default).next.getD k 0)=(t.segs.getD ((t.segs.getD (r.seg.getD (r.n-1).toNat 0).toNat default).next.getD k 0).toNat default).length:=rfl
      have hxe:(t.segs.getD (r.seg.getD (r.n-1).toNat 0).toNat default).next.getD k 0=nx.getD k 0:=by rw [hnxe,hsl]
      have htl:=ht ((t.segs.getD (r.seg.getD (r.n-1).toNat 0).toNat default).next.getD k 0).toNat (by omega)
      conv=>whnf
      repeat' ((first|refine Pc.sym ?_|refine StAt.rt rfl hsgl _ rfl (by omega) _ rfl ?_|refine Drw.lateP tabOk [0,1,2,3,4,5,6,7,8,9,10,11,12] [] [13] (by kernel_rfl) (by kernel_rfl) ?_|refine Br.pt (by omega) ?_|refine Ob.mk (by omega) ?_|refine Ob.mk (by unfold W.I64 at *;omega) ?_|refine Ix.nat _ ?_|refine Ix.tn (by omega) ?_);conv=>whnf)
      have hset:(⟨rr.n,rr.seg.set (rr.n-1).toNat ((t.segs.getD (r.seg.getD (r.n-1).toNat 0).toNat default).next.getD k 0)⟩:W.Rt)=⟨r.n+1,r.seg.set r.n.toNat (nx.getD k 0)⟩:=by
       rw [hrn,show (r.n+1-1).toNat=r.n.toNat by congr 1;omega,hsg,hxe]
      rw [hset]
      rw [hxe] at hx htl hseglen ⊢
      have hgood:RGood t ⟨r.n+1,r.seg.set r.n.toNat (nx.getD k 0)⟩:=next_ok hn hr (by omega) hx
      refine CallS.call (CallN.upd [0,1] [] (RvJL.cons (RvJ.ownP rfl) (RvJL.cons (RvJ.pu rfl) (RvJL.cons (RvJ.pu rfl) RvJL.nil))) (Als.nil _) (by simp)
       ⟨rfl,by decide,by simp,Giv.consB rfl (RcJ.cons (.pu rfl) (RcJ.cons (.pu rfl) (RcJ.cons (.pu rfl) (RcJ.cons (.pu rfl) (RcJ.mref rfl (RcJ.pu rfl)))))) (Giv.consO (by rfl) (by rfl) (by simp) Giv.done)⟩
       (growC t p ht hn f ⟨r.n+1,r.seg.set r.n.toNat (nx.getD k 0)⟩ (e+(t.segs.getD (nx.getD k 0).toNat default).length) lk ek (by dsimp only;omega) hgood (by omega) (by dsimp only;omega) hlk) (fun v gs' hp _=>?_))
      obtain⟨rfl,rfl⟩:=hp
      conv=>whnf
      repeat' ((refine Ob.mk (by unfold W.I64 at *;omega) ?_);conv=>whnf)
      have hstk:W.growF t p f ⟨r.n+1,r.seg.set r.n.toNat (nx.getD k 0)⟩ (e+(t.segs.getD (nx.getD k 0).toNat default).length) (lk,ek)=(nx.take (k+1)).foldl step (l,0):=by
       rw [List.take_succ_eq_append_getElem hlt,List.foldl_append,← hst,hstep]
       simp [List.getD,hlt]
       rfl
      refine⟨(k+1,W.growF t p f ⟨r.n+1,r.seg.set r.n.toNat (nx.getD k 0)⟩ (e+(t.segs.getD (nx.getD k 0).toNat default).length) (lk,ek),⟨r.n+1,r.seg.set r.n.toNat (nx.getD k 0)⟩),⟨by omega,hstk,⟨rfl,by simp [hr.len],fun x=>by simp⟩,growF_good p hn f _ _ _ hgood hlk⟩,by dsimp only;omega,(by trivial),(by trivial),(by trivial)⟩
     ·obtain rfl:k=nx.length:=by omega
      conv=>whnf
      repeat' ((refine Br.pf (by omega) ?_);conv=>whnf)
      rw [List.take_length] at hst
      rw [← hst]
      refine FinAt.asis (ars:=[]) [] RvL.nil (by simp) (by show 2≤_;simp) rfl ⟨rfl,rfl⟩
  ·rw [if_pos (by simpa using hE0)]
   conv=>whnf
   repeat' ((first|refine LdAt.rt rfl _ rfl (by omega) ?_|refine Pc.sym ?_|refine Br.nt (by assumption) ?_|refine Ob.mk (by omega) ?_|refine Ob.mk (by unfold W.I64 at *;omega) ?_|refine Drw.loose (by kernel_rfl) ?_|refine Ix.tn (by omega) ?_);conv=>whnf)
   all_goals refine FinAt.asis (ars:=[]) [] RvL.nil (by simp) (by show 2≤_;simp) rfl ⟨rfl,rfl⟩
theorem pdqO:∀ (m:Nat) (l:List Int) (r:List Value) (n c:Nat) (x y z:Int) (hn:l.length=n) (h0:0≤x) (hx:x≤y) (hy:y≤n) (hc:n≤255) (hz:0≤z) (hz2:z≤1000) (hm:y-x<m),
  SortC i1 1 215 n c l r [I x,I y,I z] (·=.tup [])
 |0,_,_,_,_,_,_,_,_,_,_,_,_,_,_,hm=>by omega
 |m+1,l,r,n,c,x,y,z,hn,h0,hx,hy,hc,hz,hz2,hm=>by
  refine enterO tabOk (N:=134) (gs:=[_]) (args:=[_,_,_,_]) Tryz.func215 rfl rfl rfl (nLe rfl) (fun E hE=>?_)
  conv=>whnf
  refine LoopAt.rule tabOk [(0,_)] (fun (q:Int×Int×Int×Bool×Bool×List Int)=>[(1,.int .i64 q.1),(2,.int .i64 q.2.1),(3,.int .i64 q.2.2.1),(8,.bool q.2.2.2.1),(9,.bool q.2.2.2.2.1)]) (fun (q:Int×Int×Int×Bool×Bool×List Int)=>[.blk (ar i1 q.2.2.2.2.2 r)]) (fun (q:Int×Int×Int×Bool×Bool×List Int)=>q.2.2.2.2.2.Perm l∧x≤q.1∧q.1≤q.2.1∧q.2.1≤y∧0≤q.2.2.1∧q.2.2.1≤1000) (fun (q:Int×Int×Int×Bool×Bool×List Int)=>(q.2.1-q.1).toNat) (x,y,z,true,true,l) (by (repeat refine And.intro (by first|rfl|exact congrArg (fun z=>some (AV.int .i64 z)) (by first|omega|(dsimp only;omega))) ?_);exact trivial) ⟨.refl _,Int.le_refl _,hx,Int.le_refl _,hz,hz2⟩ (by (repeat refine And.intro (by first|rfl|exact congrArg (fun z=>some (AV.int .i64 z)) (by first|omega|(dsimp only;omega))) ?_);exact trivial) (by (repeat refine And.intro (by first|rfl|exact congrArg (fun z=>some (AV.int .i64 z)) (by first|omega|(dsimp only;omega))) ?_);exact trivial) (fun _=>⟨rfl,rfl,okAr,by simp [hE]⟩) (fun q hk=>?_)
  obtain⟨a,b,d,b1,b2,l1⟩:=q
  obtain⟨hp,ha,hab,hb,hd,hd2⟩:=hk
  dsimp only at hp ha hab hb hd hd2 ⊢
  have hl1:=hp.length_eq
  conv=>whnf
  repeat' (first|((first|refine Ix.tn (by omega) ?_|refine Pc.sym ?_|refine LdAt.one (e:=i1) (v:=I) (fun _=>rfl) (fun _=>rfl) 0 rfl _ rfl (by omega) ?_|refine CallS.srtP (insertO _ r n c _ _ (by omega) (by omega) (by omega) (by omega) (by omega)) (by assumption) rfl (fun _=>rfl) (fun _=>rfl) (fun x l' hx hp' hl'=>?_);obtain rfl:=hx|refine CallS.srtP (heapO _ r n c _ _ (by omega) (by omega) (by omega) (by omega) (by omega)) (by assumption) rfl (fun _=>rfl) (fun _=>rfl) (fun x l' hx hp' hl'=>?_);obtain rfl:=hx|refine CallS.srtP (breakO _ r n c _ _ (by omega) (by omega) (by omega) (by omega) (by omega)) (by assumption) rfl (fun _=>rfl) (fun _=>rfl) (fun x l' hx hp' hl'=>?_);obtain rfl:=hx|refine CallS.srtP (pivotO _ r n c _ _ (by omega) (by omega) (by omega) (by omega) (by omega)) (by assumption) rfl (fun _=>rfl) (fun _=>rfl) (fun x l' hx hp' hl'=>?_);obtain⟨p,h,rfl,hp1,hp2⟩:=hx|refine CallS.srtP (revO _ r n c _ _ (by omega) (by omega) (by omega) (by omega) (by omega)) (by assumption) rfl (fun _=>rfl) (fun _=>rfl) (fun x l' hx hp' hl'=>?_);obtain rfl:=hx|refine CallS.srtP (partInsO _ r n c _ _ (by omega) (by omega) (by omega) (by omega) (by omega)) (by assumption) rfl (fun _=>rfl) (fun _=>rfl) (fun x l' hx hp' hl'=>?_);obtain⟨p,rfl⟩:=hx|refine CallS.srtP (partEqO _ r n c _ _ _ (by omega) (by omega) (by omega) (by omega) (by omega) (by omega)) (by assumption) rfl (fun _=>rfl) (fun _=>rfl) (fun x l' hx hp' hl'=>?_);obtain⟨p,rfl,hp1,hp2⟩:=hx|refine CallS.srtP (partO _ r n c _ _ _ (by omega) (by omega) (by omega) (by omega) (by omega) (by omega)) (by assumption) rfl (fun _=>rfl) (fun _=>rfl) (fun x l' hx hp' hl'=>?_);obtain⟨p,b,rfl,hp1,hp2⟩:=hx|refine CallS.srtP (pdqO m _ r n c _ _ _ (by omega) (by omega) (by omega) (by omega) (by omega) (by omega) (by omega) (by omega)) (by assumption) rfl (fun _=>rfl) (fun _=>rfl) (fun x l' hx hp' hl'=>?_);obtain rfl:=hx|refine Br.ot (by assumption) ?_|refine Br.of (by assumption) ?_|refine Br.pt (by assumption) ?_|refine Br.pf (by assumption) ?_|refine Br.pt (by omega) ?_|refine Br.of rfl ?_|refine CallX.pu (less _ _) rfl rfl ?_|refine Ob.mk (by omega) ?_|refine Ob.mk (by unfold W.I64 at *;omega) ?_|refine Drw.loose (by kernel_rfl) ?_);conv=>whnf)|((first|refine Br.d (fun h=>?_) (fun h=>?_)|refine Br.n (fun h=>?_) (fun h=>?_)|refine Br.mk (fun h=>?_) (fun h=>?_))<;>conv=>whnf))
  all_goals first
   |exact FinAt.asis (ars:=[]) [] RvL.nil (by simp) (by show 1≤_;simp) okAr ⟨rfl,_,(by assumption),rfl⟩
   |(
     refine Exists.intro (_,_,_,_,_,_) ⟨?_,?_,(by trivial),(by trivial),(by trivial)⟩
     ·refine⟨by assumption,?_,?_,?_,?_,?_⟩<;>dsimp only<;>omega
     ·dsimp only;omega)
theorem sortO(l:List Int)(r:List Value)(n c:Nat)(hn:l.length=n)(h0:0<n)(hc:n≤255) :
  SortC i1 1 201 n c l r [] (·=.tup []):=by
 refine enterO tabOk (N:=11) (gs:=[_]) (args:=[_]) Tryz.func201 rfl rfl rfl (nLe rfl) (fun E hE=>?_)
 have hw:IntKind.u64.wrap (n:Int)=n:=wrap_u64_id (by omega) (by omega)
 conv=>whnf
 refine CallS.call (CallN.puP (by rw [hw];exact bitsLen n (by omega) (by omega)) rfl (fun v hv=>?_))
 obtain⟨q,rfl,h2,h3,h4⟩:=hv
 conv=>whnf
 refine CallS.srt (pdqO (n+1) l r n c _ _ _ hn (by omega) (by omega) (by omega) hc (by omega) (by omega) (by omega)) rfl (fun _=>rfl) (fun _=>rfl) (fun x l' hx hp=>?_)
 subst hx
 conv=>whnf
 exact FinAt.asis (ars:=[]) [] RvL.nil (by simp) (by show 1≤_;simp) okAr ⟨rfl,_,hp,rfl⟩
theorem eachN(g:W.Grp)(s:W.RSet)(t:W.Trk)(ht:TLen t)(hf:0≤s.from_∧s.from_≤1099511627776)(hr:∀ i,i<s.list.length→ROk t (s.list.getD i ⟨0,[]⟩))(hlen:s.list.length≤1000000)
  (hc:∀ (i at_:Int),(i,at_)∈s.visits t→0≤i→i<t.segs.length→-1099511627776≤at_→at_≤13194139533312→RetO Tryz.prog 200 [.blk (gpC g),.blk [.emp]] [I i,I at_,.own 0 0,.own 1 0] (fun r gs'=>r=.tup []∧gs'=[.blk (gpC g),.blk [.emp]])) :
  RetO Tryz.prog 194 [.blk (gpC g),.blk [.emp]] [setV s,trkV t,.fn 200 [] [.own 0 0,.own 1 0]] (fun r gs'=>r=.tup []∧gs'=[.blk (gpC g),.blk [.emp]]):=by
 refine enterO tabOk (N:=42) (args:=[_,_,_]) Tryz.func194 rfl rfl rfl (nLe rfl) (fun E hE=>?_)
 have hE:E.gs.length=2:=hE
 conv=>whnf
 refine LoopAt.rule tabOk [(2,_),(3,_),(4,_),(12,_),(13,_)] (fun (i:Nat)=>[(14,.int .i64 (i:Int))]) (fun (i:Nat)=>[.blk (gpC g),.blk [.emp],.blk [I s.from_,rtsV s.list],.blk [sgsV t.segs,gpsV t.grps]]) (fun (i:Nat)=>i≤s.list.length) (fun (i:Nat)=>s.list.length-i) 0 (by trivial) (Nat.zero_le _) (by trivial) (by trivial) (fun _=>⟨rfl,rfl,rfl,by simp [hE]⟩) (fun i hk=>?_)
 obtain⟨q,rfl⟩:∃ q,q=i:=⟨i,rfl⟩
 have hq:q≤s.list.length:=hk
 by_cases hlt:q<s.list.length
 ·have hro:=hr q hlt
  have hl:=path_len hro.len hro.lo hro.hi
  have hln:(s.list.getD q ⟨0,[]⟩).path.length≤12:=by have:=hro.hi;omega
  conv=>whnf
  repeat' ((first|refine Br.pt (by omega) ?_|refine CallS.q (path _ hro.len hro.lo hro.hi) rfl ?_|refine Ob.mk (by omega) ?_|refine Ob.mk (by unfold W.I64 at *;omega) ?_|refine Ix.nat _ ?_);conv=>whnf)
  refine LoopAt.rule tabOk [(2,_),(3,_),(4,_),(12,_),(13,_),(14,_),(22,_),(23,_)] (fun (i:Nat×Int)=>[(24,.int .i64 i.1),(8,.int .i64 i.2)]) (fun (i:Nat×Int)=>[.blk (gpC g),.blk [.emp],.blk [I s.from_,rtsV s.list],.blk [sgsV t.segs,gpsV t.grps],.blk (rtC (s.list.getD q ⟨0,[]⟩))]) (fun (i:Nat×Int)=>i.1≤(s.list.getD q ⟨0,[]⟩).path.length∧i.2=pre t s.from_ (s.list.getD q ⟨0,[]⟩).path i.1) (fun (i:Nat×Int)=>(s.list.getD q ⟨0,[]⟩).path.length-i.1) (0,-s.from_) (by trivial) ⟨by omega,rfl⟩ (by trivial) (by trivial) (fun _=>⟨rfl,rfl,rfl,by simp [hE]⟩) (fun i hk=>?_)
  obtain⟨k,at_⟩:=i
  obtain⟨hk,ha⟩:=hk
  dsimp only at hk ha ⊢
  have hb:=pre_le (f:=s.from_) ht hro.p k hk
  by_cases hlt2:k<(s.list.getD q ⟨0,[]⟩).path.length
  ·have h1:=hro.p k hlt2
   have h2:=len_ok ht hro.p hlt2
   have hn:=pre_succ (t:=t) (f:=s.from_) hlt2
   have hlen2:t.len ((s.list.getD q ⟨0,[]⟩).path.getD k 0)=(t.segs.getD ((s.list.getD q ⟨0,[]⟩).path.getD k 0).toNat default).length:=rfl
   have hmem:((s.list.getD q ⟨0,[]⟩).path.getD k 0,at_)∈s.visits t:=by
    unfold W.RSet.visits
    rw [List.mem_flatMap]
    refine⟨s.list.getD q ⟨0,[]⟩,by simp [List.getD,hlt],?_⟩
    have:=along_get t s.from_ (s.list.getD q ⟨0,[]⟩).path k hlt2
    rw [← ha] at this
    exact List.mem_of_getElem? this
   have hcc:=hc ((s.list.getD q ⟨0,[]⟩).path.getD k 0) at_ hmem h1.1 h1.2 (by omega) (by omega)
   conv=>whnf
   repeat' ((first|refine Br.pt (by omega) ?_|refine Ob.mk (by omega) ?_|refine Ix.nat _ ?_);conv=>whnf)
   refine CallS.call (CallN.upd [0,1] [] (RvJL.cons (RvJ.pu rfl) (RvJL.cons (RvJ.pu rfl) (RvJL.cons (RvJ.ownP rfl) (RvJL.cons (RvJ.ownP rfl) (RvJL.nil))))) (Als.nil _) (by simp) ⟨rfl,by decide,by simp,Giv.consB rfl (RcJ.pu rfl) (Giv.consB rfl (RcJ.pu rfl) (Giv.done))⟩ hcc (fun r gs' hp _=>?_))
   obtain⟨rfl,rfl⟩:=hp
   conv=>whnf
   repeat' ((first|refine Ob.mk (by omega) ?_|refine Ob.mk (by unfold W.I64 at *;omega) ?_|refine Ix.tn (by omega) ?_);conv=>whnf)
   refine⟨(k+1,_),⟨?_,?_⟩,?_,(by trivial),(by trivial),(by trivial)⟩
   ·dsimp only;omega
   ·dsimp only;rw [hn,hlen2,ha]
   ·dsimp only;omega
  ·obtain rfl:k=(s.list.getD q ⟨0,[]⟩).path.length:=by omega
   conv=>whnf
   repeat' ((first|refine Br.pf (by omega) ?_|refine Ob.mk (by unfold W.I64 at *;omega) ?_);conv=>whnf)
   exact⟨q+1,by omega,by omega,(by trivial),(by trivial),(by trivial)⟩
 ·obtain rfl:q=s.list.length:=by omega
  conv=>whnf
  repeat' ((refine Br.pf (by omega) ?_);conv=>whnf)
  exact FinAt.asis (ars:=[]) [] RvL.nil (by simp) (by show 2≤_;simp) rfl ⟨rfl,rfl⟩
structure SOk(t:W.Trk)(s:W.RSet):Prop where
 f:0≤s.from_∧s.from_≤1099511627776
 r:∀ i,i<s.list.length→ROk t (s.list.getD i ⟨0,[]⟩)
 n:s.list.length≤16
theorem grades_(t:W.Trk)(s:W.RSet)(p:W.Sp)(ht:TLen t)(hp:PLen t)(hs:SOk t s):Ret Tryz.prog 181 [setV s,trkV t,.agg [I p.lo,I p.hi]] (·=.tup [spV (s.grades t p).1,.bool (s.grades t p).2]):=by
 refine enterO tabOk (N:=16) (gs:=[]) (args:=[_,_,_]) Tryz.func181 rfl rfl rfl (nLe rfl) (fun E hE=>?_)
 conv=>whnf
 refine CallS.call (CallN.updE [2,1,5,4] [] (RvJL.cons (RvJ.pu rfl) (RvJL.cons (RvJ.pu rfl) (RvJL.cons (RvJ.fn R0J.nil (R0J.ownP rfl (R0J.ownP rfl (R0J.ownP rfl (R0J.ownP rfl R0J.nil))))) RvJL.nil))) (Als.nil _) (by simp)
  ⟨rfl,by decide,by simp,Giv.consB rfl (RcJ.pu rfl) (Giv.consB rfl (RcJ.pu rfl) (Giv.consB rfl (RcJ.pu rfl) (Giv.consB rfl (RcJ.pu rfl) Giv.done)))⟩
  (eachG p (fun x:W.Sp×Bool=>x.2) (fun x=>x.1) (fun _=>True) (W.gradeStep t p) s t ht hs.f hs.r (by have:=hs.n;omega) (fun x i at_ _ h1 h2 h3 h4=>⟨by
   obtain⟨k,rfl⟩:=Int.eq_ofNat_of_zero_le h1
   exact gradesC p t ht hp x k at_ (by omega) h3 h4,trivial⟩) (⟨0,0⟩,false) trivial) ?_)
 conv=>whnf
 repeat' (first|((first|(refine Drw.len 4 2 rfl rfl ?_;refine Drw.tree tabOk (.alt (.go 0 (.alt (.go 1 (.go 2 (.go 3 .done))) (.go 2 (.go 1 (.go 3 .done))))) (.go 1 (.go 0 (.go 2 (.go 3 .done))))) 4 rfl (by kernel_rfl) ?_)|refine FinAt.val rfl ?_);conv=>whnf)|((refine Both.mk ?_ ?_)<;>conv=>whnf))
 all_goals rfl
theorem CallN.srtI{α:Type}{e:α→List AV}{sz f n c:Nat}{l:List α}{r:List Value}{xs:List AV}{p:AV→Prop}{N:Nat}{E:En}{dst:Option Nat}{K:Tm→Ow→Prop}{tm:Tm}{own:Ow}(i:Nat)(hb:nth own i=some (.blk (ar e l r)))(h:SortC e sz f n c l r xs p)(hp:puL xs=true)(he:∀ x,puL (e x)=true)(he2:∀ x,rnL1 [i] (e x)=e x)
  (hK:∀ x l',p x→l'.Perm l→put N tm dst x fun tm=>K tm (own.set i (.blk (ar e l' r)))):CallN Tryz.prog N E f (.sl i 0 sz n c::xs) dst K tm own:=by
 refine CallN.upd [i] [] (RvJL.cons (RvJ.sl rfl) (RvJL.pu hp)) (Als.nil _) (by simp) (Giv.one hb (by simp) (RcJ.pu (puL_ar he l r))) h (fun x gs ⟨h1,l',h2,h3⟩ _=>?_)
 subst h3
 have:=hK x l' h1 h2
 simp only [List.map_cons,List.map_nil,rnO,rnL1_ar [i] he2,putJ,killI]
 exact this
theorem apI64:Ap Tryz.prog 130 2 1:=⟨.int .i64 0,8,by kernel_rfl,by kernel_rfl,rfl,by decide,by decide⟩
theorem placesN(g:W.Grp)(i at_:Int)(h:i≠g.seg):RetO Tryz.prog 200 [.blk (gpC g),.blk [.emp]] [I i,I at_,.own 0 0,.own 1 0] (fun r gs'=>r=.tup []∧gs'=[.blk (gpC g),.blk [.emp]]):=by
 refine enterO tabOk (N:=17) (gs:=[_,_]) (args:=[_,_,_,_]) Tryz.func200 rfl rfl rfl (nLe rfl) (fun E hE=>?_)
 conv=>whnf
 repeat' ((refine Br.pf (by assumption) ?_);conv=>whnf)
 exact FinAt.asis (ars:=[]) [] RvL.nil (by simp) (by show 2≤_;simp) rfl ⟨rfl,rfl⟩
def plStep(g:W.Grp)(l:List Int)(v:Int×Int):List Int:=if v.1=g.seg then l++[v.2+g.offset] else l
theorem placesC(g:W.Grp)(l:List Int)(i at_:Int)(hl:l.length≤1000)(h2:-1099511627776≤at_)(h3:at_≤13194139533312)(h4:0≤g.offset)(h5:g.offset≤1099511627776) :
  RetO Tryz.prog 200 [.blk (gpC g),.blk [.gro 2 (l.map i1).length],.buf 2 1 (l.map i1)] [I i,I at_,.own 0 0,.own 1 0] (fun r gs'=>r=.tup []∧gs'=[.blk (gpC g),.blk [.gro 2 ((plStep g l (i,at_)).map i1).length],.buf 2 1 ((plStep g l (i,at_)).map i1)]):=by
 refine enterO tabOk (N:=17) (gs:=[_,_,_]) (args:=[_,_,_,_]) Tryz.func200 rfl rfl rfl (nLe rfl) (fun E hE=>?_)
 unfold plStep
 by_cases he:i=g.seg
 ·conv=>whnf
  repeat' ((first|refine OpAt.appG apI64 rfl [3] rfl rfl rfl rfl (by simp) (by repeat (first|exact Als.nil _|refine Als.cons rfl rfl ?_)) (by simp [hE]) (Xs.one rfl rfl rfl (RvL.pu rfl) rfl) (by decide) (by simp;omega) ?_|refine Br.pt (by assumption) ?_|refine Ob.mk (by unfold W.I64 at *;omega) ?_|refine BsN.mark ?_);conv=>whnf)
  refine FinAt.asis (ars:=[]) [] RvL.nil (by simp) (by show 3≤_;simp) rfl ⟨rfl,?_⟩
  rw [if_pos he]
  simp
 ·conv=>whnf
  repeat' ((refine Br.pf (by assumption) ?_);conv=>whnf)
  refine FinAt.asis (ars:=[]) [] RvL.nil (by simp) (by show 3≤_;simp) rfl ⟨rfl,?_⟩
  rw [if_neg he];rfl
theorem plStep_len(g:W.Grp)(l:List Int)(v:Int×Int):(plStep g l v).length≤l.length+1:=by
 unfold plStep;split<;>simp
theorem plStep_raw(t:W.Trk)(g:W.Grp):∀ (vs:List (Int×Int)) (l:List Int),vs.foldl (plStep g) l=l++(vs.filter fun v=>v.1==g.seg).map fun v=>v.2+g.offset
 |[],l=>by simp
 |v::vs,l=>by
  rw [List.foldl_cons,plStep_raw t g vs,List.filter_cons]
  unfold plStep
  by_cases h:v.1=g.seg<;>simp [h]
theorem along_le{t:W.Trk}{s:W.RSet}(hs:SOk t s):(s.visits t).length≤12*s.list.length:=by
 unfold W.RSet.visits
 have:∀ (l:List W.Rt),(∀ r∈l,ROk t r)→(l.flatMap fun r=>W.along t (-s.from_) r.path).length≤12*l.length:=by
  intro l
  induction l with
  |nil=>intro _;simp
  |cons r l ih =>
   intro h
   rw [List.flatMap_cons,List.length_append,along_len,List.length_cons]
   have h1:=h r List.mem_cons_self
   have:=path_len h1.len h1.lo h1.hi
   have:=h1.hi
   have:=ih fun r hr=>h r (List.mem_cons_of_mem _ hr)
   omega
 refine this _ fun r hr=>?_
 obtain⟨i,hi,e⟩:=List.getElem_of_mem hr
 have:=hs.r i hi
 simpa [List.getD,hi,e] using this
def PlacesIs(t:W.Trk)(s:W.RSet)(g:W.Grp)(v:AV):Prop:=∃ l:List Int,v=isV l∧l.length≤192∧∀ x,x∈l↔x∈s.placesRaw t g
theorem lenZ:Ret Tryz.prog 214 [.int .u64 0] (fun v=>∃ q:Int,v=I q∧0≤q∧q≤8):=by
 refine enterO tabOk (N:=25) (gs:=[]) (args:=[_]) Tryz.func214 rfl rfl rfl (nLe rfl) (fun E hE=>?_)
 conv=>whnf
 repeat' ((first|refine QAt.tab8 (j:=0) rfl (by kernel_rfl) rfl (by decide) (by decide) (by kernel_rfl) (fun u h0 h1 h2=>?_)|refine Br.pf (by omega) ?_|refine Ob.mk (by unfold W.I64 at *;omega) ?_|refine FinAt.val rfl ?_);conv=>whnf)
 exact⟨0+u,rfl,by omega,by omega⟩
theorem insertE:Ret Tryz.prog 225 [.emp,I 0,I 0] (·=.tup []):=by
 refine enterO tabOk (N:=49) (gs:=[]) (args:=[_,_,_]) Tryz.func225 rfl rfl rfl (nLe rfl) (fun E hE=>?_)
 conv=>whnf
 repeat' ((refine Ob.mk (by unfold W.I64 at *;omega) ?_);conv=>whnf)
 refine LoopAt.rule tabOk [(2,_)] (fun (k:Nat)=>[(6,.int .i64 1)]) (fun (k:Nat)=>[]) (fun (k:Nat)=>True) (fun (k:Nat)=>0) 0 (by trivial) trivial (by trivial) (by trivial) (fun _=>⟨rfl,rfl,rfl,by simp [hE]⟩) (fun k hk=>?_)
 conv=>whnf
 repeat' ((first|refine Br.nf (by assumption) ?_|refine FinAt.val rfl ?_);conv=>whnf)
 rfl
theorem pdqE(q:Int):Ret Tryz.prog 215 [.emp,I 0,I 0,I q] (·=.tup []):=by
 refine enterO tabOk (N:=134) (gs:=[]) (args:=[_,_,_,_]) Tryz.func215 rfl rfl rfl (nLe rfl) (fun E hE=>?_)
 conv=>whnf
 refine LoopAt.rule tabOk [(0,_),(1,_),(2,_)] (fun (k:Nat)=>[]) (fun (k:Nat)=>[]) (fun (k:Nat)=>True) (fun (k:Nat)=>0) 0 (by trivial) trivial (by trivial) (by trivial) (fun _=>⟨rfl,rfl,rfl,by simp [hE]⟩) (fun k hk=>?_)
 conv=>whnf
 repeat' ((first|refine Br.pt (by omega) ?_|refine CallS.q (insertE) rfl ?_|refine Ob.mk (by unfold W.I64 at *;omega) ?_|refine FinAt.val rfl ?_);conv=>whnf)
 rfl
theorem sortE:Ret Tryz.prog 201 [.emp] (·=.tup []):=by
 refine enterO tabOk (N:=11) (gs:=[]) (args:=[_]) Tryz.func201 rfl rfl rfl (nLe rfl) (fun E hE=>?_)
 conv=>whnf
 refine CallS.call (CallN.puP (f:=197) (post:=fun v=>∃ q:Int,v=I q∧0≤q∧q≤8) ?_ rfl (fun v hv=>?_))
 ·show Ret Tryz.prog 197 [.int .u64 0] _
  refine enterO tabOk (N:=8) (gs:=[]) (args:=[_]) Tryz.func197 rfl rfl rfl (nLe rfl) (fun E hE=>?_)
  conv=>whnf
  repeat' ((refine Br.of rfl ?_);conv=>whnf)
  refine CallS.call (CallN.puP lenZ rfl (fun r hr=>?_))
  obtain⟨q,rfl,h2⟩:=hr
  conv=>whnf
  repeat' ((refine FinAt.val rfl ?_);conv=>whnf)
  exact⟨q,rfl,h2⟩
 ·obtain⟨q,rfl,h2,h3⟩:=hv
  conv=>whnf
  repeat' ((first|refine CallS.q (pdqE q) rfl ?_|refine FinAt.val rfl ?_);conv=>whnf)
  rfl
theorem compactE:Ret Tryz.prog 202 [.emp] (·=.emp):=by
 refine enterO tabOk (N:=61) (gs:=[]) (args:=[_]) Tryz.func202 rfl rfl rfl (nLe rfl) (fun E hE=>?_)
 conv=>whnf
 repeat' ((first|refine Br.pt (by omega) ?_|refine FinAt.val rfl ?_);conv=>whnf)
 rfl
theorem Rv.slM{own:Ow}{I:List Nat}{i off sz m c:Nat}{cs:List AV}{f:Nat→List AV}(hi:i∈I)(hb:nth own i=some (.blk cs))(hc:m≤c∧c≤maxLen)(h:∀ j,j<m→off+(j+1)*sz≤cs.length∧RvL own I ((cs.drop (off+j*sz)).take sz) (f j)):Rv own I (.sl i off sz m c) (.lst sz m f):=fun S n ids base hl V hr=>by
 obtain⟨b,g1,rfl⟩:=hr.sl
 obtain⟨vs,g2,g3⟩:=Rv.cells hb hl g1
 refine⟨_,_,rfl,hc.1,hc.2,fun h0=>⟨b,off,rfl,.inr ⟨i,_,hi,g1,rfl⟩,g3.lt,fun j hj=>?_⟩⟩
 obtain⟨q1,q2⟩:=h j hj
 rw [Nat.succ_mul] at q1
 refine⟨(vs.drop (off+j*sz)).take sz,q2 S n ids base hl _ (R1L_R ((g2.drop _).take sz)),?_,⟨fun q v hq=>?_,g3.lt⟩⟩
 ·simp only [List.length_take,List.length_drop,g2.len];omega
 ·rw [List.getElem?_take] at hq
  split at hq
  ·exact g3.cell _ v (by simpa using hq)
  ·cases hq
theorem ar_flat(l:List Int):ar i1 l []=(l.map i1).flatten:=by unfold ar;simp [List.flatMap]
theorem places_(t:W.Trk)(s:W.RSet)(i:Nat)(ht:TLen t)(hs:SOk t s)(hi:i<t.grps.length)(hg:t.grps.length≤400)(h4:0≤(t.grps.getD i default).offset)(h5:(t.grps.getD i default).offset≤1099511627776):Ret Tryz.prog 187 [setV s,trkV t,I i] (PlacesIs t s (t.grps.getD i default)):=by
 have hn:=hs.n
 have hraw:=plStep_raw t (t.grps.getD i default) (s.visits t) []
 rw [List.nil_append] at hraw
 have hlen:(s.placesRaw t (t.grps.getD i default)).length≤192:=by
  have h1:=along_le hs
  have h2:(s.placesRaw t (t.grps.getD i default)).length≤(s.visits t).length:=by
   unfold W.RSet.placesRaw
   rw [List.length_map]
   exact List.length_filter_le _ _
  omega
 refine enterO tabOk (N:=31) (gs:=[]) (args:=[_,_,_]) Tryz.func187 rfl rfl rfl (nLe rfl) (fun E hE=>?_)
 by_cases h0:s.placesRaw t (t.grps.getD i default)=[]
 ·have hno:∀ j at_,(j,at_)∈s.visits t→j≠(t.grps.getD i default).seg:=fun j at_ hm e=>by
   have:at_+(t.grps.getD i default).offset∈s.placesRaw t (t.grps.getD i default):=by
    unfold W.RSet.placesRaw
    rw [List.mem_map]
    exact⟨(j,at_),List.mem_filter.2 ⟨hm,by simp [e]⟩,rfl⟩
   rw [h0] at this;cases this
  conv=>whnf
  repeat' ((first|refine Br.pf (by omega) ?_|refine Ob.mk (by omega) ?_|refine Ix.nat _ ?_);conv=>whnf)
  refine CallS.call (CallN.updE [3,2] [] (RvJL.cons (RvJ.pu rfl) (RvJL.cons (RvJ.pu rfl) (RvJL.cons (RvJ.fn R0J.nil (R0J.ownP rfl (R0J.ownP rfl R0J.nil))) RvJL.nil))) (Als.nil _) (by simp)
   ⟨rfl,by decide,by simp,Giv.consB rfl (RcJ.pu rfl) (Giv.consB rfl (RcJ.pu rfl) Giv.done)⟩
   (eachN (t.grps.getD i default) s t ht hs.f hs.r (by omega) (fun j at_ hm _ _ _ _=>placesN _ j at_ (hno j at_ hm))) ?_)
  conv=>whnf
  repeat' ((first|refine FinAt.gen (ars:=[isV []]) [] (RvL.cons Rv.emp RvL.nil) (fun i hi=>by cases hi) ?_|refine CallS.q (sortE) rfl ?_|refine CallS.q (compactE) rfl ?_);conv=>whnf)
  exact⟨[],rfl,by simp,fun x=>by rw [h0]⟩
 ·have h0l:0<(s.placesRaw t (t.grps.getD i default)).length:=by
   cases e:s.placesRaw t (t.grps.getD i default) with
   |nil=>exact absurd e h0
   |cons _ _=>simp
  have he:=eachP (t.grps.getD i default) (fun l:List Int=>l.map i1) (fun _=>True) (plStep (t.grps.getD i default)) List.length (plStep_len _) s t ht hs.f hs.r (by omega) (fun x j at_ _ hx _ _ h2 h3=>⟨placesC _ x j at_ (by omega) h2 h3 h4 h5,trivial⟩) [] trivial rfl
  rw [hraw] at he
  have hraw2:s.placesRaw t (t.grps.getD i default)=((s.visits t).filter fun v=>v.1==(t.grps.getD i default).seg).map fun v=>v.2+(t.grps.getD i default).offset:=rfl
  rw [← hraw2] at he
  obtain⟨raw,hrw⟩:∃ raw,s.placesRaw t (t.grps.getD i default)=raw:=⟨_,rfl⟩
  rw [hrw] at he h0l hlen
  conv=>whnf
  repeat' ((first|refine Br.pf (by omega) ?_|refine Ob.mk (by omega) ?_|refine Ix.nat _ ?_);conv=>whnf)
  refine CallS.emp 2 0 2 1 rfl rfl ?_
  refine CallN.updE [3,2,4] [] (RvJL.cons (RvJ.pu rfl) (RvJL.cons (RvJ.pu rfl) (RvJL.cons (RvJ.fn R0J.nil (R0J.ownP rfl (R0J.ownP rfl R0J.nil))) RvJL.nil))) (Als.nil _) (by simp)
   ⟨rfl,by decide,by simp,Giv.consB rfl (RcJ.pu rfl) (Giv.consB rfl (RcJ.gro rfl RcJ.nil) (Giv.consO rfl rfl (fun cs h=>by cases h) Giv.done))⟩ he ?_
  conv=>whnf
  refine CallS.unbuf 4 [(7,.own 2 0)] (fun c=>[.blk [I s.from_,rtsV s.list],.blk [sgsV t.segs,gpsV t.grps],.blk [.sl 4 0 1 (raw.map i1).length c],.blk (gpC (t.grps.getD i default)),.blk (ar i1 raw [])]) rfl (by simpa using h0l) rfl (by simp [hE]) (by simp [putJ,killI,rnO,rnL1,rn1,rn0,rnN,nth,ubOkO,ubOk,noG1,noG0,zAv,av1]) (by trivial) rfl (fun c=>by rw [ar_flat];rfl) (fun c hc1 hc2=>?_)
  refine CallN.srtI 4 rfl (sortO raw [] _ c (by simp) (by simpa using h0l) (by simp;omega)) rfl (fun _=>rfl) (fun _=>rfl) (fun x l1 hx hp=>?_)
  subst hx
  conv=>whnf
  refine CallS.call (CallN.updV [4] [] (RvJL.cons (RvJ.sl rfl) RvJL.nil) (Als.nil _) (by simp) (Giv.one rfl (by simp) (RcJ.pu (puL_ar (fun _=>rfl) l1 []))) (compactO l1 [] _ c (by simp [hp.length_eq]) (by simpa using h0l) hc1 (by simp;omega)) (fun v gs hv _=>?_))
  obtain⟨k,l2,k1,rfl,rfl,k2,k3⟩:=hv
  simp only [List.map_cons,List.map_nil,rnO,rnL1_ar [4] (e:=i1) (fun _=>rfl),putJ,killI]
  conv=>whnf
  have hk2:l2.length=raw.length:=k2.trans hp.length_eq
  have hkl:(l2.take k).length=k:=by rw [List.length_take];simp at k1;omega
  refine FinAt.gen (ars:=[isV (l2.take k)]) [4] (RvL.cons ?_ RvL.nil) (by repeat (first|exact Als.nil _|refine Als.cons rfl rfl ?_)) ⟨l2.take k,rfl,by simp at k1;omega,fun x=>by rw [hrw];exact(k3 x).trans hp.mem_iff⟩
  have e:isV (l2.take k)=.lst 1 k fun i=>[I ((l2.take k).getD i 0)]:=by show AV.lst 1 (l2.take k).length _=_;rw [hkl]
  rw [e]
  refine Rv.slM (cs:=ar i1 l2 []) (by simp [rnN,nth]) rfl ⟨by simp at k1 hc1;omega,hc2⟩ (fun j hj=>?_)
  have hjl:j<l2.length:=by simp at k1;omega
  obtain⟨q1,q2⟩:=ar_el (e:=i1) (sz:=1) (fun _=>rfl) (r:=[]) (0:Int) hjl
  refine⟨by omega,?_⟩
  rw [Nat.zero_add,q2]
  have:(l2.take k).getD j 0=l2.getD j 0:=by simp [List.getD,List.getElem?_take,hj]
  rw [this]
  exact RvL.pu rfl
end Y
end Go.Proofs.YtllemifiammnnaaGreat
