/- Texts of one's own that a claim's last text rests on: Spoil Trc. -/
import Derived.Test.YtkebjgebkneijaaGreatMG33
import Derived.Handy
set_option linter.unusedVariables false
set_option linter.unusedSimpArgs false
namespace Go.Proofs.YtkebjgebkneijaaGreat
section
open Go.RowKit
set_option maxHeartbeats 400000
def Own(w:World)(g k:Nat):Prop:=∃cur:Array Value,Blk w g 3 cur/\k<=cur.size/\ ∀j,j<k-> ∃x:Int,cur[j]? =some (.int .i64 x)
theorem Own.cell{w:World}{g k:Nat}(h:Own w g k){j:Nat}(hj:j<k): ∃x:Int,w.cell? ⟨g,j,none⟩=some (.int .i64 x):=by
 obtain⟨cur,hb,_,hc⟩:=h
 obtain⟨x,hx⟩:=hc j hj
 exact⟨x,(hb.cell j).trans hx⟩
theorem Own.frozen{w:World}{g k:Nat}(h:Own w g k)(j:Nat):w.frozen? ⟨g,j,none⟩=false:=by
 obtain⟨cur,hb,_⟩:=h
 exact hb.frozen j
theorem Own.set{w:World}{g k:Nat}(h:Own w g k){j:Nat}(hj:j<k)(x:Int):Own (w.setCell ⟨g,j,none⟩ (.int .i64 x)) g k:=by
 obtain⟨cur,hb,hs,hc⟩:=h
 refine⟨_,hb.set_ j _,by simpa using hs,fun i hi=>?_⟩
 by_cases e:j=i
 ·subst e
  exact⟨x,by simp[show j<cur.size by omega]⟩
 ·obtain⟨y,hy⟩:=hc i hi
  exact⟨y,by rw[Array.getElem?_setIfInBounds,if_neg e];exact hy⟩
end
section
open Go.RowKit
set_option maxHeartbeats 1000000
def meetB(xs ys:List Int):Bool:=xs.any fun x=>ys.any fun y=>x==y
theorem meetB_iff{xs ys:List Int}:meetB xs ys=true↔ ∃x,x∈xs/\x∈ys:=by
 unfold meetB
 rw[List.any_eq_true]
 constructor
 ·rintro⟨x,hx,h⟩
  obtain⟨y,hy,e⟩:=List.any_eq_true.1 h
  obtain rfl:x=y:=by simpa using e
  exact⟨x,hx,hy⟩
 ·rintro⟨x,hx,hy⟩
  exact⟨x,hx,List.any_eq_true.2 ⟨x,hy,by simp⟩⟩
theorem meetB_nil(xs:List Int):meetB xs []=false:=by
 rcases Bool.eq_false_or_eq_true (meetB xs [])with h | h
 ·obtain⟨x,_,hx⟩:=meetB_iff.1 h;cases hx
 ·exact h
theorem meetB_same(x:Int)(xs ys:List Int):meetB (x::xs) (x::ys)=true:=meetB_iff.2 ⟨x,List.mem_cons_self ..,List.mem_cons_self ..⟩
theorem meetB_left{x y:Int}{xs ys:List Int}(h:x<y)(hy:Rises (y::ys)):meetB (x::xs) (y::ys)=meetB xs (y::ys):=by
 rw[Bool.eq_iff_iff,meetB_iff,meetB_iff]
 constructor
 ·rintro⟨z,hz,hz2⟩
  rcases List.mem_cons.1 hz with rfl | hz
  ·rcases List.mem_cons.1 hz2 with e | hz2
   ·omega
   ·have:=(List.pairwise_cons.1 hy).1 z hz2
    omega
  ·exact⟨z,hz,hz2⟩
 ·rintro⟨z,hz,hz2⟩
  exact⟨z,List.mem_cons_of_mem _ hz,hz2⟩
theorem meetB_comm(xs ys:List Int):meetB xs ys=meetB ys xs:=by
 rw[Bool.eq_iff_iff,meetB_iff,meetB_iff]
 exact⟨fun⟨x,h1,h2⟩=>⟨x,h2,h1⟩,fun⟨x,h1,h2⟩=>⟨x,h2,h1⟩⟩
theorem meetB_right{x y:Int}{xs ys:List Int}(h:y<x)(hx:Rises (x::xs)):meetB (x::xs) (y::ys)=meetB (x::xs) ys:=by
 rw[meetB_comm,meetB_left h hx,meetB_comm]
theorem ret_bool{a b:Bool}(h:a=b):Ending.returned (.bool a)= .returned (.bool b):=by rw[h]
def slen:Value->Nat
 | .slice _ n _=>n
 | _=>0
theorem Sl.tail{w:World}{x:Int}{xs:List Int}{g off cap:Nat}(h: ∀j u,((x::xs).map (Value.int .i64))[j]? =some u->w.cell? ⟨g,off+j,none⟩=some u)(hc:xs.length+1<=cap):
  Sl w 1 (.slice (some ⟨g,off+1,none⟩) xs.length (cap - 1)) xs.length (xs.map (Value.int .i64)):=by
 refine⟨by simp,_,_,rfl,by omega,fun _=>⟨g,off+1,rfl,fun j u hu=>?_⟩⟩
 have:=h (j+1) u (by simpa using hu)
 rw[show off+1+j=off+ (j+1)by omega]
 exact this
theorem Sl.empty{w:World}(A:Option Addr)(cap:Nat):Sl w 1 (.slice A 0 cap) 0 []:=⟨rfl,A,cap,rfl,by omega,fun h=>absurd h (by omega)⟩
set_option maxRecDepth 100000 in
theorem common_calls(us vs:List Int)(v v':Value)(w:World)(h:Sl w 1 v us.length (us.map (Value.int .i64)))(h':Sl w 1 v' vs.length (vs.map (Value.int .i64)))(hu:Rises us)(hv:Rises vs)(hcp: ∀A n c,v= .slice A n c->c<=9223372036854775807)(hcp': ∀A n c,v'= .slice A n c->c<=9223372036854775807):
  Calls Tryz.prog 34 #[v,v'] w fun e w'=>e= .returned (.bool (meetB us vs))/\ ∃d,w'=w.drewN d:=by
 have H:=lhi (show∃xs ys:List Int,Sl w 1 v xs.length (xs.map (Value.int .i64))/\Sl w 1 v' ys.length (ys.map (Value.int .i64))/\Rises xs/\Rises ys/\meetB xs ys=meetB us vs/\xs.length<=us.length/\ys.length<=vs.length/\ (∀A n c,v= .slice A n c->c<=9223372036854775807)/\ (∀A n c,v'= .slice A n c->c<=9223372036854775807)from⟨us,vs,h,h',hu,hv,rfl,Nat.le_refl _,Nat.le_refl _,hcp,hcp'⟩)
 clear h h' hu hv hcp hcp'
 go_enter Tryz.func34,Tryz.ntmps34
 go_wp2
 go_loopw [0,1] (fun a b wr=>(∃xs ys:List Int,Sl w 1 a xs.length (xs.map (Value.int .i64))/\Sl w 1 b ys.length (ys.map (Value.int .i64))/\Rises xs/\Rises ys/\meetB xs ys=meetB us vs/\xs.length<=us.length/\ys.length<=vs.length/\ (∀A n c,a= .slice A n c->c<=9223372036854775807)/\ (∀A n c,b= .slice A n c->c<=9223372036854775807))/\ ∃d,wr=w.drewN d) (fun a b _=>slen a+slen b)
 case atStart=>exact⟨H.out,0,rfl⟩
 case round=>
  obtain⟨⟨xs,ys,⟨_,A,cap,rfl,hc,hx⟩,⟨_,A',cap',rfl,hc',hy⟩,rx,ry,hm,lx,ly,cx,cy⟩,d,rfl⟩:=hrel
  have kx:=cx _ _ _ rfl
  have ky:=cy _ _ _ rfl
  clear cx cy
  have HX:=lhi hx
  have HY:=lhi hy
  have RX:=lhi rx
  have RY:=lhi ry
  have HM:=lhi hm
  clear hx hy rx ry hm H
  rcases xs with _ | ⟨x,xs⟩
  ·have HM:=lhi (show false=meetB us vs from HM.out)
   go_wp2
   go_ret
   exact⟨ret_bool HM.out,_,rfl⟩
  rcases ys with _ | ⟨y,ys⟩
  ·have HM:=lhi (show false=meetB us vs by rw[<-HM.out,meetB_nil])
   simp only[List.length_cons]at*
   go_wp2
   go_ret
   exact⟨ret_bool HM.out,_,rfl⟩
  ·simp only[List.length_cons]at*
   obtain⟨g,off,rfl,hcx⟩:=HX.out (by omega)
   obtain⟨g',off',rfl,hcy⟩:=HY.out (by omega)
   have q1:w.cell? ⟨g,off,none⟩=some (.int .i64 x):=hcx 0 _ rfl
   have q2:w.cell? ⟨g',off',none⟩=some (.int .i64 y):=hcy 0 _ rfl
   have HCX:=lhi hcx
   have HCY:=lhi hcy
   clear HX HY hcx hcy
   by_cases e:x=y
   ·have HM:=lhi (show true=meetB us vs by rw[<-HM.out,e,meetB_same])
    have e1:(x==y)=true:=by simpa using e
    clear e
    go_wp2
    go_quiet (fail)
    go_wp2
    go_ret
    exact⟨ret_bool HM.out,_,World.drewN_drewN _ _ _⟩
   ·have e1:(x==y)=false:=by simpa using e
    by_cases e2:x<y
    ·have HM:=lhi (show meetB xs (y::ys)=meetB us vs by rw[<-HM.out,meetB_left e2 RY.out])
     have HR:=lhi (List.pairwise_cons.1 RX.out).2
     have HYY:=lhi (show Sl w 1 (.slice (some ⟨g',off',none⟩) (ys.length+1) cap') (y::ys).length ((y::ys).map (Value.int .i64))from⟨by simp,_,_,rfl,hc',fun _=>⟨g',off',rfl,HCY.out⟩⟩)
     clear e
     by_cases ec:cap=1
     ·obtain rfl:xs=[]:=List.eq_nil_of_length_eq_zero (by omega)
      subst ec
      go_wp2
      go_quiet (fail)
      go_wp2
      go_quiet (fail)
      go_wp2
      go_roundw
      case rel=>exact⟨⟨[],y::ys,Sl.empty _ _,HYY.out,Rises.nil,RY.out,HM.out,by simp,ly,fun A n c h=>by cases h;omega,fun A n c h=>by cases h;exact ky⟩,_,rfl⟩
      case measure=>simp[slen]
     ·have HXX:=lhi (Sl.tail (cap:=cap) HCX.out (by omega))
      have hcc:1<cap:=by omega
      go_wp2
      go_quiet (fail)
      go_wp2
      go_quiet (fail)
      go_wp2
      go_roundw
      case rel=>exact⟨⟨xs,y::ys,HXX.out,HYY.out,HR.out,RY.out,HM.out,by omega,ly,fun A n c h=>by cases h;omega,fun A n c h=>by cases h;exact ky⟩,_,rfl⟩
      case measure=>simp[slen]
    ·have e3:y<x:=by omega
     have HM:=lhi (show meetB (x::xs) ys=meetB us vs by rw[<-HM.out,meetB_right e3 RX.out])
     have HR:=lhi (List.pairwise_cons.1 RY.out).2
     have HXX:=lhi (show Sl w 1 (.slice (some ⟨g,off,none⟩) (xs.length+1) cap) (x::xs).length ((x::xs).map (Value.int .i64))from⟨by simp,_,_,rfl,hc,fun _=>⟨g,off,rfl,HCX.out⟩⟩)
     clear e e3
     by_cases ec:cap'=1
     ·obtain rfl:ys=[]:=List.eq_nil_of_length_eq_zero (by omega)
      subst ec
      go_wp2
      go_quiet (fail)
      go_wp2
      go_quiet (fail)
      go_wp2
      go_roundw
      case rel=>exact⟨⟨x::xs,[],HXX.out,Sl.empty _ _,RX.out,Rises.nil,HM.out,lx,by simp,fun A n c h=>by cases h;exact kx,fun A n c h=>by cases h;omega⟩,_,rfl⟩
      case measure=>simp[slen]
     ·have HYY:=lhi (Sl.tail (cap:=cap') HCY.out (by omega))
      have hcc:1<cap':=by omega
      go_wp2
      go_quiet (fail)
      go_wp2
      go_quiet (fail)
      go_wp2
      go_roundw
      case rel=>exact⟨⟨x::xs,ys,HXX.out,HYY.out,RX.out,HR.out,HM.out,lx,by omega,fun A n c h=>by cases h;exact kx,fun A n c h=>by cases h;omega⟩,_,rfl⟩
      case measure=>simp[slen]
end
end Go.Proofs.YtkebjgebkneijaaGreat
