/- Tables, part thirty-six: a writer of any size. Conditions: numbers of 64 bits; not too many bytes. -/
import Derived.Test.YtbfailbgdnpaiaaGreatDoorX9
import Derived.Test.YtbfailbgdnpaiaaGreatDoorX7
import Derived.Test.YtbfailbgdnpaiaaGreatDoorX3
import Derived.Test.YtbfailbgdnpaiaaGreatDoorX6
import Derived.Test.YtbfailbgdnpaiaaGreatDoorX5
set_option maxRecDepth 20000
set_option maxHeartbeats 8000000
namespace Go.Proofs.YtbfailbgdnpaiaaGreatDoor
open Go Go.Eng Go.RowKit

section
variable {b:World} {F:List SP} {g gw:Nat} {v va:Value} {lim:Int} {s:WS}
theorem Da {X:Value} {p:Bool × List Int} (hf:∀ G,Ent G F→SC Tryz.prog pb [.slice none 0 0,X] b (rB (.slice none 0 0) []::G) (fun u F'=>∃ r,u = .tuple ⟨[r,.bool p.1]⟩∧F'=rB r p.2::G))
  (hl:lim≤67108864) (hs:(s.b.length:Int)≤lim) (hp:p.2.length≤40000000) :
  SC Tryz.prog iB [pp g,X] b (wtP g gw v lim s++F) (fun u F'=>∃ v',u=ii (me lim p s).e∧F'=wtP g gw v' lim (me lim p s)++F):=by
 refine ao Tryz.func109 Z Z Z <| anf <| ae Z <| ane <| ac <| anf <| ae Z <| au Z Z Z (H7) <| ane <| ai Z <| ah <| ab <| ac <| anf <| apo Z Z Z <| ba 0 Z Z Z <| au Z Z Z (gN.at (af 3 [1,0,2] Z) (af 3 [1,0,2] Z)) <| ae Z <| ane ?_;by_cases h1:s.e≠0
 ·have hw:me lim p s=s:=by unfold me;rw [if_pos h1]
  refine sm 14 (.bool false) Z (by rw [ap5 h1];rfl) ?_;refine ai Z <| ah <| ab <| anf <| apo Z Z Z <| ba 0 Z Z Z <| apo Z Z Z <| ba 1 Z Z Z <| ae Z <| ane <| aj <| bh Z Z av ?_;exact ⟨v,by rw [hw];rfl,by rw [hw]⟩
 have h1':s.e=0:=by simpa using h1
 refine sm 14 (.bool true) Z (by rw [aqo h1];rfl) ?_;refine ar Z <| anf <| ae Z <| eg (de im 1 Z) <| am Z Z Z (hf _ (af 3 [] Z)) ?_;rintro _ _ ⟨r,rfl,rfl⟩
 (iterate 5 refine ae Z ?_)
 refine ane <| ak <| anf <| apo Z Z Z <| ane ?_;by_cases h2:p.1=false
 ·have hw:me lim p s=⟨s.b,3⟩:=by unfold me;rw [if_neg h1,if_pos h2]
  rw [h2];refine ar Z <| aa <| apo Z Z Z <| ba 1 Z Z Z <| am Z Z Z ((te).ent (af 4 [2,1,3] Z)) ?_;rintro _ _ rfl;refine ad <| bg <| ab <| anf <| apo Z Z Z <| ba 1 Z Z Z <| apo Z Z Z <| ba 0 Z Z Z <| ae Z <| ane <| aj ?_;rw [if_pos h1'];refine bh Z Z (af 3 [1,0,2] Z) ?_;exact ⟨v,by rw [hw];rfl,by rw [hw,if_pos h1'];rfl⟩
 have h2':p.1=true:=by simpa using h2
 rw [h2'];refine bu (fun w H=>(H.oat (k:=0) Z).form) ?_;rintro ⟨A,c,rfl,hc1,hc2,hc3⟩;refine bu (fun w H=>(H.oat (k:=3) Z).form) ?_;rintro ⟨A2,c2,rfl,_,_,_⟩;refine ai Z <| ac <| cq flo _ (by decide +kernel) av <| bj Z Zl <| bj Z Zl <| bj Z Zl <| cd 1 Z Z Z Z <| bj Z Zl <| bj Z Zl <| bj Z Zl <| dx Z Z <| bj Z Zl <| bj Z Zl <| bj Z Zl <| cd 1 Z Z Z Z <| bj Z Zl <| bj Z Zl <| ap <| ab ?_;refine cj Z (fun h3=> ?_) (fun h3=> ?_)
 ·have hw:me lim p s=⟨s.b,4⟩:=by unfold me;rw [if_neg h1,if_neg h2,if_pos (by omega)]
  refine aa <| apo Z Z Z <| ba 1 Z Z Z <| am Z Z Z ((te).ent (af 4 [2,1,3] Z)) ?_;rintro _ _ rfl;refine ad <| bg <| ab <| anf <| apo Z Z Z <| ba 1 Z Z Z <| apo Z Z Z <| ba 0 Z Z Z <| ae Z <| ane <| aj ?_;rw [if_pos h1'];refine bh Z Z (af 3 [1,0,2] Z) ?_;exact ⟨_,by rw [hw];rfl,by rw [hw,if_pos h1'];rfl⟩
 ·have hw:me lim p s=⟨s.b++p.2,0⟩:=by unfold me;rw [if_neg h1,if_neg h2,if_neg (by omega)]
  refine aa <| apo Z Z Z <| ae Z <| ba 1 Z Z Z <| ae Z <| ef 3 Z Z Z Z Z Z Z Z Z (vlB (l:=p.2) (k:=0) Z) (ec _) (by omega) (fun _=>rfl) fun r'=> ?_;refine eg (td (l:=s.b++p.2) 3 Z (by simp) (by simp) Z) ?_;refine b6 (fun w H=>(H.oat (k:=3) Z).form) ?_;rintro ⟨A3,c3,rfl,_,_,_⟩;refine apn Z Z <| cg 1 Z Z Z Z <| ad <| bg <| ab <| anf <| apo Z Z Z <| ba 1 Z Z Z <| apo Z Z Z <| ba 2 Z Z Z <| ae Z <| ane <| aj <| bh Z Z (af 4 [1,2,3] Z) ?_;exact ⟨_,by rw [hw,h1'];rfl,by rw [hw,h1'];rfl⟩
theorem fR {n:Int} (hn:I64 n) (hl:lim≤67108864) (hs:(s.b.length:Int)≤lim) :
  SC Tryz.prog gW [pp g,ii n] b (wtP g gw v lim s++F) (fun _ F'=>∃ v',F'=wtP g gw v' lim (me lim (mm n) s)++F):=by
 have h9:=kp n;refine ao Tryz.func43 Z Z Z <| anf <| ae Z <| aby <| apo Z Z Z ?_;refine am Z Z Z (Da (p:=mm n) (fun G _=>lK hn (by simp)) hl hs (by simp only [mm];omega)) ?_;rintro _ _ ⟨v',rfl,rfl⟩;refine ae Z <| ane <| aj <| bh Z Z av ?_;exact ⟨v',rfl⟩
theorem aaw {r n:Int} (hr:I64 r) (hn:I64 n) (hl:lim≤67108864) (hs:(s.b.length:Int)≤lim) :
  SC Tryz.prog iF [pp g,qn r n] b (wtP g gw v lim s++F) (fun _ F'=>∃ v',F'=wtP g gw v' lim (me lim (pM r n) s)++F):=by
 have h9:=kp n;have h9r:=kp r;refine ao Tryz.func164 Z Z Z <| anf <| br Z Z Z Z Z fun g3=>ae Z <| aby <| ae Z <| ba 0 Z Z Z <| ae Z ?_
 refine am Z Z Z ((Da (F:=pt g3 t_api_Dot [ii r,ii n]::F) (p:=pM r n) (fun G _=>Tq hr hn (by simp)) hl hs (by simp only [pM,aps];omega)).ent (af 4 [1,2,3,0] Z)) ?_;rintro _ _ ⟨v',rfl,rfl⟩;refine ae Z <| ane <| aj <| bh Z Z (af 4 [0,1,2] Z) ?_;exact ⟨v',rfl⟩
theorem X5 {l:List Int} (h:l.length=32) (hl:lim≤67108864) (hs:(s.b.length:Int)≤lim) :
  SC Tryz.prog jI [pp g,idV l] b (wtP g gw v lim s++F) (fun _ F'=>∃ v',F'=wtP g gw v' lim (me lim (pID l) s)++F):=by
 refine ao Tryz.func44 Z Z Z <| anf <| br Z Z Z Z Z fun g3=>ae Z <| aby <| ae Z <| b7 0 Z Z Z Z Z Z (ek h) Z <| ae Z ?_
 refine am Z Z Z ((Da (F:=pt g3 t_api_ID (u8s l)::F) (p:=pID l) (fun G _=>Om h (by simp)) hl hs (by simp only [pID];omega)).ent (af 4 [1,2,3,0] Z)) ?_;rintro _ _ ⟨v',rfl,rfl⟩;refine ae Z <| ane <| aj <| bh Z Z (af 4 [0,1,2] Z) ?_;exact ⟨v',rfl⟩
theorem qH {t:ByteArray} (ht:t.size≤1000000) (hl:lim≤67108864) (hs:(s.b.length:Int)≤lim) :
  SC Tryz.prog eA [pp g,.string t] b (wtP g gw v lim s++F) (fun _ F'=>∃ v',F'=wtP g gw v' lim (me lim (ny (dz t)) s)++F):=by
 have h9:=kp t.size;have hsz:=lz t;refine ao Tryz.func45 Z Z Z <| anf <| ae Z <| aby <| apo Z Z Z ?_;refine am Z Z Z (Da (p:=ny (dz t)) (fun G _=>(Tp ht (by simp)).mono fun _ _ ⟨r,h1,h2⟩=>⟨r,h1,by rw [h2];simp only [ny,hsz,arb]⟩) hl hs (by simp only [ny,aps,hsz];omega)) ?_;rintro _ _ ⟨v',rfl,rfl⟩;refine ae Z <| ane <| aj <| bh Z Z av ?_;exact ⟨v',rfl⟩
theorem aax {vx:Value} {xs:List Int} (ha:∀ w,Sat b F w→VL (Value.int .i64) w vx xs) (hx:∀ x∈xs,I64 x) (hn:xs.length≤1000000) (hl:lim≤67108864) (hs:(s.b.length:Int)≤lim) :
  SC Tryz.prog bQ [pp g,vx] b (wtP g gw v lim s++F) (fun _ F'=>∃ v',F'=wtP g gw v' lim (me lim (pO xs) s)++F):=by
 have h9:=kp xs.length;have hf:=Xo xs;refine ao Tryz.func75 Z Z Z <| anf <| ae Z <| aby <| apo Z Z Z ?_;refine am Z Z Z (Da (p:=pO xs) (fun G hG=>(Ts (bs:= []) (up ha hG) hx hn (aqc _)).mono fun _ _ ⟨r,h1,h2⟩=>⟨r,h1,h2.trans (by rw [arb])⟩) hl hs (by simp only [pO,aps];omega)) ?_;rintro _ _ ⟨v',rfl,rfl⟩;refine ae Z <| ane <| aj <| bh Z Z av ?_;exact ⟨v',rfl⟩
end
open Go.WideMaps Go.Heap

section
variable {l:List Ev} {m:Nat} {V:List Int} {out:List Ev} {t:Tb}
end
theorem Gq {w:World} {t:Tb} (h:TR w t):∀ u∈tbC t,u.oneCell'=true:=fun u hu=>by
 obtain ⟨A,c,h1,_⟩:=h.v.form;obtain ⟨A2,c2,h2,_⟩:=ci h.r;simp only [tbC,ap1,arj,or_false] at hu;rcases hu with rfl | rfl
 ·rw [h1];rfl
 ·rw [h2];rfl

def hdP (h:Hd):List (Bool × List Int):= [pM h.d.1 h.d.2,pID h.id]
def hsP (l:List Hd):List (Bool × List Int):=mm l.length::l.flatMap hdP
def tgP (g:TG):List (Bool × List Int):=ny (dz g.nm)::hsP g.hs
def rpQ (r:RP):List (Bool × List Int):=ny (dz r.nm)::mm r.ts.length::(r.ts.flatMap tgP++hsP r.ms)
def tbQ (t:TB):List (Bool × List Int):=pO t.V::mm t.rs.length::t.rs.flatMap rpQ
theorem yh {lim:Int}:∀ {l:List (Bool × List Int)} {s:WS},(s.b.length:Int)≤lim→((ml lim l s).b.length:Int)≤lim
 | [], _, h => h
 | _ :: l, _, h => yh (l := l) (jp h)
section
variable {b:World} {F:List SP} {g gw:Nat} {v:Value} {lim:Int} {s:WS}
theorem Iy {vh:Value} {hs:List Hd} (hk:∀ h∈hs,dJ h) (hn:hs.length≤1000) (hh:∀ w,Sat b F w→SL w 34 vh hs.length (zm hs)) (hl:lim≤67108864) (hb:(s.b.length:Int)≤lim) :
  SC Tryz.prog vH [pp g,vh] b (wtP g gw v lim s++F) (fun _ F'=>∃ v',F'=wtP g gw v' lim (ml lim (hsP hs) s)++F):=by
 have hz:∀ h∈hs,(hdC h).length=34:=fun h hh=>mq (hk h hh).id.1
 refine ao Tryz.func76 Z Z Z <| bu (fun w H=>ci (hh w (H.ent (af 3 [] Z)))) ?_;rintro ⟨A,c,rfl,_,_,_,h4,_⟩;refine anf <| apo Z Z Z ?_;refine am Z Z Z (fR (n:=(hs.length:Int)) (by unfold I64;omega) hl hb) ?_;rintro _ _ ⟨v1,rfl⟩;have hb1:=jp (p:=mm hs.length) hb;refine aby <| apo Z Z Z <| ane <| ak <| d6 (S:=Nat × Value) (fun q=> [(0,pp g),(10,.slice A hs.length c),(11,ii hs.length),(12,ii q.1)]) (fun q=>wtP g gw q.2 lim (ml lim (mm hs.length::(hs.take q.1).flatMap hdP) s)++F) (fun q=>q.1≤hs.length) (fun q=>hs.length - q.1) (0,v1) av (aqc _) ?_;rintro ⟨i,v2⟩ hi;dsimp only at hi ⊢;have hb2:=yh (l:=mm hs.length::(hs.take i).flatMap hdP) hb;refine anf <| ae Z <| ane <| ac ?_;refine cj Z (fun h1=> ?_) (fun h1=> ?_)
 ·have h1':i<hs.length:=by omega
  obtain ⟨gg,oo,rfl⟩:=h4 (by omega);have hc:∀ w,Sat b F w→∀ j,j<34→w.cell? ⟨gg,oo+i*34+j,none⟩=(hdC hs[i])[j]?:=fun w H j hj=>ej (hh w H) hz h1' hj
  have hsn:hs.take (i+1)=hs.take i ++ [hs[i]]:=apz h1';have hx:=hk _ (apw h1');generalize hs[i]=x at *;have xl:=mq hx.id.1;refine ah <| ab <| ac <| ak <| anf <| ay Z ?_;refine fc Z (fun w H=>di (cs:=hdC x) Z Z Z xl (fun j hj=>by rw [b5,apu];exact hc w (H.ent (af 3 [] Z)) j (by rw [xl] at hj;exact hj))) Z ?_;refine bq Z Z Z Z Z fun g5=> ?_;refine eh 0 Z Z Z Z Z Z Z xl (tm x) (by rw [xl];rfl) ?_;refine aby <| apn Z Z <| b7 0 Z Z Z Z Z Z (C0 x) Z <| am Z Z Z ((aaw (F:=pt g5 t_api_Held (hdC x)::F) (Gc hx.d.1) (Gc hx.d.2) hl hb2).ent (af 4 [1,2,3,0] Z)) ?_;rintro _ _ ⟨v3,rfl⟩;have hb3:=jp (p:=pM x.d.1 x.d.2) hb2;refine ane <| aa <| apn Z Z <| b7 3 Z Z Z Z Z Z (uD hx.id.1) Z <| am Z Z Z (X5 (F:=pt g5 t_api_Held (hdC x)::F) hx.id.1 hl hb3) ?_;rintro _ _ ⟨v4,rfl⟩;refine ad <| bg <| ab <| aa <| ay Z <| ae Z <| ad ?_;rw [show (i:Int)+1=((i+1:Nat):Int) by omega];refine dj (i+1,v4) ?_ (show i+1≤_ by omega);have e1:ml lim (mm hs.length::(hs.take (i+1)).flatMap hdP) s=me lim (pID x.id) (me lim (pM x.d.1 x.d.2) (ml lim (mm hs.length::(hs.take i).flatMap hdP) s)):=by
   rw [hsn,arq,← aq2,xj];rfl
  dsimp only;rw [e1];exact af 4 [0,1,2] Z
 ·obtain rfl:i=hs.length:=by omega
  rw [aqk];refine b8 <| aw <| ax <| aq <| io Z .nil av ?_;exact ⟨v2,rfl⟩
abbrev enS (l:List (Bool × List Int)):WS:=ml 67108864 l ⟨[],0⟩
theorem nQ (l:List (Bool × List Int)):((enS l).b.length:Int)≤67108864:=yh (by decide)
theorem lT (l:List (Bool × List Int)) (p:Bool × List Int):me 67108864 p (enS l)=enS (l ++ [p]):=by
 rw [enS,enS,xj];rfl
theorem Iz (l m:List (Bool × List Int)):ml 67108864 m (enS l)=enS (l++m):=(xj _ _ _ _).symm
def Db (t:TB) (l:List RP):List (Bool × List Int):= [pO t.V,mm t.rs.length]++l.flatMap rpQ
theorem I0 {s:ByteArray} (h:s.size≤1000):s.size≤1000000:=by omega
theorem Py {t:Tb} (hk:TK t) (hT:∀ w,Sat b F w→TR w t) (hsz:(enS (tbQ t.pl)).b.length≤1000000):SC Tryz.prog rT [tbV t] b F (fun u F'=>∃ r,u = .tuple ⟨[r,ii (aZ (enS (tbQ t.pl))).2]⟩∧F'=rB r (aZ (enS (tbQ t.pl))).1::F):=by
 have hW:=hk.w;have hrn:=hW.rn;have hvn:=hW.vn;have hvo:∀ x∈t.V,0≤x∧x≤1048576:=hk.k.vo;refine ao Tryz.func22 Z Z Z <| bu (fun w H=>ci (hT w H).r) ?_;rintro ⟨A,c,hrv,_,_,_,h4,_⟩;refine anf <| br Z Z Z Z Z fun g1=>apn Z Z <| ane <| ac <| anf <| ba 0 Z Z Z ?_
 have hT1:∀ w,Sat b (pt g1 bt (tbC t)::F) w→TR w t:=up hT (af 1 [] Z);refine au (v:=ii 0) Z Z Z (uE hk hT1) <| ae Z <| aby <| apn Z Z <| ane <| ai Z <| ah <| ab <| anf <| am Z Z Z (oN (lim:=67108864) (by decide) (by decide)) ?_;rintro _ _ ⟨g,gw,rfl,rfl⟩
 (iterate 5 refine ae Z ?_)
 refine aby <| apn Z Z <| ba 3 Z Z Z ?_;refine am Z Z Z (aax (xs:=t.V) (up (fun w H=>(hT1 w H).v) av) (fun x hx=>by have:=hvo x hx;unfold I64;omega) (by omega) (by decide) (by decide)) ?_;rintro _ _ ⟨v1,rfl⟩;refine aby <| apn Z Z <| ba 3 Z Z Z <| bn 26 (.slice A t.rs.length c) Z hrv <| ae Z ?_;have hq1:me 67108864 (pO t.V) ⟨[],0⟩=enS [pO t.V]:=rfl;rw [hq1];refine am Z Z Z (fR (n:=(t.rs.length:Int)) (by unfold I64;omega) (by decide) (nQ _)) ?_;rintro _ _ ⟨v2,rfl⟩;rw [lT];refine ane <| ac <| anf <| ae Z <| ba 3 Z Z Z <| bn 30 (.slice A t.rs.length c) Z hrv <| apn Z Z <| ane <| ak ?_;refine d6 (S:=Nat × Value) (fun q=> [(5,pp g),(30,.slice A t.rs.length c),(31,ii t.rs.length),(32,ii q.1)]) (fun q=>wtP g gw q.2 67108864 (enS (Db t.pl ((t.rs.take q.1).map Rp.pl)))++pt g1 bt (tbC t)::F) (fun q=>q.1≤t.rs.length) (fun q=>t.rs.length - q.1) (0,v2) ?_ (aqc _) ?_
 ·have e1:t.pl.rs.length=t.rs.length:=ap9 _;show Ent _ (wtP g gw v2 67108864 (enS (Db t.pl []))++_);rw [Db,e1];exact Ent.refl _
 rintro ⟨i,v3⟩ hi;dsimp only at hi ⊢;have hb3:=nQ (Db t.pl ((t.rs.take i).map Rp.pl));generalize hsi:Db t.pl ((t.rs.take i).map Rp.pl)=S0 at *;refine anf <| ae Z <| ane <| ac ?_;refine cj Z (fun h1=> ?_) (fun h1=> ?_)
 ·have h1':i<t.rs.length:=by omega
  obtain ⟨gg,oo,rfl⟩:=h4 (by omega);have hrm:=apw h1';have hcr:∀ w,Sat b F w→∀ j,j<3→w.cell? ⟨gg,oo+i*3+j,none⟩=(rpC t.rs[i])[j]?:=fun w H j hj=>ej (f:=rpC) (by have:=(hT w H).r;rwa [hrv] at this) (fun _ _=>rfl) h1' hj
  have hrr:∀ w,Sat b F w→RR w t.rs[i]:=fun w H=>(hT w H).rr _ hrm
  have hrw:=hW.rw _ hrm;have hsn:t.rs.take (i+1)=t.rs.take i ++ [t.rs[i]]:=apz h1';have hnext:Db t.pl ((t.rs.take (i+1)).map Rp.pl)=S0++rpQ t.rs[i].pl:=by
   rw [← hsi,hsn,aqa,Db,Db,arq,ap0];simp
  generalize t.rs[i]=r at *;have htn:=hrw.tn;have hmn:=hrw.mn;refine bu (fun w H=>ci (hrr w (H.ent (af 4 [] Z))).t) ?_;rintro ⟨A3,c3,htv,_,_,_,q4,_⟩;refine bu (fun w H=>(hrr w (H.ent (af 4 [] Z))).one) fun hone=> ?_;refine ah <| ab <| ac <| ak <| anf <| ay Z ?_;refine fc Z (fun w H=>di (cs:=rpC r) Z Z Z Z (fun j hj=>by rw [b5,apu];exact hcr w (H.ent (af 4 [] Z)) j hj)) Z ?_;refine bq Z Z Z Z Z fun g8=> ?_;refine eh 0 Z Z Z Z Z Z Z Z hone Z <| aby <| apn Z Z <| ba 0 Z Z Z <| am Z Z Z ((qH (F:=pt g8 bm (rpC r)::pt g1 bt (tbC t)::F) (t:=r.nm) (I0 hrw.ns) (by decide) hb3).ent (af 5 [1,2,3,0,4] Z)) ?_;rintro _ _ ⟨v4,rfl⟩;rw [lT];refine aby <| apn Z Z <| ba 3 Z Z Z <| bn 42 (.slice A3 r.ts.length c3) Z htv <| ae Z ?_;refine am Z Z Z (fR (n:=(r.ts.length:Int)) (by unfold I64;omega) (by decide) (nQ _)) ?_;rintro _ _ ⟨v5,rfl⟩;rw [lT];refine ane <| ac <| anf <| ae Z <| ba 3 Z Z Z <| bn 46 (.slice A3 r.ts.length c3) Z htv <| apn Z Z <| ane <| ak ?_;refine d6 (S:=Nat × Value) (fun q=> [(5,pp g),(8,pp g8),(30,.slice (some ⟨gg,oo,none⟩) t.rs.length c),(31,ii t.rs.length),(32,ii i),(46,.slice A3 r.ts.length c3),(47,ii r.ts.length),(48,ii q.1)]) (fun q=>wtP g gw q.2 67108864 (enS (S0 ++ [ny (dz r.nm)] ++ [mm r.ts.length]++((r.ts.take q.1).map Tg.pl).flatMap tgP))++pt g8 bm (rpC r)::pt g1 bt (tbC t)::F) (fun q=>q.1≤r.ts.length) (fun q=>r.ts.length - q.1) (0,v5) ?_ (aqc _) ?_
  ·rw [ar1,as9,List.flatMap_nil,aqg];exact Ent.refl _
  rintro ⟨j,v6⟩ hj;dsimp only at hj ⊢;generalize hsj:S0 ++ [ny (dz r.nm)] ++ [mm r.ts.length]++((r.ts.take j).map Tg.pl).flatMap tgP=S1 at *;refine anf <| ae Z <| ane <| ac ?_;refine cj Z (fun h2=> ?_) (fun h2=> ?_)
  ·have h2':j<r.ts.length:=by omega
   obtain ⟨gt,ot,rfl⟩:=q4 (by omega);have hgm:=apw h2';have hct:∀ w,Sat b F w→∀ k,k<2→w.cell? ⟨gt,ot+j*2+k,none⟩=(tgC r.ts[j])[k]?:=fun w H k hk=>ej (f:=tgC) (by have:=(hrr w H).t;rwa [htv] at this) (fun _ _=>rfl) h2' hk
   have hgr:∀ w,Sat b F w→SL w 34 r.ts[j].hv r.ts[j].hs.length (zm r.ts[j].hs):=fun w H=>(hrr w H).g _ hgm
   have hgn:=hrw.gn _ hgm;have hgh:=hrw.gh _ hgm;have hgs:=hrw.gs _ hgm;have hsn2:r.ts.take (j+1)=r.ts.take j ++ [r.ts[j]]:=apz h2';have hnx:S0 ++ [ny (dz r.nm)] ++ [mm r.ts.length]++((r.ts.take (j+1)).map Tg.pl).flatMap tgP=S1++tgP r.ts[j].pl:=by
    rw [← hsj,hsn2,aqa,arq];simp [ap0]
   generalize r.ts[j]=y at *;refine bu (fun w H=>zA (hgr w (H.ent (af 5 [] Z)))) fun hone2=> ?_;refine ah <| ab <| ac <| ak <| anf <| ay Z ?_;refine fc Z (fun w H=>di (cs:=tgC y) Z Z Z Z (fun k hk=>by rw [b5,apu];exact hct w (H.ent (af 5 [] Z)) k hk)) Z ?_;refine bq Z Z Z Z Z fun g10=> ?_;refine eh 0 Z Z Z Z Z Z Z Z hone2 Z <| aby <| apn Z Z <| ba 0 Z Z Z <| am Z Z Z ((qH (F:=pt g10 dw (tgC y)::pt g8 bm (rpC r)::pt g1 bt (tbC t)::F) (t:=y.nm) (I0 hgs) (by decide) (nQ S1)).ent (af 6 [1,2,3,0,4,5] Z)) ?_;rintro _ _ ⟨v7,rfl⟩;rw [lT];refine ane <| aa <| apn Z Z <| ba 3 Z Z Z <| am Z Z Z (Iy (hs:=y.hs) hgh hgn (fun w H=>hgr w (H.ent (af 3 [] Z))) (by decide) (nQ _)) ?_;rintro _ _ ⟨v8,rfl⟩;rw [Iz];refine ad <| bg <| ab <| aa <| ay Z <| ae Z <| ad ?_;rw [show (j:Int)+1=((j+1:Nat):Int) by omega];refine dj (j+1,v8) ?_ (show j+1≤_ by omega);dsimp only;rw [hnx];have e1:S1 ++ [ny (dz y.nm)]++hsP y.hs=S1++tgP y.pl:=by rw [ap0];rfl
   rw [e1];exact af 6 [0,1,2,4,5] Z
  ·obtain rfl:j=r.ts.length:=by omega
   rw [aqk] at hsj;refine b8 <| aw <| ax <| aq <| ab <| aa <| apn Z Z <| ba 3 Z Z Z <| am Z Z Z (Iy (hs:=r.ms) hrw.mh hmn (fun w H=>(hrr w (H.ent (af 2 [] Z))).m) (by decide) (nQ S1)) ?_;rintro _ _ ⟨v8,rfl⟩;rw [Iz];refine ad <| bg <| ab <| aa <| ay Z <| ae Z <| ad ?_;rw [show (i:Int)+1=((i+1:Nat):Int) by omega];refine dj (i+1,v8) ?_ (show i+1≤_ by omega);dsimp only;rw [hnext];have e1:S1++hsP r.ms=S0++rpQ r.pl:=by
    rw [← hsj];have e2:r.pl.ts.length=r.ts.length:=ap9 _;unfold rpQ;rw [e2];simp [ap0,Rp.pl]
   rw [e1];exact af 5 [0,1,2,4] Z
 ·obtain rfl:i=t.rs.length:=by omega
  rw [aqk] at hsi;have hfin:S0=tbQ t.pl:=by rw [← hsi];rfl
  refine b8 <| aw <| ax <| aq <| ab <| anf <| ae Z ?_;rw [hfin];refine am Z Z Z (H8 (s:=enS (tbQ t.pl)) hsz) ?_;rintro _ _ ⟨r,rfl,rfl⟩;refine apo Z Z Z <| ae Z <| ane <| aj <| fb Z Z Z (af 2 [0] Z) ?_;exact ⟨r,rfl,rfl⟩
end

theorem Pz (k0:Nat) {a:Dc} (h:a.id.length=32) (w:World):(Op.equalIn (k0+1+1+1) t_api_Desc (.agg ⟨dcC a⟩) (.agg ⟨dcC a⟩)).run Tryz.prog w = .ok true w:=by
 have hS:Tryz.prog.underlying t_api_Desc=some (.struct (Tryz.prog.fieldsOf t_api_Desc)):=by kernel_rfl
 have hp:Tryz.prog.stoodInHeld t_api_Desc=false:=by kernel_rfl
 have hf : ∃ f g k l : Field, (Tryz.prog.fieldsOf t_api_Desc).toList = [f, g, k, l] ∧ f.name ≠ "_" ∧ g.name ≠ "_" ∧ k.name ≠ "_" ∧ l.name ≠ "_" ∧ f.type = fp ∧ g.type = t_api_ID ∧ k.type = fp ∧ l.type = ko ∧ f.offset = 0 ∧ g.offset = 1 ∧ k.offset = 33 ∧ l.offset = 34 :=
  ⟨_,_,_,_,rfl,by decide,by decide,by decide,by decide,rfl,rfl,rfl,rfl,rfl,rfl,rfl,rfl⟩
 obtain ⟨f,g,k,l,h1,n1,n2,n3,n4,t1,t2,t3,t4,o1,o2,o3,o4⟩:=hf;have ui:Tryz.prog.underlying fp=some (.int .i64):=by kernel_rfl
 have us:Tryz.prog.underlying ko=some .string:=by kernel_rfl
 rw [run_equalIn_struct w (k0+1+1) t_api_Desc _ _ hS hp,h1];obtain ⟨e,i,ua,_,_,_⟩:=(inferInstance:ArrI Tryz.prog t_api_ID 32 .u8).ex;have sa:(sizeOf t_api_ID).run Tryz.prog w = .ok 32 w:=TT.run_size (P:=Tryz.prog) (t:=t_api_ID) Z w;have hl:=d8 h;have e3:(⟨dcC a⟩:Array Value)[33]? = some (ii a.size):=by simp [dcC,h]
 have e4:(⟨dcC a⟩:Array Value)[34]? = some (.string a.plat):=by simp [dcC,h]
 have p0:(part fp ⟨dcC a⟩ 0).run Tryz.prog w = .ok (ii a.media) w:=by simp [part,isAgg,run_underlying ui,dcC]
 have p1:(part t_api_ID ⟨dcC a⟩ 1).run Tryz.prog w = .ok (idV a.id) w:=by
  simp [part,isAgg,run_underlying ua,sa];simp [dcC,h]
 have p2:(part fp ⟨dcC a⟩ 33).run Tryz.prog w = .ok (ii a.size) w:=by simp [part,isAgg,run_underlying ui,e3]
 have p3:(part ko ⟨dcC a⟩ 34).run Tryz.prog w = .ok (.string a.plat) w:=by simp [part,isAgg,run_underlying us,e4]
 have q0:∀ x:Int,(Op.equalIn (k0+1+1) fp (ii x) (ii x)).run Tryz.prog w = .ok true w:=fun x=>by rw [run_equalIn_int w (k0+1) fp .i64 .i64 _ _ ui,beq_self_eq_true]
 have q1:=alw (P:=Tryz.prog) (t:=t_api_ID) k0 h w;have q3:(Op.equalIn (k0+1+1) ko (.string a.plat) (.string a.plat)).run Tryz.prog w = .ok true w:=by
  simp [Op.equalIn,run_underlying us];show (a.plat.data == a.plat.data)=true;exact beq_self_eq_true _
 clear hS hp ua sa hl e3 e4 ui us;rw [bD n1 (by rw [t1,o1];exact p0) (by rw [t1,o1];exact p0) (by rw [t1];exact q0 _),bD n2 (by rw [t2,o2];exact p1) (by rw [t2,o2];exact p1) (by rw [t2];exact q1),bD n3 (by rw [t3,o3];exact p2) (by rw [t3,o3];exact p2) (by rw [t3];exact q0 _),bD n4 (by rw [t4,o4];exact p3) (by rw [t4,o4];exact p3) (by rw [t4];exact q3)]
 rfl
theorem zE {a:Dc} (h:a.id.length=32) (w:World):(Op.equalIn 10000 t_api_Desc (.agg ⟨dcC a⟩) (.agg ⟨dcC a⟩)).run Tryz.prog w = .ok true w:=Pz 9997 h w
instance:EqT Tryz.prog t_api_Desc:=⟨by kernel_rfl⟩

section
variable {b:World} {F:List SP} {m:Mf} {lv sv:Value} {d:Dc}
theorem Lg (hc:m.cfg0.id.length=32) (hk:m.kind=3) (hs:m.subs.length=0) (hm:∀ w,Sat b F w→MR w m lv sv):SC Tryz.prog zb [.agg ⟨mfC m lv sv⟩] b F (fun u F'=>u = .bool true∧F'=F):=by
 refine ao Tryz.func37 Z Z Z <| bu (fun w H=>ci (hm w H).s) ?_;rintro ⟨A2,c2,rfl,_⟩;refine anf <| br Z Z Z Z Z fun g1=>ae Z <| ane <| ac <| anf <| ae Z <| ba 0 Z Z Z <| ane <| ak <| anf <| apn Z Z <| ane <| cj Z (fun _=>(anf <| ae Z <| ix 0 Z Z Z Z Z Z (uC hc) Z <| apo Z Z Z <| ane <| aj <| az <| al <| bh Z Z (af 1 [] Z) ?_)) (fun h=>absurd hk h)
 exact ⟨ap2 Value.bool (ap5 (by omega)),rfl⟩
theorem Lh (hc:m.cfg0=dcZ) (hk:m.kind=4) (hs:m.layers.length=0) (hm:∀ w,Sat b F w→MR w m lv sv):SC Tryz.prog zb [.agg ⟨mfC m lv sv⟩] b F (fun u F'=>u = .bool true∧F'=F):=by
 have hc32:m.cfg0.id.length=32:=by rw [hc];rfl
 refine ao Tryz.func37 Z Z Z <| bu (fun w H=>ci (hm w H).l) ?_;rintro ⟨A2,c2,rfl,_⟩;refine anf <| br Z Z Z Z Z fun g1=>ae Z <| ane <| ac <| anf <| ae Z <| ba 0 Z Z Z <| ane <| ak <| anf <| apn Z Z <| ane <| cj Z (fun h=>absurd h (by omega)) (fun _=>anf <| apn Z Z <| ane <| cj Z (fun _=>(anf <| ae Z <| ix 0 Z Z Z Z Z Z (oU hc32) Z <| apo Z Z Z <| dR 17 Z <| ae Z <| b7 0 Z Z Z Z Z Z (Cy hc32) Z ?_)) (fun h=>absurd hk h))
 rw [hc];refine ae Z ?_;refine j6 Z (y8 (cy:=⟨dcC dcZ⟩) Z Z (zE (by rfl))) Z ?_;refine apn Z Z <| ane <| aj <| az <| al <| bh Z Z (af 1 [] Z) ?_;exact ⟨rfl,rfl⟩
theorem Li (hd:DcN d):SC Tryz.prog mP [.agg ⟨dcC d⟩] b F (fun u F'=>u = .bool false∧F'=F):=by
 have h1:=hd.m.1;have h2:=hd.s.1;refine ao Tryz.func40 Z Z Z <| anf <| br Z Z Z Z Z fun g1=>ae Z <| aby <| ae Z <| ba 0 Z Z Z <| apn Z Z <| qp 6 Z <| ae Z <| ix 0 Z Z Z Z Z Z (xC hd.id.1) Z <| apo Z Z Z <| ane <| aj <| bh Z Z (af 1 [] Z) ?_
 exact ⟨ap2 Value.bool (aqo (by omega)),rfl⟩
variable {g gw gb gm gd:Nat} {v:Value} {lim:Int} {s:WS}
abbrev wB (gb g:Nat):SP:=pt gb pJ [pp g]
theorem xE (hd:DcN d) (hl:lim≤67108864) (hs:(s.b.length:Int)≤lim):SC Tryz.prog pn [.agg ⟨dcC d⟩,pp gb] b (wtP g gw v lim s++wB gb g::F) (fun _ F'=>∃ v',F'=wtP g gw v' lim (ml lim (dcP d) s)++wB gb g::F):=by
 have hp:=hd.p;refine ao Tryz.func42 Z Z Z <| anf <| br Z Z Z Z Z fun g2=>aby <| ba 4 Z Z Z <| ae Z <| ba 0 Z Z Z ?_
 refine am Z Z Z ((fR (F:=pt g2 t_api_Desc (dcC d)::wB gb g::F) (n:=d.media) (by have:=hd.m;unfold I64;omega) hl hs).ent (af 5 [1,2,3,0,4] Z)) ?_;rintro _ _ ⟨v1,rfl⟩;have hs1:=jp (p:=mm d.media) hs;refine aby <| ba 4 Z Z Z <| ae Z <| b7 3 Z Z Z Z Z Z (Cw hd.id.1) Z <| am Z Z Z (X5 (F:=pt g2 t_api_Desc (dcC d)::wB gb g::F) hd.id.1 hl hs1) ?_;rintro _ _ ⟨v2,rfl⟩;have hs2:=jp (p:=pID d.id) hs1;refine aby <| ba 4 Z Z Z <| ae Z <| ix 3 Z Z Z Z Z Z (xC hd.id.1) Z ?_;refine am Z Z Z (fR (F:=pt g2 t_api_Desc (dcC d)::wB gb g::F) (n:=d.size) (by have:=hd.s;unfold I64;omega) hl hs2) ?_;rintro _ _ ⟨v3,rfl⟩;have hs3:=jp (p:=mm d.size) hs2;refine ane <| aa <| ba 4 Z Z Z <| ae Z <| ix 3 Z Z Z Z Z Z (Pg hd.id.1) Z <| am Z Z Z (qH (F:=pt g2 t_api_Desc (dcC d)::wB gb g::F) (t:=d.plat) (by omega) hl hs3) ?_;rintro _ _ ⟨v4,rfl⟩;refine ad <| io Z .nil (af 5 [0,1,2,4] Z) ?_;exact ⟨v4,rfl⟩
abbrev ecF (gb gm gd g:Nat) (m:Mf) (lv sv:Value) (F:List SP):List SP:=wB gb g::pt gm b9 (mfC m lv sv)::pt gd wq [.func (.func pn) ⟨[]⟩ ⟨[pp gb]⟩]::F
theorem Lj (hl:lim≤67108864) (hs:(s.b.length:Int)≤lim):SC Tryz.prog px [pp gb] b (wtP g gw v lim s++ecF gb gm gd g m lv sv F) (fun _ F'=>∃ v',F'=wtP g gw v' lim (me lim (mm 77) s)++ecF gb gm gd g m lv sv F):=by
 refine ao Tryz.func50 Z Z Z <| aa <| ba 3 Z Z Z ?_;refine am Z Z Z (fR (n:=77) (by unfold I64;omega) hl hs) ?_;rintro _ _ ⟨v1,rfl⟩;refine ad <| io Z .nil av ?_;exact ⟨v1,rfl⟩
theorem Lk (hk:m.kind=3∨m.kind=4) (hl:lim≤67108864) (hs:(s.b.length:Int)≤lim):SC Tryz.prog pz [pp gb,pp gm] b (wtP g gw v lim s++ecF gb gm gd g m lv sv F) (fun _ F'=>∃ v',F'=wtP g gw v' lim (me lim (mm m.kind) s)++ecF gb gm gd g m lv sv F):=by
 refine ao Tryz.func51 Z Z Z <| aa <| ba 3 Z Z Z <| ae Z <| ba 4 Z Z Z ?_;refine am Z Z Z (fR (n:=m.kind) (by unfold I64;omega) hl hs) ?_;rintro _ _ ⟨v1,rfl⟩;refine ad <| io Z .nil av ?_;exact ⟨v1,rfl⟩
theorem Ll (ht:m.title.size≤64) (hl:lim≤67108864) (hs:(s.b.length:Int)≤lim):SC Tryz.prog p5 [pp gb,pp gm] b (wtP g gw v lim s++ecF gb gm gd g m lv sv F) (fun _ F'=>∃ v',F'=wtP g gw v' lim (me lim (ny (dz m.title)) s)++ecF gb gm gd g m lv sv F):=by
 refine ao Tryz.func52 Z Z Z <| aa <| ba 3 Z Z Z <| ae Z <| ba 4 Z Z Z <| am Z Z Z (qH (t:=m.title) (by omega) hl hs) ?_;rintro _ _ ⟨v1,rfl⟩;refine ad <| io Z .nil av ?_;exact ⟨v1,rfl⟩
theorem Lm (hc:DcN m.cfg0) (hl:lim≤67108864) (hs:(s.b.length:Int)≤lim):SC Tryz.prog po [pp gm,pp gd] b (wtP g gw v lim s++ecF gb gm gd g m lv sv F) (fun _ F'=>∃ v',F'=wtP g gw v' lim (ml lim (if m.kind=3 then dcP m.cfg0 else []) s)++ecF gb gm gd g m lv sv F):=by
 refine ao Tryz.func46 Z Z Z <| anf <| ae Z <| ba 4 Z Z Z <| ae Z <| ane ?_;refine cj Z (fun hk=> ?_) (fun hk=> ?_)
 ·rw [if_pos hk];refine aa <| ba 5 Z Z Z <| ae Z <| b7 4 Z Z Z Z Z Z (Cy hc.id.1) Z <| am Z Z Z (xE (gb:=gb) (F:=pt gm b9 (mfC m lv sv)::pt gd wq [.func (.func pn) ⟨[]⟩ ⟨[pp gb]⟩]::F) hc hl hs) ?_;rintro _ _ ⟨v1,rfl⟩;refine ad <| io Z .nil av ?_;exact ⟨v1,rfl⟩
 ·rw [if_neg hk];refine ah <| io Z .nil av ?_;exact ⟨v,rfl⟩
end

section
variable {b:World} {F:List SP} {m:Mf} {lv sv:Value} {d:Dc}
theorem Uu {n:Nat} (hn:n≤1000000):SC Tryz.prog ru [.slice none 0 0,ii n] b F (fun v F'=>F'=rDs v []::F):=by
 refine ao Tryz.func110 Z Z Z <| anf <| ae Z <| ane <| ac <| anf <| apn Z Z <| ane <| ai Z <| ah <| ab <| ac <| anf ?_
 (iterate 5 refine ae Z ?_)
 refine ay Z <| ay Z <| ae Z <| aby <| apn Z Z <| ane ?_;refine cj Z (fun h=> ?_) (fun h=> ?_)
 ·refine aa <| apo Z Z Z <| ay Z <| ae Z ?_;refine bn 21 (ii n) Z (by first | rfl | (congr 1;omega)) ?_;refine Hj (sz:=35) Z Z Z Z Z Z Z Z Z (by omega) (by omega) fun gg c zs=>apn Z Z <| ay Z <| ae Z <| aby <| apn Z Z <| ane <| aj <| bh Z Z (wz (j:=0) (by omega) 0 Z Z) ?_
  rfl
 ·refine ah <| ab <| anf <| apn Z Z <| ane <| aj <| bh Z Z (de t_api_Desc 35 Z) ?_
  rfl
abbrev ccP (gl:Nat) (lv sv:Value):SP:=pt gl vM [lv,sv]
theorem P0 {gl:Nat} (hm:∀ w,Sat b F w→MR w m lv sv) (hn:(m.layers++m.subs).length≤1000000):SC Tryz.prog qf [.slice (some ⟨gl,0,none⟩) 2 2] b (ccP gl lv sv::F) (fun u F'=>F'=rDs u (m.layers++m.subs)::ccP gl lv sv::F):=by
 rw [aps] at hn;refine ao Tryz.func48 Z Z Z <| bu (fun w H=>ci (hm w (H.ent (af 1 [] Z))).l) ?_;rintro ⟨A,c,rfl,_⟩;refine bu (fun w H=>ci (hm w (H.ent (af 1 [] Z))).s) ?_;rintro ⟨A2,c2,rfl,_⟩;refine anf <| ae Z <| aby <| ae Z <| ane <| ac <| anf <| apo Z Z Z <| ane <| ak <| d6 (S:=Nat × Nat) (fun q=> [(0,.slice (some ⟨gl,0,none⟩) 2 2),(2,.slice none 0 0),(9,.slice (some ⟨gl,0,none⟩) 2 2),(10,ii 2),(11,ii q.1),(3,ii q.2)]) (fun _=>ccP gl (.slice A m.layers.length c) (.slice A2 m.subs.length c2)::F) (fun q=>q.1≤2∧q.2=if q.1=0 then 0 else if q.1=1 then m.layers.length else m.layers.length+m.subs.length) (fun q=>2 - q.1) (0,0) av ⟨aqc _,rfl⟩ ?_;rintro ⟨i,n⟩ ⟨hi,hq⟩;dsimp only at hi hq ⊢;have hn2:n≤1000000:=by
  split at hq
  ·omega
  ·split at hq <;> omega
 match i,hi with
 | 0, _ =>
  refine anf <| ae Z <| ane <| ac <| ar Z <| ah <| ab <| ac <| ak <| anf <| ay Z <| ba 0 Z Z Z <| ae Z <| aby <| apo Z Z Z <| ay Z <| ae Z <| aby <| apn Z Z <| ane <| ai Z <| ah <| bg <| ab <| aa <| ay Z <| ae Z <| ad ?_;refine zr (1,n+m.layers.length) ?_ av ?_ ?_
  ·exact ⟨rfl,rfl,rfl,rfl,rfl,rfl,trivial⟩
  ·exact ⟨by dsimp only;omega,by rw [hq];simp⟩
  ·show 2 - 1<2 - 0;decide
 | 1, _ =>
  refine anf <| ae Z <| ane <| ac <| ar Z <| ah <| ab <| ac <| ak <| anf <| ay Z <| ba 0 Z Z Z <| ae Z <| aby <| apo Z Z Z <| ay Z <| ae Z <| aby <| apn Z Z <| ane <| ai Z <| ah <| bg <| ab <| aa <| ay Z <| ae Z <| ad ?_;refine zr (2,n+m.subs.length) ?_ av ?_ ?_
  ·exact ⟨rfl,rfl,rfl,rfl,rfl,rfl,trivial⟩
  ·exact ⟨by dsimp only;omega,by rw [hq];simp⟩
  ·show 2 - 2<2 - 1;decide
 | 2, _ =>
 refine anf <| ae Z <| ane <| ac <| ai Z <| b8 <| aw <| ax <| aq <| ab <| anf <| ae Z <| am Z Z Z (Uu (by omega)) ?_;rintro v0 _ rfl;refine ae Z <| ane <| ac <| anf <| apo Z Z Z <| ane <| ak <| d6 (S:=Nat × Value × List Dc) (fun q=> [(0,.slice (some ⟨gl,0,none⟩) 2 2),(25,.slice (some ⟨gl,0,none⟩) 2 2),(26,ii 2),(27,ii q.1),(6,q.2.1)]) (fun q=>rDs q.2.1 q.2.2::ccP gl (.slice A m.layers.length c) (.slice A2 m.subs.length c2)::F) (fun q=>q.1≤2∧q.2.2=match q.1 with | 0=> [] | 1=>m.layers | _=>m.layers++m.subs) (fun q=>2 - q.1) (0,v0,[]) av ⟨aqc _,rfl⟩ ?_;rintro ⟨i,v1,l⟩ ⟨hi,hl⟩;dsimp only at hi hl ⊢
 match i,hi with
 | 0, _ =>
  have hl:l = []:=hl;subst hl;refine anf <| ae Z <| ane <| ac <| ar Z <| ah <| ab <| ac <| ak <| anf <| ay Z <| ba 1 Z Z Z <| ae Z <| ane <| aa <| apn Z Z ?_;refine ef 0 Z Z Z Z Z Z Z Z Z (m:=m.layers.length) (news:=flC dcC m.layers) (fun w H=>(hm w (H.ent (af 2 [] Z))).l) (yy fun d _=>jq) (by rw [aro];omega) (fun _=>rfl) fun v2=> ?_;refine ae Z <| ad <| bg <| ab <| aa <| ay Z <| ae Z <| ad ?_;refine dj (1,v2,m.layers) ?_ ⟨by dsimp only;omega,rfl⟩;dsimp only;rw [rDs];have e:row t_api_Desc 35 v2 (([]:List Dc).length+m.layers.length) (flC dcC []++flC dcC m.layers)=row t_api_Desc 35 v2 m.layers.length (flC dcC m.layers):=by rw [aro,aqy];rfl
  rw [e];exact Ent.refl _
 | 1, _ =>
  have hl:l=m.layers:=hl;subst hl;refine anf <| ae Z <| ane <| ac <| ar Z <| ah <| ab <| ac <| ak <| anf <| ay Z <| ba 1 Z Z Z <| ae Z <| ane <| aa <| apn Z Z <| ef 0 Z Z Z Z Z Z Z Z Z (m:=m.subs.length) (news:=flC dcC m.subs) (fun w H=>(hm w (H.ent (af 2 [] Z))).s) (yy fun d _=>jq) (by omega) (fun _=>rfl) fun v2=>ae Z <| ad <| bg <| ab <| aa <| ay Z <| ae Z <| ad ?_
  refine dj (2,v2,m.layers++m.subs) ?_ ⟨by dsimp only;omega,rfl⟩;dsimp only;rw [rDs,aps,ic];exact Ent.refl _
 | 2, _ =>
  have hl:l=m.layers++m.subs:=hl;subst hl;refine anf <| ae Z <| ane <| ac <| ai Z <| b8 <| aw <| ax <| aq <| ab <| anf <| apn Z Z <| ane <| aj <| bh Z Z av ?_
  rfl
end

section
variable {b:World} {F:List SP} {m:Mf} {lv sv:Value} {d:Dc} {g gw gb gm gd:Nat} {v:Value} {lim:Int} {s:WS}
theorem Ln (hm:∀ w,Sat b F w→MR w m lv sv) (hc:m.cfg0.id.length=32) (hd:∀ d∈m.many,DcN d) (hn:m.many.length≤1000) (hl:lim≤67108864) (hs:(s.b.length:Int)≤lim) :
  SC Tryz.prog pq [pp gm,pp gb,pp gd] b (wtP g gw v lim s++ecF gb gm gd g m lv sv F) (fun _ F'=>∃ v',F'=wtP g gw v' lim (ml lim (mm m.many.length::m.many.flatMap dcP) s)++ecF gb gm gd g m lv sv F):=by
 have ho:∀ w,Sat b F w→lv.oneCell'=true∧sv.oneCell'=true:=fun w H=>by
  obtain ⟨_,_,e1,_⟩:=(hm w H).l;obtain ⟨_,_,e2,_⟩:=(hm w H).s;rw [e1,e2];exact ⟨rfl,rfl⟩
 refine ao Tryz.func47 Z Z Z <| bu (fun w H=>ho w (H.ent (af 6 [] Z))) ?_;rintro ⟨o1,o2⟩;refine anf <| ae Z <| ix 4 Z Z Z Z Z Z (oU hc) Z <| ae Z <| ix 4 Z Z Z Z Z Z (uC hc) Z ?_;refine lp [lv,sv] Z Z Z Z Z Z Z (by simp [o1,o2]) Z fun gl=> ?_;refine am Z Z Z ((P0 (m:=m) (gl:=gl) (F:=wtP g gw v lim s++ecF gb gm gd g m lv sv F) (fun w H=>hm w (H.ent (af 6 [] Z))) (show m.many.length≤1000000 by omega)).ent av) ?_;rintro u _ rfl;have hD:m.layers++m.subs=m.many:=rfl;rw [hD];refine eg (af 8 [2,3,4,5,6,7,0] Z) <| b6 (fun w H=>ci (H.sl (k:=6) Z)) ?_;rintro ⟨A,c,rfl,_,_,_,h4,_⟩;generalize hDm:m.many=D at *;refine ae Z <| aby <| ba 3 Z Z Z <| apn Z Z ?_;refine am Z Z Z (fR (F:=ecF gb gm gd g m lv sv (rDs (.slice A D.length c) D::F)) (n:=(D.length:Int)) (by unfold I64;omega) hl hs) ?_;rintro _ _ ⟨v1,rfl⟩;have hs1:=jp (p:=mm D.length) hs;refine aby <| apo Z Z Z <| ane <| ak <| d6 (S:=Nat × Value) (fun q=> [(0,pp gm),(1,pp gb),(2,pp gd),(16,.slice A D.length c),(17,ii D.length),(18,ii q.1)]) (fun q=>wtP g gw q.2 lim (ml lim (mm D.length::(D.take q.1).flatMap dcP) s)++ecF gb gm gd g m lv sv (rDs (.slice A D.length c) D::F)) (fun q=>q.1≤D.length) (fun q=>D.length - q.1) (0,v1) av (aqc _) ?_;rintro ⟨i,v2⟩ hi;dsimp only at hi ⊢;have hb2:=yh (l:=mm D.length::(D.take i).flatMap dcP) hs;refine anf <| ae Z <| ane <| ac ?_;refine cj Z (fun h1=> ?_) (fun h1=> ?_)
 ·have h1':i<D.length:=by omega
  obtain ⟨gg,oo,rfl⟩:=h4 (by omega);have hx:=hd _ (apw h1');have h32:Cx D:=fun d hd'=>(hd d hd').id.1
  have hc2:∀ w,Sat b (wtP g gw v2 lim (ml lim (mm D.length::(D.take i).flatMap dcP) s)++ecF gb gm gd g m lv sv (rDs (.slice (some ⟨gg,oo,none⟩) D.length c) D::F)) w→∀ j,j<35→w.cell? ⟨gg,oo+i*35+j,none⟩=(dcC D[i])[j]?:=fun w H j hj=>ej (H.sl (k:=6) Z) (nP h32) h1' hj
  have hsn:D.take (i+1)=D.take i ++ [D[i]]:=apz h1';generalize D[i]=x at *;have xl:=d8 hx.id.1;refine ah <| ab <| ac <| ak <| anf <| ay Z ?_;refine fc Z (fun w H=>di (cs:=dcC x) Z Z Z xl (fun j hj=>by rw [b5,apu];exact hc2 w H j (by rw [xl] at hj;exact hj))) Z ?_;refine bq Z Z Z Z Z fun g5=> ?_;refine eh 0 Z Z Z Z Z Z Z xl jq (by rw [xl];rfl) ?_;refine ane <| aa <| ba 6 Z Z Z ?_;refine b7 0 Z Z Z Z Z Z (cp (by rw [xl];rfl)) Z ?_;refine am Z Z Z ((xE (gb:=gb) (F:=pt gm b9 (mfC m lv sv)::pt gd wq [.func (.func pn) ⟨[]⟩ ⟨[pp gb]⟩]::rDs (.slice (some ⟨gg,oo,none⟩) D.length c) D::F) hx hl hb2).ent (af 8 [1,2,3,4,5,6,7] Z)) ?_;rintro _ _ ⟨v3,rfl⟩;refine ad <| bg <| ab <| aa <| ay Z <| ae Z <| ad ?_;rw [show (i:Int)+1=((i+1:Nat):Int) by omega];refine dj (i+1,v3) ?_ (show i+1≤_ by omega);dsimp only;rw [hsn,arq,← aq2,xj,asv,List.flatMap_nil,aqg];exact Ent.refl _
 ·obtain rfl:i=D.length:=by omega
  rw [aqk];refine b8 <| aw <| ax <| aq <| io Z .nil (af 7 [0,1,2,3,4,5] Z) ?_;exact ⟨v2,rfl⟩
abbrev fvV (p:Nat × List Value):Value:= .func (.func p.1) ⟨[]⟩ ⟨p.2⟩
theorem aay {fs:List (Nat × List Value)} {St:Nat→WS} {gl q:Nat} (hB:∀ p∈fs,Bodied Tryz.prog p.1) (hq:nth F q=some (pt gl 1 (fs.map fvV)))
  (hf:∀ k (hk:k<fs.length) v,SC Tryz.prog fs[k].1 fs[k].2 b (wtP g gw v lim (St k)++F) (fun _ F'=>∃ v',F'=wtP g gw v' lim (St (k+1))++F)) (hsz:(St fs.length).b.length≤1000000) (hn:fs.length≤1000) :
  SC Tryz.prog Bh [pp g,.slice (some ⟨gl,0,none⟩) fs.length fs.length] b (wtP g gw v lim (St 0)++F) (fun u F'=>∃ r,u = .tuple ⟨[r,ii (aZ (St fs.length)).2]⟩∧F'=rB r (aZ (St fs.length)).1::F):=by
 refine ao Tryz.func49 Z Z Z <| anf <| apn Z Z <| ane <| ac <| anf <| apo Z Z Z <| ane <| ak <| d6 (S:=Nat × Value) (fun q=> [(0,pp g),(8,.slice (some ⟨gl,0,none⟩) fs.length fs.length),(9,ii fs.length),(10,ii q.1)]) (fun q=>wtP g gw q.2 lim (St q.1)++F) (fun q=>q.1≤fs.length) (fun q=>fs.length - q.1) (0,v) av (aqc _) ?_;rintro ⟨i,v2⟩ hi;dsimp only at hi ⊢;refine anf <| ae Z <| ane <| ac ?_;refine cj Z (fun h1=> ?_) (fun h1=> ?_)
 ·have h1':i<fs.length:=by omega
  haveI:=hB _ (apw h1')
  refine ah <| ab <| ac <| ak <| anf <| ay Z ?_;refine fc (v:=fvV fs[i]) Z (fun w H=>bx Z Z Z (by rw [b5,apu,aq8,aqy,(H.blk (k:=q+3) hq).cell,ar3,apv h1'];rfl)) Z ?_;refine ae Z <| ane <| aa <| ae Z <| am Z Z Z (hf i h1' v2) ?_;rintro _ _ ⟨v3,rfl⟩;refine ad <| bg <| ab <| aa <| ay Z <| ae Z <| ad ?_;rw [show (i:Int)+1=((i+1:Nat):Int) by omega];exact dj (i+1,v3) av (show i+1≤_ by omega)
 ·obtain rfl:i=fs.length:=by omega
  refine b8 <| aw <| ax <| aq <| ab <| anf <| ae Z <| am Z Z Z (H8 hsz) ?_;rintro _ _ ⟨r,rfl,rfl⟩;refine apo Z Z Z <| ae Z <| ane <| aj <| fb Z Z Z av ?_;exact ⟨r,rfl,rfl⟩
end

structure MfW (m:Mf):Prop where
 n:MfN m
 i:m.kind=3→m.subs = []
 x:m.kind=4→m.layers = []∧m.cfg0=dcZ
 s:m.subs.length≤8
def Gr (m:Mf):Nat→WS
 | 0 => ⟨[], 0⟩
 | 1 => me 4096 (mm 77) ⟨[], 0⟩
 | 2 => me 4096 (mm m.kind) (me 4096 (mm 77) ⟨[], 0⟩)
 | 3 => me 4096 (ny (dz m.title)) (me 4096 (mm m.kind) (me 4096 (mm 77) ⟨[], 0⟩))
 | 4 => ml 4096 (if m.kind = 3 then dcP m.cfg0 else []) (me 4096 (ny (dz m.title)) (me 4096 (mm m.kind) (me 4096 (mm 77) ⟨[], 0⟩)))
 | _ => ml 4096 (mm m.many.length :: m.many.flatMap dcP) (ml 4096 (if m.kind = 3 then dcP m.cfg0 else []) (me 4096 (ny (dz m.title)) (me 4096 (mm m.kind) (me 4096 (mm 77) ⟨[], 0⟩))))
theorem P1 {m:Mf} (h:MfN m):Gr m 5=⟨mfB m,0⟩:=by
 rw [← aah (by rcases h.k with e | e <;> rw [e] <;> decide) h.c h.l h.b];unfold mfQ;rw [xj,xj]
 rfl
theorem I2 (m:Mf):∀ k,((Gr m k).b.length:Int)≤4096
 | 0 => (by decide : ((0 : Nat) : Int) ≤ 4096)
 | 1 => jp (by decide)
 | 2 => jp (jp (by decide))
 | 3 => jp (jp (jp (by decide)))
 | 4 => yh (jp (jp (jp (by decide))))
 | _ + 5 => yh (yh (jp (jp (jp (by decide)))))
section
variable {b:World} {F:List SP} {m:Mf} {lv sv:Value}
theorem nR (hw:MfW m) (hm:∀ w,Sat b F w→MR w m lv sv):SC Tryz.prog rS [.agg ⟨mfC m lv sv⟩] b F (fun u F'=>∃ r,u = .tuple ⟨[r,ii 0]⟩∧F'=rB r (mfB m)::F):=by
 have hc:=hw.n.c.id.1;have hmany:(m.layers++m.subs).length≤16:=hw.n.n;have hml:m.layers.length≤16:=by rw [aps] at hmany;omega
 have hms:=hw.s;have hD:(mfD m).length≤17:=by
  unfold mfD;rw [ap0,aps]
  split <;> simp at hmany ⊢ <;> omega
 have hDn:∀ d∈mfD m,DcN d:=fun d hd=>by
  unfold mfD at hd;rw [ap0] at hd;rcases ap6.1 hd with h | h
  ·split at h
   ·rw [apy.1 h];exact hw.n.c
   ·cases h
  ·exact hw.n.l d h
 refine ao Tryz.func15 Z Z Z <| anf <| br Z Z Z Z Z fun g1=>apn Z Z <| ane <| ac <| ak <| anf ?_
 have hm1:∀ w,Sat b (pt g1 b9 (mfC m lv sv)::F) w→MR w m lv sv:=up hm (af 1 [] Z);refine b7 0 Z Z Z Z Z Z (cp (by rw [jz hc];rfl)) Z ?_;have hk:SC Tryz.prog zb [.agg ⟨mfC m lv sv⟩] b (pt g1 b9 (mfC m lv sv)::F) (fun u F'=>u = .bool true∧F'=pt g1 b9 (mfC m lv sv)::F):=by
  rcases hw.n.k with e | e
  ·exact Lg hc e (by rw [hw.i e];rfl) hm1
  ·exact Lh (hw.x e).2 e (by rw [(hw.x e).1];rfl) hm1
 refine au Z Z Z (hk) <| apn Z Z <| ane <| ai Z <| anf ?_;refine b7 0 Z Z Z Z Z Z (cp (by rw [jz hc];rfl)) Z ?_;refine am Z Z Z (qF hc hm1 (by omega)) ?_;rintro u _ rfl
 skip
 refine am Z Z Z (amd (p:=fun _=>false) (pre:= []) (post:= []) (D:=mfD m) (F:=rDs u (mfD m)::pt g1 b9 (mfC m lv sv)::F) (fun d hd B=>Li (hDn d hd)) (fun d hd=>d8 (hDn d hd).id.1) (fun w H=>H.sl (k:=0) Z) (by omega)) ?_;rintro _ _ ⟨rfl,rfl⟩;have hany:(mfD m).any (fun _=>false)=false:=by rw [atl];intros;simp
 rw [hany];refine eg (af 2 [1] Z) <| b6 (fun w H=>ci (hm1 w H).l) ?_;rintro ⟨A1,c1,rfl,_⟩;refine b6 (fun w H=>ci (hm1 w H).s) ?_;rintro ⟨A2,c2,rfl,_⟩;refine ae Z <| ane <| ai Z <| anf <| ae Z <| ix 0 Z Z Z Z Z Z (oU hc) Z <| apo Z Z Z <| qp 22 Z <| ae Z <| ix 0 Z Z Z Z Z Z (uC hc) Z <| apo Z Z Z <| ae Z <| ane <| cj Z (fun h=>absurd h (by omega)) (fun _=>ah <| bg <| ab <| anf <| am Z Z Z (oN (lim:=4096) (by decide) (by decide)) ?_);rintro _ _ ⟨g,gw,rfl,rfl⟩;refine apo Z Z Z <| bq Z Z Z Z Z fun g4=>cg 0 Z Z Z Z <| ae Z <| aby <| ae Z <| bq Z Z Z Z Z fun g6=>cg 0 Z Z Z Z <| aby <| apn Z Z <| aby <| apn Z Z <| aby <| ba 1 Z Z Z ?_
 (iterate 5 refine ae Z ?_)
 refine lp [fvV (px,[pp g4]),fvV (pz,[pp g4,pp g1]),fvV (p5,[pp g4,pp g1]),fvV (po,[pp g1,pp g6]),fvV (pq,[pp g1,pp g4,pp g6])] Z Z Z Z Z Z Z Z Z fun gl=> ?_;have hend:=P1 hw.n;refine am Z Z Z ((aay (v:= .slice none 0 0) (fs:= [(px,[pp g4]),(pz,[pp g4,pp g1]),(p5,[pp g4,pp g1]),(po,[pp g1,pp g6]),(pq,[pp g1,pp g4,pp g6])]) (St:=Gr m) (q:=3) (gl:=gl) (g:=g) (gw:=gw) (lim:=4096)
  (F:=ecF g4 g1 g6 g m (.slice A1 m.layers.length c1) (.slice A2 m.subs.length c2) (pt gl 1 [fvV (px,[pp g4]),fvV (pz,[pp g4,pp g1]),fvV (p5,[pp g4,pp g1]),fvV (po,[pp g1,pp g6]),fvV (pq,[pp g1,pp g4,pp g6])]::F))
  (fun p hp=>by
   simp only [ap1,arj,or_false] at hp;rcases hp with rfl | rfl | rfl | rfl | rfl <;> infer_instance) Z (fun k hk v=>by
   have hs:=I2 m k
   match k,hk with
   | 0, _ => exact Lj (by decide) hs
   | 1, _ => exact Lk hw.n.k (by decide) hs
   | 2, _ => exact Ll hw.n.t (by decide) hs
   | 3, _ => exact Lm hw.n.c (by decide) hs
   | 4, _ => exact Ln (up hm (af 1 [] Z)) hc hw.n.l (by have := hw.n.n; omega) (by decide) hs) (by show (Gr m 5).b.length ≤ 1000000; have := I2 m 5; omega) (show 5 ≤ 1000 by decide)).ent (af 7 [3, 4, 5, 2, 6, 1, 0] Z)) ?_
 rintro _ _ ⟨r,rfl,rfl⟩;have hlen:(Gr m 5)=⟨mfB m,0⟩:=hend;refine apo Z Z Z <| ae Z <| ane <| aj ?_;refine fb Z Z Z (af 5 [0] Z) ⟨r,?_,?_⟩
 ·show Value.tuple ⟨[r,ii (aZ (Gr m 5)).2]⟩=_;rw [hlen];rfl
 ·show rB r (aZ (Gr m 5)).1::F=_;rw [hlen];rfl
end

abbrev rdg (gR g:Nat) (n:Int):SP:=pt gR pK [pp g,ii n,ii 0,ii 0]
theorem uG:∀ {a v:List Value},v.length=a.length→um a 0 v=some v
 | [], [], _ => rfl
 | _ :: a, x :: v, h => by
  have ih:=uG (a:=a) (v:=v) (by simpa using h);simp only [um,ih]
 | [], _ :: _, h => by simp at h
 | _ :: _, [], h => by simp at h
theorem Uv {h:Hd} (h32:h.id.length=32):um ([ii h.d.1,ii h.d.2]++u8s (List.replicate 32 0)) 2 (u8s h.id)=some (hdC h):=by
 have h0:=uG (a:=u8s (List.replicate 32 0)) (v:=u8s h.id) (by rw [bz,bz,h32];rfl);show um (ii h.d.1::ii h.d.2::u8s (List.replicate 32 0)) 2 (u8s h.id)=_;rw [um,um,h0]
 ·rfl
section
variable {b:World} {F:List SP} {gR g gw:Nat} {v:Value} {B:List Int} {s:RS} {n:Int}
theorem Dd (hB:B.length≤1000000) (he:s.e=0) (hf:s.fa=0) (hat:s.at'≤B.length):SC Tryz.prog aK [pp gR] b (rdg gR g n::wrP g gw v B s++F) (fun u F'=>u = .bool false∧F'=rdg gR g n::wrP g gw v B s++F):=by
 refine ao Tryz.func170 Z Z Z <| anf <| ae Z <| aby <| apo Z Z Z <| ba 0 Z Z Z <| ae Z <| j6 Z (wk Z Z (n8 0 0 0 0)) Z <| apo Z Z Z <| ae Z <| ba 0 Z Z Z ?_;refine bn 9 (.bool false) Z (by rw [ap5 ⟨rfl,rfl⟩];rfl) ?_
 skip
 refine au Z Z Z ((lL (F:=rdg gR g n::F) hB (fun _=>hat)).at (af 4 [1,2,3,0] Z) (af 4 [3,0,1,2] Z)) <| apn Z Z ?_;by_cases h0:fG B s=0
 ·refine wt 16 Z h0 <| apo Z Z Z <| ba 0 Z Z Z <| au Z Z Z ((yV (F:=rdg gR g n::F) hB).at (af 4 [1,2,3,0] Z) (af 4 [3,0,1,2] Z)) <| ae Z ?_;have hE:tG B s=(0,0):=by
   unfold fG at h0;rw [if_neg (by omega)] at h0;unfold tG;rw [if_neg (by omega),he,hf]
  rw [hE];refine j6 Z (wk Z Z (n8 0 0 0 0)) Z <| apo Z Z Z <| ane <| aj <| bh Z Z av ?_;exact ⟨by rw [ap5 ⟨rfl,rfl⟩];rfl,rfl⟩
 ·refine iQ 16 Z h0 ?_
  (iterate 10 refine ae Z ?_)
  refine ane <| aj <| bh Z Z av ?_;exact ⟨rfl,rfl⟩
theorem zF {fn:Nat} [Bodied Tryz.prog fn] {caps:List Value} {i:Nat} {R:Value→List SP→Prop} (hB:B.length≤1000000) (hb:fq B) (hi:ia B ⟨i,0,0⟩=(1,⟨i+1,0,0⟩)) (hn:1≤n) (hn2:n≤1000000) (hat:i+1≤B.length) (hf:SC Tryz.prog fn caps b (rdg gR g n::wrP g gw v B ⟨i+1,0,0⟩++F) R) :
  SC Tryz.prog bS [pp gR,.func (.func fn) ⟨[]⟩ ⟨caps⟩] b (rdg gR g n::wrP g gw v B ⟨i,0,0⟩++F) (fun _ F'=>∃ u,R u F'):=by
 refine ao Tryz.func80 Z Z Z <| ac <| anf <| ae Z ?_;refine au Z Z Z (Dd hB Z Z (show i≤B.length by omega)) ?_;refine ane <| ai Z <| ah <| ab <| ac <| cq flo _ (by decide +kernel) av <| bj Z Zl <| bj Z Zl <| bj Z Zl <| cd 0 Z Z Z Z <| bj Z Zl <| bj Z Zl <| bj Z Zl <| cd 0 Z Z Z Z ?_;refine fe Z Z Z Z ((lL (F:=rdg gR g n::F) hB (fun _=>(show i≤B.length by omega))).at (af 4 [1,2,3,0] Z) (af 4 [3,0,1,2] Z)) av ?_;have hrr:fG B ⟨i,0,0⟩=(B.length:Int) - i:=by unfold fG;rw [if_neg (by simp)]
 rw [hrr];refine dx Z Z <| bj Z Zl <| ap <| ab <| anf <| apo Z Z Z <| ba 0 Z Z Z <| am Z Z Z ((p8 (F:=rdg gR g n::F) hB hb).ent (af 4 [1,2,3,0] Z)) ?_;rintro _ _ ⟨rfl,rfl⟩;rw [hi];dsimp only;refine ae Z <| ane <| ac <| anf <| apo Z Z Z <| ae Z <| ba 3 Z Z Z <| ae Z <| ane <| vj 28 Z <| ai Z <| ah <| ab <| anf <| apn Z Z <| ane <| ak <| d6 (S:=Option (Value × List SP)) (fun q=> [(0,pp gR),(1,.func (.func fn) ⟨[]⟩ ⟨caps⟩),(34,ii 1),(35,ii (match q with | none=>0 | some _=>1))]) (fun q=>match q with | none=>rdg gR g n::wrP g gw v B ⟨i+1,0,0⟩++F | some q=>q.2) (fun q=>match q with | none=>True | some q=>R q.1 q.2) (fun q=>match q with | none=>1 | some _=>0) none (af 4 [3,0,1,2] Z) trivial ?_;rintro (_ | ⟨u,G⟩) hI
 ·dsimp only at hI ⊢;refine anf <| ae Z <| ane <| ac <| ar Z <| ah <| ab <| ac <| ak <| ac <| anf <| ae Z <| au Z Z Z (Dd hB Z Z hat) <| ane <| ai Z <| ah <| ab <| aa <| ae Z <| am Z Z Z (hf) ?_;rintro u G hR;refine ad <| bg <| ab <| aa <| ay Z <| ae Z <| ad ?_;exact dj (some (u,G)) av hR
 ·dsimp only at hI ⊢;refine anf <| ae Z <| ane <| ac <| ai Z <| b8 <| aw <| ax <| aq <| io Z .nil av ?_;exact ⟨u,hI⟩
theorem P2 {g1 g2 i i2 i3:Nat} {h:Hd} (hB:B.length≤1000000) (hb:fq B) (hd:yT B ⟨i,0,0⟩=(h.d,⟨i2,0,0⟩)) (hi:rID B ⟨i2,0,0⟩=(h.id,⟨i3,0,0⟩)) (hi2:i2≤B.length) (h32:h.id.length=32) :
  SC Tryz.prog qv [pp g1,pp g2] b (rdg gR g n::wrP g gw v B ⟨i,0,0⟩++(pt g2 n9 [.slice none 0 0]::pt g1 iv [pp gR]::F)) (fun _ F'=>∃ u,F'=rHs u [h]::rdg gR g n::wrP g gw v B ⟨i3,0,0⟩++(pt g2 n9 [u]::pt g1 iv [pp gR]::F)):=by
 have xl:(hdC h).length=34:=mq h32;refine ao Tryz.func173 Z Z Z <| anf <| ba 5 Z Z Z <| apn Z Z <| ba 0 Z Z Z <| am Z Z Z ((Tw (F:=rdg gR g n::pt g2 n9 [.slice none 0 0]::pt g1 iv [pp gR]::F) hB hb).ent (af 6 [1,2,3,0,4,5] Z)) ?_;rintro _ _ ⟨rfl,rfl⟩;rw [hd];dsimp only;refine ae Z <| bq Z Z Z Z Z fun gh=>cg 0 Z Z Z Z <| aby <| ba 6 Z Z Z <| apn Z Z <| ba 4 Z Z Z <| am Z Z Z ((Oo (F:=pt gh t_api_Held ([ii h.d.1,ii h.d.2]++u8s (List.replicate 32 0))::rdg gR g n::pt g2 n9 [.slice none 0 0]::pt g1 iv [pp gR]::F) hB (fun _=>hi2)).ent (af 7 [1,2,3,0,4,5,6] Z)) ?_
 rintro _ _ ⟨rfl,rfl⟩;rw [hi];dsimp only;refine ae Z ?_;refine mE (vs:=u8s h.id) (cs':=hdC h) 3 Z Z Z Z Z Z (by rw [bz,h32];rfl) (aqm.2 (ec _)) Z (Uv h32) Z ?_;refine ane <| aa <| ba 5 Z Z Z ?_;refine b7 3 Z Z Z Z Z Z (cp (by rw [xl];rfl)) Z ?_;refine li Z Z Z Z Z Z Z xl (by decide) fun gl=>eg (de t_api_Held 34 Z) ?_
 refine ef 0 Z Z Z Z Z Z Z Z Z (m:=1) (news:=hdC h) (fun w' H=>(H.blk (k:=1) Z).sl (by rw [xl]) (by decide)) (tm _) (by omega) (fun _=>rfl) fun v8=> ?_;refine b6 (fun w H=>(H.oat (k:=0) Z).form) ?_;rintro ⟨A9,c9,rfl,_,_,_⟩;refine cg 7 Z Z Z Z <| ad <| io Z .nil (af 9 [0,6,2,3,4,7,8] Z) ?_;have e9:zm [h]=hdC h:=by simp [flC]
 exact ⟨.slice A9 1 c9,by rw [rHs,e9];rfl⟩
theorem I3 {i i2 i3:Nat} {h:Hd} (hB:B.length≤1000000) (hb:fq B) (hn:1≤n) (hn2:n≤1000000) (hm:ia B ⟨i,0,0⟩=(1,⟨i+1,0,0⟩)) (hat:i+1≤B.length) (hd:yT B ⟨i+1,0,0⟩=(h.d,⟨i2,0,0⟩)) (hi:rID B ⟨i2,0,0⟩=(h.id,⟨i3,0,0⟩)) (hi2:i2≤B.length) (h32:h.id.length=32) :
  SC Tryz.prog bT [pp gR] b (rdg gR g n::wrP g gw v B ⟨i,0,0⟩++F) (fun u F'=>F'=rHs u [h]::rdg gR g n::wrP g gw v B ⟨i3,0,0⟩++F):=by
 refine ao Tryz.func84 Z Z Z <| anf <| br Z Z Z Z Z fun g1=>bq Z Z Z Z Z fun g2=>aby <| ba 1 Z Z Z <| ae Z <| am Z Z Z ((zF (fn:=qv) (caps:= [pp g1,pp g2]) (F:=pt g2 n9 [.slice none 0 0]::pt g1 iv [pp gR]::F) hB hb hm hn hn2 hat (P2 (F:=F) hB hb hd hi hi2 h32)).ent (af 6 [2,3,4,5,0,1] Z)) ?_
 rintro _ _ ⟨_,u,rfl⟩;refine b6 (fun w H=>(H.oat (k:=0) Z).form) ?_;rintro ⟨A9,c9,rfl,_,_,_⟩;refine aby <| ba 5 Z Z Z <| cg 5 Z Z Z Z <| ane <| aj <| ez Z (.cell 5 Z Z Z Z Z .nil) (af 7 [0,1,2,3,4] Z) ?_
 rfl
structure HAt (B:List Int) (i i3:Nat) (h:Hd):Prop where
 m:ia B ⟨i,0,0⟩=(1,⟨i+1,0,0⟩)
 at_:i+1≤B.length
 ex:∃ i2,yT B ⟨i+1,0,0⟩=(h.d,⟨i2,0,0⟩)∧rID B ⟨i2,0,0⟩=(h.id,⟨i3,0,0⟩)∧i2≤B.length
 l32:h.id.length=32
abbrev dcF (ga gb g gR:Nat) (F:List SP):List SP:=pt ga q9 [pp g]::pt gb iv [pp gR]::F
theorem aaz {ga gb gc i i1 i3:Nat} {h:Hd} {nm tn:ByteArray} (hB:B.length≤1000000) (hb:fq B) (hn:1≤n) (hn2:n≤1000000) (hi:i≤B.length) (hx:ng B 64 ⟨i,0,0⟩=(dz tn,⟨i1,0,0⟩)) (hh:HAt B i1 i3 h) :
  SC Tryz.prog x3 [pp ga,pp gb,pp gc] b (rdg gR g n::wrP g gw v B ⟨i,0,0⟩++dcF ga gb g gR (pt gc bm [.string nm,.slice none 0 0,.slice none 0 0]::F)) (fun _ F'=>∃ hv tv,F'=rHs hv [h]::rTs tv [⟨tn,hv,[h]⟩]::rdg gR g n::wrP g gw v B ⟨i3,0,0⟩++dcF ga gb g gR (pt gc bm [.string nm,tv,.slice none 0 0]::F)):=by
 obtain ⟨m1,m2,⟨i2,m3,m4,m5⟩,m6⟩:=hh;refine ao Tryz.func83 Z Z Z <| anf <| ba 4 Z Z Z <| am Z Z Z ((fI (most:=64) (F:=rdg gR g n::dcF ga gb g gR (pt gc bm [.string nm,.slice none 0 0,.slice none 0 0]::F)) hB hb (fun _=>hi)).ent (af 7 [1,2,3,0,4,5,6] Z)) ?_;rintro _ _ ⟨rfl,rfl⟩;rw [hx];dsimp only;rw [pg];refine ae Z <| bq Z Z Z Z Z fun g3=>cg 0 Z Z Z Z <| aby <| ba 6 Z Z Z <| am Z Z Z ((I3 (F:=pt g3 dw [.string tn,.slice none 0 0]::dcF ga gb g gR (pt gc bm [.string nm,.slice none 0 0,.slice none 0 0]::F)) hB hb hn hn2 m1 m2 m3 m4 m5 m6).ent (af 8 [4,1,2,3,0,5,6,7] Z)) ?_
 rintro hv _ rfl;refine b6 (fun w H=>(H.oat (k:=0) Z).form) ?_;rintro ⟨A9,c9,rfl,_,_,_⟩;refine ae Z <| cg 5 Z Z Z Z <| ane <| aa <| ae Z <| ba 8 Z Z Z <| ba 5 Z Z Z <| li Z Z Z Z Z Z Z Z (by decide) fun gl=>eg (de dw 2 Z) ?_
 refine ef 0 Z Z Z Z Z Z Z Z Z (m:=1) (news:=tgC ⟨tn,.slice A9 1 c9,[h]⟩) (fun w' H=>(H.blk (k:=1) Z).sl Z (by decide)) (fun u hu=>by
  simp only [tgC,ap1,arj,or_false] at hu;rcases hu with rfl | rfl <;> rfl) (by omega) (fun _=>rfl) fun v8=> ?_
 refine b6 (fun w H=>(H.oat (k:=0) Z).form) ?_;rintro ⟨A8,c8,rfl,_,_,_⟩;refine eg (af 11 [10,0,1,2,3,4,5,6,7,8,9] Z) <| ae Z <| cg 0 Z Z Z Z <| ad <| io Z .nil (af 11 [3,1,4,5,6,7,9,10,0] Z) ?_;exact ⟨.slice A9 1 c9,.slice A8 1 c8,rfl⟩
theorem Uw {ga gb gt i i1 i2 i3 i5:Nat} {hT hM:Hd} {nm tn:ByteArray} {vv:Value} (hB:B.length≤1000000) (hb:fq B) (hn:1≤n) (hn2:n≤1000000) (hi:i≤B.length) (hx:ng B 128 ⟨i,0,0⟩=(dz nm,⟨i1,0,0⟩)) (hm:ia B ⟨i1,0,0⟩=(1,⟨i1+1,0,0⟩)) (hm2:i1+1≤B.length) (hx2:ng B 64 ⟨i1+1,0,0⟩=(dz tn,⟨i2,0,0⟩)) (h1:HAt B i2 i3 hT) (h2:HAt B i3 i5 hM) :
  SC Tryz.prog aG [pp ga,pp gb,pp gt] b (rdg gR g n::wrP g gw v B ⟨i,0,0⟩++dcF ga gb g gR (pt gt bt [vv,.slice none 0 0]::F)) (fun _ F'=>∃ rv tv hv mv,F'=rRs rv [⟨nm,tv,[⟨tn,hv,[hT]⟩],mv,[hM]⟩]::rHs hv [hT]::rTs tv [⟨tn,hv,[hT]⟩]::rHs mv [hM]::rdg gR g n::wrP g gw v B ⟨i5,0,0⟩++dcF ga gb g gR (pt gt bt [vv,rv]::F)):=by
 refine ao Tryz.func81 Z Z Z <| anf <| ba 4 Z Z Z <| am Z Z Z ((fI (most:=128) (F:=rdg gR g n::dcF ga gb g gR (pt gt bt [vv,.slice none 0 0]::F)) hB hb (fun _=>hi)).ent (af 7 [1,2,3,0,4,5,6] Z)) ?_;rintro _ _ ⟨rfl,rfl⟩;rw [hx];dsimp only;rw [pg];refine ae Z <| bq Z Z Z Z Z fun g3=>cg 0 Z Z Z Z <| aby <| ba 6 Z Z Z <| ae Z <| am Z Z Z ((zF (fn:=x3) (caps:= [pp ga,pp gb,pp g3]) (F:=dcF ga gb g gR (pt g3 bm [.string nm,.slice none 0 0,.slice none 0 0]::pt gt bt [vv,.slice none 0 0]::F)) hB hb hm hn hn2 hm2 (aaz (F:=pt gt bt [vv,.slice none 0 0]::F) (nm:=nm) hB hb hn hn2 hm2 hx2 h1)).ent (af 8 [4,1,2,3,5,6,0,7] Z)) ?_
 rintro _ _ ⟨_,hv,tv,rfl⟩;refine aby <| ba 7 Z Z Z <| am Z Z Z ((I3 (F:=pt g3 bm [.string nm,tv,.slice none 0 0]::rHs hv [hT]::rTs tv [⟨tn,hv,[hT]⟩]::dcF ga gb g gR (pt gt bt [vv,.slice none 0 0]::F)) hB hb hn hn2 h2.m h2.at_ h2.ex.choose_spec.1 h2.ex.choose_spec.2.1 h2.ex.choose_spec.2.2 h2.l32).ent (af 10 [2,3,4,5,8,0,1,6,7,9] Z)) ?_;rintro mv _ rfl;refine b6 (fun w H=>(H.oat (k:=0) Z).form) ?_;rintro ⟨A9,c9,rfl,_,_,_⟩;refine b6 (fun w H=>(H.oat (k:=7) Z).form) ?_;rintro ⟨A7,c7,rfl,_,_,_⟩;refine eg (af 11 [5,10,0,1,2,3,4,6,7,8,9] Z) <| ae Z <| cg 0 Z Z Z Z <| ane <| aa <| ae Z <| ba 1 Z Z Z <| ba 0 Z Z Z <| li Z Z Z Z Z Z Z Z (by decide) fun gl=>eg (de bm 3 Z) ?_
 refine ef 0 Z Z Z Z Z Z Z Z Z (m:=1) (news:=rpC ⟨nm,.slice A7 1 c7,[⟨tn,hv,[hT]⟩],.slice A9 1 c9,[hM]⟩) (fun w' H=>(H.blk (k:=1) Z).sl Z (by decide)) (fun u hu=>by
  simp only [rpC,ap1,arj,or_false] at hu;rcases hu with rfl | rfl | rfl <;> rfl) (by omega) (fun _=>rfl) fun v8=> ?_
 refine b6 (fun w H=>(H.oat (k:=0) Z).form) ?_;rintro ⟨A8,c8,rfl,_,_,_⟩;refine ae Z <| cg 3 Z Z Z Z <| ad <| io Z .nil (af 13 [0,9,10,4,5,6,7,8,11,12,3] Z) ?_;exact ⟨.slice A8 1 c8,.slice A7 1 c7,hv,.slice A9 1 c9,rfl⟩
end

abbrev mrV (g:Nat) (n:Int):Value:= .agg ⟨[pp g,ii n]⟩
abbrev mrB (g1 g:Nat) (n:Int):SP:=pt g1 sJ [pp g,ii n]
theorem Ux {d:Dc} {p:ByteArray} (h:d.id.length=32):stO (dcC d) 34 (.string p)=some (dcC ⟨d.media,d.id,d.size,p⟩):=by
 have e:=uB (ii d.media::(u8s d.id ++ [ii d.size])) (x:= .string d.plat) (y:= .string p) (C:= []) (o:=34) (by rw [ap3,aps,bz,h];rfl);have h1:∀ q,Value.int .i64 d.media::(u8s d.id ++ [ii d.size]) ++ [.string q]=dcC ⟨d.media,d.id,d.size,q⟩:=fun q=>by simp [dcC]
 rw [h1,h1] at e;exact e
section
variable {b:World} {F:List SP} {g gw:Nat} {v:Value} {B:List Int} {s:RS} {n:Int}
theorem I4 (hB:B.length≤1000000) (hb:fq B) (hat:s.e=0→s.at'≤B.length):SC Tryz.prog qk [mrV g n] b (wrP g gw v B s++F) (fun u F'=>u = .agg ⟨dcC (rDc B s).1⟩∧F'=wrP g gw v B (rDc B s).2++F):=by
 have h1:=Ox (f:=ia) F7 hat;have h2:=Ox (f:=rID) alq h1;have h3:=Ox (f:=ia) F7 h2;have hid:=T3 (B:=B) h1;refine ao Tryz.func187 Z Z Z <| anf <| br Z Z Z Z Z fun g1=>bq Z Z Z Z Z fun g2=>aby <| ae Z <| ba 1 Z Z Z <| am Z Z Z ((p8 (s:=s) (F:=pt g2 t_api_Desc (dcC dcZ)::mrB g1 g n::F) hB hb).ent (af 5 [2,3,4,0,1] Z)) ?_
 rintro _ _ ⟨rfl,rfl⟩;refine ae Z <| cg 3 Z Z Z Z <| aby <| ae Z <| ba 4 Z Z Z <| eg (show Ent _ (wrP g gw v B (ia B s).2++pt g2 t_api_Desc (dcC ⟨(ia B s).1,List.replicate 32 0,0,⟨#[]⟩⟩)::mrB g1 g n::F) from Ent.refl _) <| am Z Z Z (Oo (s:=(ia B s).2) (F:=pt g2 t_api_Desc (dcC ⟨(ia B s).1,List.replicate 32 0,0,⟨#[]⟩⟩)::mrB g1 g n::F) hB h1) ?_;rintro _ _ ⟨rfl,rfl⟩;refine ae Z ?_;refine mE (vs:=u8s (rID B (ia B s).2).1) (cs':=dcC ⟨(ia B s).1,(rID B (ia B s).2).1,0,⟨#[]⟩⟩) 3 Z Z Z Z Z Z (by rw [bz,hid];rfl) (aqm.2 (ec _)) Z (qE [ii (ia B s).1] Z (by rw [bz,bz,hid];rfl)) Z ?_;refine aby <| ae Z <| ba 4 Z Z Z <| am Z Z Z (p8 (s:=(rID B (ia B s).2).2) (F:=pt g2 t_api_Desc (dcC ⟨(ia B s).1,(rID B (ia B s).2).1,0,⟨#[]⟩⟩)::mrB g1 g n::F) hB hb) ?_;rintro _ _ ⟨rfl,rfl⟩;refine ae Z ?_;refine dS (cs':=dcC ⟨(ia B s).1,(rID B (ia B s).2).1,(ia B (rID B (ia B s).2).2).1,⟨#[]⟩⟩) 3 Z Z Z Z Z Z Z Z (uB (ii (ia B s).1::u8s (rID B (ia B s).2).1) (by rw [ap3,bz,hid])) Z ?_;refine aby <| ae Z <| ba 4 Z Z Z <| am Z Z Z (fI (most:=4096) (s:=(ia B (rID B (ia B s).2).2).2) (F:=pt g2 t_api_Desc (dcC ⟨(ia B s).1,(rID B (ia B s).2).1,(ia B (rID B (ia B s).2).2).1,⟨#[]⟩⟩)::mrB g1 g n::F) hB hb h3) ?_;rintro _ _ ⟨rfl,rfl⟩;refine ae Z <| dS (cs':=dcC (rDc B s).1) 3 Z Z Z Z Z Z Z Z (Ux (d:=⟨(ia B s).1,(rID B (ia B s).2).1,(ia B (rID B (ia B s).2).2).1,⟨#[]⟩⟩) hid) Z ?_;have hl:(dcC (rDc B s).1).length=35:=d8 hid;refine aby ?_;refine b7 3 Z Z Z Z Z Z (cp (by rw [hl];rfl)) Z ?_;refine eh 3 Z Z Z Z Z Z Z hl jq (by rw [hl]) ?_;refine ane <| aj <| ez Z (.whole 3 Z Z Z Z hl .nil) (af 5 [0,1,2] Z) ?_;exact ⟨rfl,rfl⟩
def vd (B:List Int):Nat→RS→List Dc × RS
 | 0, s => ([], s)
 | n + 1, s => ((vd B n s).1 ++ [(rDc B (vd B n s).2).1], (rDc B (vd B n s).2).2)
theorem I5 {c:Nat} (hB:B.length≤1000000) (hb:fq B) (hat:∀ k,k<c→(vd B k s).2.e=0→(vd B k s).2.at'≤B.length) (h32:∀ k,k<c→((rDc B (vd B k s).2).1).id.length=32) (hc:c≤1000) :
  SC Tryz.prog dE [ii c,.func (.func qk) ⟨[mrV g n]⟩ ⟨[]⟩] b (wrP g gw v B s++F) (fun u F'=>(vd B c s).1.length=c∧F'=rDs u (vd B c s).1::(wrP g gw v B (vd B c s).2++F)):=by
 refine ao Tryz.func188 Z Z Z <| anf <| ae Z <| ane <| ac <| anf <| apn Z Z <| ane <| ak <| d6 (S:=Nat × Value) (fun q=> [(1,.func (.func qk) ⟨[mrV g n]⟩ ⟨[]⟩),(5,ii c),(6,ii q.1),(4,q.2)]) (fun q=>rDs q.2 (vd B q.1 s).1::(wrP g gw v B (vd B q.1 s).2++F)) (fun q=>q.1≤c∧(vd B q.1 s).1.length=q.1) (fun q=>c - q.1) (0,.slice none 0 0) (de t_api_Desc 35 Z) ⟨aqc _,rfl⟩ ?_;rintro ⟨i,v2⟩ ⟨hi,hl⟩;dsimp only at hi hl ⊢;refine anf <| ae Z <| ane <| ac ?_;refine cj Z (fun h1=> ?_) (fun h1=> ?_)
 ·have h1':i<c:=by omega
  refine ah <| ab <| ac <| ak <| aa <| apn Z Z <| am Z Z Z ((I4 (n:=n) (s:=(vd B i s).2) (F:=rDs v2 (vd B i s).1::F) hB hb (hat i h1')).ent (af 4 [1,2,3,0] Z)) ?_;rintro _ _ ⟨rfl,rfl⟩;have hx:=d8 (h32 i h1');refine li Z Z Z Z Z Z Z hx (by decide) fun gl=>ef 4 Z Z Z Z Z Z Z Z Z (m:=1) (news:=dcC (rDc B (vd B i s).2).1) (fun w H=>(H.blk (k:=0) Z).sl hx (by decide)) jq (by omega) (fun _=>rfl) fun v8=>ae Z <| ad <| bg <| ab <| aa <| ay Z <| ae Z <| ad ?_
  rw [show (i:Int)+1=((i+1:Nat):Int) by omega];refine dj (i+1,v8) ?_ ⟨by dsimp only;omega,by dsimp only;rw [vd,aps,hl];rfl⟩;have e9:flC dcC (vd B i s).1++dcC (rDc B (vd B i s).2).1=flC dcC (vd B (i+1) s).1:=by
   rw [vd,ic];simp [flC]
  dsimp only;rw [e9];have e8:(vd B (i+1) s).1.length=(vd B i s).1.length+1:=by rw [vd,aps];rfl
  rw [rDs,e8];exact af 5 [4,1,2,3] Z
 ·obtain rfl:i=c:=by omega
  refine b8 <| aw <| ax <| aq <| ab <| anf <| apn Z Z <| ane <| aj <| bh Z Z av ?_;exact ⟨hl,rfl⟩
end

theorem zG {B:List Int} {m:Mf} {t c:Nat} {q:Nat→Nat} (R:MfR B m t c q):∀ k,k≤m.many.length→vd B k ⟨q 0,0,0⟩=(m.many.take k,⟨q k,0,0⟩)
 | 0, _ => by rw [ar1]; rfl
 | k + 1, h => by
  rw [vd,zG R k (by omega),R.ds k h,apz h]
abbrev nilV:Value:= .slice none 0 0
abbrev mfZ:Mf:=⟨0,⟨#[]⟩,dcZ,[],[]⟩
section
variable {m:Mf} {lv sv x:Value}
theorem I6 {d:Dc} (h:m.cfg0.id.length=32) (hd:d.id.length=32):um (mfC m lv sv) 2 (dcC d)=some (mfC ⟨m.kind,m.title,d,m.layers,m.subs⟩ lv sv):=qE [ii m.kind,.string m.title] Z (by rw [d8 h,d8 hd])
theorem I7 (h:m.cfg0.id.length=32):stO (mfC m lv sv) 37 x=some (mfC m x sv):=uB (ii m.kind :: .string m.title::dcC m.cfg0) (by rw [ap3,ap3,d8 h])
end
section
variable {b:World} {F:List SP} {g gw:Nat} {v:Value} {B:List Int} {m:Mf} {t c:Nat} {q:Nat→Nat}
abbrev ftP (g3:Nat):SP:=pt g3 t_api_Fault [ii 0,ii 0]
theorem Uy (hB:B.length≤1000000) (hb:fq B) (hm:MfN m) (hk:m.kind=3) (hs:m.subs = []) (R:MfR B m t c q) :
  SC Tryz.prog mz [mrV g (B.length:Int)] b (wrP g gw v B r0++F) (fun u F'=>∃ lv,u = .tuple ⟨[.agg ⟨mfC m lv nilV⟩,.agg ⟨[ii 0,ii 0]⟩]⟩∧F'=rDs lv m.layers::(wrP g gw v B ⟨B.length,0,0⟩++F)):=by
 have hL:=R.le;have hmm:m.many=m.layers:=by rw [Mf.many,hs,aqg]
 have hn:=hm.n;rw [hmm] at hn;have hat:∀ k,k≤m.layers.length→q k≤B.length:=fun k hk=>hL.2.2.2 k (by rw [hmm];exact hk)
 have hD:∀ k,k≤m.layers.length→vd B k ⟨q 0,0,0⟩=(m.layers.take k,⟨q k,0,0⟩):=fun k hk=>by
  have:=zG R k (by rw [hmm];exact hk);rw [hmm] at this;exact this
 have hds:∀ k (h:k<m.layers.length),rDc B ⟨q k,0,0⟩=(m.layers[k],⟨q (k+1),0,0⟩):=fun k h=>by
  have:=R.ds k (by rw [hmm];exact h);simpa [hmm] using this
 have hnn:=R.nn;rw [hmm] at hnn;have hen:=R.en;rw [hmm] at hen;have hc32:=hm.c.id.1;refine ao Tryz.func111 Z Z Z <| anf <| br Z Z Z Z Z fun g1=>bq Z Z Z Z Z fun g2=>bq Z Z Z Z Z fun g3=>aby <| ae Z <| ba 2 Z Z Z <| eg (show Ent _ (ftP g3::pt g2 b9 (mfC mfZ nilV nilV)::mrB g1 g (B.length:Int)::(wrP g gw v B r0++F)) from Ent.refl _) <| am Z Z Z ((p8 (s:=r0) (F:=ftP g3::pt g2 b9 (mfC mfZ nilV nilV)::mrB g1 g (B.length:Int)::F) hB hb).ent (af 6 [3,4,5,0,1,2] Z)) ?_
 rintro _ _ ⟨rfl,rfl⟩;rw [show r0=⟨0,0,0⟩ from rfl,R.n1];dsimp only;refine ae Z <| ane <| ac <| anf <| apn Z Z <| ane <| ai Z <| ah <| ab <| anf <| ae Z <| ba 5 Z Z Z <| am Z Z Z (p8 (s:=⟨1,0,0⟩) (F:=ftP g3::pt g2 b9 (mfC mfZ nilV nilV)::mrB g1 g (B.length:Int)::F) hB hb) ?_;rintro _ _ ⟨rfl,rfl⟩;rw [R.n2,hk];dsimp only;refine ae Z <| cg 4 Z Z Z Z <| ane <| ac <| anf <| ae Z <| ba 4 Z Z Z ?_
 (iterate 6 refine ae Z ?_)
 refine ane <| ai Z <| ah <| ab <| anf <| ae Z <| ba 5 Z Z Z <| am Z Z Z (fI (most:=4096) (s:=⟨2,0,0⟩) (F:=ftP g3::pt g2 b9 (mfC ⟨3,⟨#[]⟩,dcZ,[],[]⟩ nilV nilV)::mrB g1 g (B.length:Int)::F) hB hb (fun _=>hL.1)) ?_;rintro _ _ ⟨rfl,rfl⟩;rw [R.ti,pg];dsimp only;refine ae Z <| cg 4 Z Z Z Z <| aby <| apo Z Z Z <| ane <| ac <| anf <| ae Z <| ba 4 Z Z Z <| ae Z <| ane <| ar Z <| anf <| ba 5 Z Z Z <| am Z Z Z (I4 (s:=⟨t,0,0⟩) (n:=(B.length:Int)) (F:=ftP g3::pt g2 b9 (mfC ⟨3,m.title,dcZ,[],[]⟩ nilV nilV)::mrB g1 g (B.length:Int)::F) hB hb (fun _=>hL.2.1)) ?_;rintro _ _ ⟨rfl,rfl⟩;rw [R.cf hk];dsimp only;refine ae Z ?_;refine mE (vs:=dcC m.cfg0) (cs':=mfC ⟨3,m.title,m.cfg0,[],[]⟩ nilV nilV) 4 Z Z Z Z Z Z (by rw [d8 hc32];rfl) (aqm.2 jq) Z (I6 (m:=⟨3,m.title,dcZ,[],[]⟩) (by rfl) hc32) Z ?_;refine ane <| aa <| apo Z Z Z <| ane <| ac <| cq flo _ (by decide +kernel) av <| bj Z Zl <| cd 5 Z Z Z Z <| bj Z Zl <| cd 5 Z Z Z Z ?_;have hrr:fG B ⟨c,0,0⟩=(B.length:Int) - c:=by unfold fG;rw [if_neg (by simp)]
 refine fe Z Z Z Z ((lL (s:=⟨c,0,0⟩) (F:=ftP g3::pt g2 b9 (mfC ⟨3,m.title,m.cfg0,[],[]⟩ nilV nilV)::mrB g1 g (B.length:Int)::F) hB (fun _=>hL.2.2.1))) av ?_;rw [hrr];refine dx Z Z <| bj Z Zl <| ap <| ab <| anf <| ae Z <| ba 5 Z Z Z <| am Z Z Z (p8 (s:=⟨c,0,0⟩) (F:=ftP g3::pt g2 b9 (mfC ⟨3,m.title,m.cfg0,[],[]⟩ nilV nilV)::mrB g1 g (B.length:Int)::F) hB hb) ?_;rintro _ _ ⟨rfl,rfl⟩;rw [hnn];dsimp only;refine ae Z <| ane <| ac <| anf <| apo Z Z Z <| ane <| cj Z (fun h=>absurd h (by omega)) (fun _=>ah <| ab <| anf <| apn Z Z <| ba 5 Z Z Z <| ae Z ?_);refine am Z Z Z (I5 (s:=⟨q 0,0,0⟩) (c:=m.layers.length) (n:=(B.length:Int)) (F:=ftP g3::pt g2 b9 (mfC ⟨3,m.title,m.cfg0,[],[]⟩ nilV nilV)::mrB g1 g (B.length:Int)::F) hB hb (fun k hk2 _=>by rw [hD k (by omega)];exact hat k (by omega)) (fun k hk2=>by rw [hD k (by omega)];dsimp only;rw [hds k hk2];exact (hm.l _ (by rw [hmm];exact apw hk2)).id.1) (by omega)) ?_;rintro lv _ ⟨_,rfl⟩;rw [hD _ (aqp _),aqk,hen];dsimp only;refine b6 (fun w H=>(H.oat (k:=0) Z).form) ?_;rintro ⟨A1,c1,rfl,_,_,_⟩;refine ae Z <| dS (cs':=mfC ⟨3,m.title,m.cfg0,[],[]⟩ (.slice A1 m.layers.length c1) nilV) 5 Z Z Z Z Z Z Z Z (I7 hc32) Z ?_;have hfin:mfC ⟨3,m.title,m.cfg0,[],[]⟩ (.slice A1 m.layers.length c1) nilV=mfC m (.slice A1 m.layers.length c1) nilV:=by unfold mfC;rw [hk]
 rw [hfin];have hl:=jz (lv:= .slice A1 m.layers.length c1) (sv:=nilV) hc32;have ho:=y4 (m:=m) (lv:= .slice A1 m.layers.length c1) (sv:=nilV) Z Z;refine ane <| ac <| cq flo _ (by decide +kernel) av ?_
 skip
 refine fw 5 Z Z Z Z Z Z (cp (by rw [hl];rfl)) Z Z ?_;refine cd 4 Z Z Z Z <| yc 5 Z Z Z Z Z Z Z Z hl ho Z av <| qc 4 Z Z Z Z Z Z Z Z Z Z Z Z av <| ap <| ab <| aj <| ez Z (.whole 5 Z Z Z Z hl (.agg 4 Z Z Z Z Z .nil)) (af 7 [0,1,2,3] Z) ?_;exact ⟨_,rfl,rfl⟩
end

section
variable {b:World} {F:List SP} {g gw:Nat} {v:Value} {B:List Int} {m:Mf} {t c:Nat} {q:Nat→Nat}
theorem Uz (hB:B.length≤1000000) (hb:fq B) (hm:MfN m) (hk:m.kind=4) (hs:m.layers = []) (hz:m.cfg0=dcZ) (h8:m.subs.length≤8) (R:MfR B m t c q) :
  SC Tryz.prog mz [mrV g (B.length:Int)] b (wrP g gw v B r0++F) (fun u F'=>∃ lv,u = .tuple ⟨[.agg ⟨mfC m nilV lv⟩,.agg ⟨[ii 0,ii 0]⟩]⟩∧F'=rDs lv m.subs::(wrP g gw v B ⟨B.length,0,0⟩++F)):=by
 obtain rfl:c=t:=R.ct (by omega);have hL:=R.le;have hmm:m.many=m.subs:=by rw [Mf.many,hs];rfl
 have hn:=hm.n;rw [hmm] at hn;have hat:∀ k,k≤m.subs.length→q k≤B.length:=fun k hk=>hL.2.2.2 k (by rw [hmm];exact hk)
 have hD:∀ k,k≤m.subs.length→vd B k ⟨q 0,0,0⟩=(m.subs.take k,⟨q k,0,0⟩):=fun k hk=>by
  have:=zG R k (by rw [hmm];exact hk);rw [hmm] at this;exact this
 have hds:∀ k (h:k<m.subs.length),rDc B ⟨q k,0,0⟩=(m.subs[k],⟨q (k+1),0,0⟩):=fun k h=>by
  have:=R.ds k (by rw [hmm];exact h);simpa [hmm] using this
 have hnn:=R.nn;rw [hmm] at hnn;have hen:=R.en;rw [hmm] at hen;have hc32:=hm.c.id.1;refine ao Tryz.func111 Z Z Z <| anf <| br Z Z Z Z Z fun g1=>bq Z Z Z Z Z fun g2=>bq Z Z Z Z Z fun g3=>aby <| ae Z <| ba 2 Z Z Z <| eg (show Ent _ (ftP g3::pt g2 b9 (mfC mfZ nilV nilV)::mrB g1 g (B.length:Int)::(wrP g gw v B r0++F)) from Ent.refl _) <| am Z Z Z ((p8 (s:=r0) (F:=ftP g3::pt g2 b9 (mfC mfZ nilV nilV)::mrB g1 g (B.length:Int)::F) hB hb).ent (af 6 [3,4,5,0,1,2] Z)) ?_
 rintro _ _ ⟨rfl,rfl⟩;rw [show r0=⟨0,0,0⟩ from rfl,R.n1];dsimp only;refine ae Z <| ane <| ac <| anf <| apn Z Z <| ane <| ai Z <| ah <| ab <| anf <| ae Z <| ba 5 Z Z Z <| am Z Z Z (p8 (s:=⟨1,0,0⟩) (F:=ftP g3::pt g2 b9 (mfC mfZ nilV nilV)::mrB g1 g (B.length:Int)::F) hB hb) ?_;rintro _ _ ⟨rfl,rfl⟩;rw [R.n2,hk];dsimp only;refine ae Z <| cg 4 Z Z Z Z <| ane <| ac <| anf <| ae Z <| ba 4 Z Z Z <| apo Z Z Z <| ba 4 Z Z Z <| apn Z Z <| ane <| ai Z <| ah <| ab <| anf <| ae Z <| ba 5 Z Z Z <| am Z Z Z (fI (most:=4096) (s:=⟨2,0,0⟩) (F:=ftP g3::pt g2 b9 (mfC ⟨4,⟨#[]⟩,dcZ,[],[]⟩ nilV nilV)::mrB g1 g (B.length:Int)::F) hB hb (fun _=>hL.1)) ?_;rintro _ _ ⟨rfl,rfl⟩;rw [R.ti,pg];dsimp only;refine ae Z <| cg 4 Z Z Z Z <| aby <| apo Z Z Z <| ane <| ac <| anf <| ae Z <| ba 4 Z Z Z <| ae Z <| ane <| ai Z <| ah <| ab <| ac <| cq flo _ (by decide +kernel) av <| bj Z Zl <| cd 5 Z Z Z Z <| bj Z Zl <| cd 5 Z Z Z Z ?_;have hrr:fG B ⟨c,0,0⟩=(B.length:Int) - c:=by unfold fG;rw [if_neg (by simp)]
 refine fe Z Z Z Z ((lL (s:=⟨c,0,0⟩) (F:=ftP g3::pt g2 b9 (mfC ⟨4,m.title,dcZ,[],[]⟩ nilV nilV)::mrB g1 g (B.length:Int)::F) hB (fun _=>hL.2.2.1))) av ?_;rw [hrr];refine dx Z Z <| bj Z Zl <| ap <| ab <| anf <| ae Z <| ba 5 Z Z Z <| am Z Z Z (p8 (s:=⟨c,0,0⟩) (F:=ftP g3::pt g2 b9 (mfC ⟨4,m.title,dcZ,[],[]⟩ nilV nilV)::mrB g1 g (B.length:Int)::F) hB hb) ?_;rintro _ _ ⟨rfl,rfl⟩;rw [hnn];dsimp only;refine ae Z <| ane <| ac <| anf <| apo Z Z Z <| ane <| cj Z (fun h=>absurd h (by omega)) (fun _=>ah <| ab <| anf <| apn Z Z <| ba 5 Z Z Z <| ae Z ?_);refine am Z Z Z (I5 (s:=⟨q 0,0,0⟩) (c:=m.subs.length) (n:=(B.length:Int)) (F:=ftP g3::pt g2 b9 (mfC ⟨4,m.title,dcZ,[],[]⟩ nilV nilV)::mrB g1 g (B.length:Int)::F) hB hb (fun k hk2 _=>by rw [hD k (by omega)];exact hat k (by omega)) (fun k hk2=>by rw [hD k (by omega)];dsimp only;rw [hds k hk2];exact (hm.l _ (by rw [hmm];exact apw hk2)).id.1) (by omega)) ?_;rintro lv _ ⟨_,rfl⟩;rw [hD _ (aqp _),aqk,hen];dsimp only;refine b6 (fun w H=>(H.oat (k:=0) Z).form) ?_;rintro ⟨A1,c1,rfl,_,_,_⟩;refine ae Z <| cg 5 Z Z Z Z <| ane <| ac ?_;have hfin:mfC ⟨4,m.title,dcZ,[],[]⟩ nilV (.slice A1 m.subs.length c1)=mfC m nilV (.slice A1 m.subs.length c1):=by unfold mfC;rw [hk,hz]
 have hl:=jz (lv:=nilV) (sv:= .slice A1 m.subs.length c1) hc32;have ho:=y4 (m:=m) (lv:=nilV) (sv:= .slice A1 m.subs.length c1) Z Z;refine qb (show Ent _ (rDs (.slice A1 m.subs.length c1) m.subs::(wrP g gw v B ⟨B.length,0,0⟩++ftP g3::pt g2 b9 (mfC ⟨4,m.title,dcZ,[],[]⟩ nilV (.slice A1 m.subs.length c1))::mrB g1 g (B.length:Int)::F)) from Ent.refl _) ?_;rw [hfin];refine cq flo _ (by decide +kernel) av ?_
 skip
 refine fw 5 Z Z Z Z Z Z (cp (by rw [hl];rfl)) Z Z ?_;refine cd 4 Z Z Z Z <| yc 5 Z Z Z Z Z Z Z Z hl ho Z av <| qc 4 Z Z Z Z Z Z Z Z Z Z Z Z av <| ap <| ab <| aj <| ez Z (.whole 5 Z Z Z Z hl (.agg 4 Z Z Z Z Z .nil)) (af 7 [0,1,2,3] Z) ?_;exact ⟨_,rfl,rfl⟩
theorem Lo {n:Int} (hB:B.length≤1000000):SC Tryz.prog cZ [mrV g n] b (wrP g gw v B ⟨B.length,0,0⟩++F) (fun u F'=>u = .tuple ⟨[.agg ⟨[ii 0,ii 0]⟩,.bool false]⟩∧F'=wrP g gw v B ⟨B.length,0,0⟩++F):=by
 have hE:tG B ⟨B.length,0,0⟩=(0,0):=by unfold tG;rw [if_neg (by simp)]
 refine ao Tryz.func112 Z Z Z <| anf <| br Z Z Z Z Z fun g1=>bq Z Z Z Z Z fun g2=>ae Z <| aby <| ae Z <| ba 1 Z Z Z <| am Z Z Z ((yV (s:=⟨B.length,0,0⟩) (F:=ftP g2::mrB g1 g n::F) hB).ent (af 5 [2,3,4,0,1] Z)) ?_
 rintro _ _ ⟨rfl,rfl⟩;rw [hE];dsimp only
 skip
 refine bq Z Z Z Z Z fun g4=>cg 0 Z Z Z Z <| ane <| ac <| cq flo _ (by decide +kernel) av <| cd 0 Z Z Z Z <| bj Z Zl <| cd 0 Z Z Z Z <| bj Z Zl <| bj Z Zl <| bj Z Zl <| bj Z Zl <| bj Z (.inr Z) <| bj Z Zl <| bj Z Zl <| qc 4 Z Z Z Z Z Z Z Z Z Z Z Z av <| bj Z Zl <| ap <| ab <| aj <| ez Z (.agg 4 Z Z Z Z Z (.tmp Z .nil)) (af 6 [1,2,3] Z) ?_
 exact ⟨rfl,rfl⟩
end

theorem De (s:ByteArray):fq (dz s):=fun x hx=>by
 obtain ⟨y,_,rfl⟩:=ap8.1 hx;have:=y.toNat_lt;omega
theorem P3 {d:Dc} (h:DcN d):fq (dcB d):=by
 unfold dcB;refine (ou _).app (fq.app (fun x hx=>(Zo x).1 (h.id.2 x hx)) ((ou _).app ((ou _).app (De _))))
theorem U0 {l:List Dc} (h:∀ d∈l,DcN d):fq (l.flatMap dcB):=fun x hx=>by
 obtain ⟨d,hd,hx⟩:=as3.1 hx;exact P3 (h d hd) x hx
theorem P4 {m:Mf} (h:MfN m):fq (mfB m):=by
 unfold mfB;refine (ou _).app <| (ou _).app <| fq.app ((ou _).app (De _)) <| fq.app ?_ ((ou _).app (U0 h.l))
 split
 ·exact P3 h.c
 ·exact fun _ hx=>by cases hx
section
variable {b:World} {F:List SP} {g gw:Nat} {v:Value} {m:Mf}
theorem aa0 (hw:MfW m):SC Tryz.prog mz [mrV g ((mfB m).length:Int)] b (wrP g gw v (mfB m) r0++F) (fun u F'=>∃ lv sv,u = .tuple ⟨[.agg ⟨mfC m lv sv⟩,.agg ⟨[ii 0,ii 0]⟩]⟩∧F'=rDs lv m.layers::rDs sv m.subs::(wrP g gw v (mfB m) ⟨(mfB m).length,0,0⟩++F)):=by
 obtain ⟨t,c,q,R⟩:=Uf hw.n;have hB:(mfB m).length≤1000000:=by have:=hw.n.b;omega
 rcases hw.n.k with hk | hk
 ·refine (Uy hB (P4 hw.n) hw.n hk (hw.i hk) R).out ?_;rintro _ _ ⟨lv,rfl,rfl⟩;refine ⟨_,?_,lv,nilV,rfl,rfl⟩;rw [hw.i hk];exact (de t_api_Desc 35 Z).trans (af 2 [1,0] Z)
 ·refine (Uz hB (P4 hw.n) hw.n hk (hw.x hk).1 (hw.x hk).2 hw.s R).out ?_;rintro _ _ ⟨lv,rfl,rfl⟩;refine ⟨_,?_,nilV,lv,rfl,rfl⟩;rw [(hw.x hk).1];exact de t_api_Desc 35 Z
theorem nT {vb:Value} (hw:MfW m) (hv:∀ w,Sat b F w→VL (Value.int .u8) w vb (mfB m)):SC Tryz.prog rW [vb] b F (fun u F'=>∃ lv sv,u = .tuple ⟨[.agg ⟨mfC m lv sv⟩,.agg ⟨[ii 0,ii 0]⟩]⟩∧F'=rDs lv m.layers::rDs sv m.subs::F):=by
 have hb:=hw.n.b;have hB:(mfB m).length≤1000000:=by omega
 have hc32:=hw.n.c.id.1;have hms:=fun (F:List SP) (g gw:Nat) (v:Value)=>aa0 (b:=b) (F:=F) (g:=g) (gw:=gw) (v:=v) hw
 generalize hBm:mfB m=B at *;refine ao Tryz.func53 Z Z Z <| bu (fun w H=>(hv w H).form) ?_;rintro ⟨A,c,rfl,_,_,_,_⟩;refine anf <| bq Z Z Z Z Z fun g2=>bq Z Z Z Z Z fun g3=>ane <| ac <| anf <| apo Z Z Z <| ane <| cj Z (fun h=>absurd h (by omega)) (fun _=>ah <| ab <| anf <| ae Z <| am Z Z Z (oO (B:=B) (up hv (af 2 [] Z)) hB) ?_)
 rintro _ _ ⟨g,gw,v,rfl,rfl⟩;refine apo Z Z Z <| bq Z Z Z Z Z fun g4=>cg 0 Z Z Z Z <| aby <| ba 0 Z Z Z <| am Z Z Z ((hms (mrB g4 g (B.length:Int)::ftP g3::pt g2 b9 (mfC mfZ nilV nilV)::F) g gw v).ent (af 6 [1,2,3,0,4,5] Z)) ?_
 rintro _ _ ⟨lv,sv,rfl,rfl⟩;refine b6 (fun w H=>(H.oat (k:=0) Z).form) ?_;rintro ⟨A1,c1,rfl,_,_,_⟩;refine b6 (fun w H=>(H.oat (k:=1) Z).form) ?_;rintro ⟨A2,c2,rfl,_,_,_⟩;have hl:=jz (lv:= .slice A1 m.layers.length c1) (sv:= .slice A2 m.subs.length c2) hc32;have ho:=y4 (m:=m) (lv:= .slice A1 m.layers.length c1) (sv:= .slice A2 m.subs.length c2) Z Z;refine apo Z Z Z <| bq Z Z Z Z Z fun g5=>bq Z Z Z Z Z fun g6=> ?_;refine eh 1 Z Z Z Z Z Z Z hl ho (by rw [hl];rfl) ?_;refine cg 0 Z Z Z Z <| ane <| ac <| anf <| ba 7 Z Z Z <| au Z Z Z ((Lo (g:=g) (gw:=gw) (v:=v) (n:=(B.length:Int)) (F:=rDs (.slice A1 m.layers.length c1) m.layers::rDs (.slice A2 m.subs.length c2) m.subs::ftP g6::pt g5 b9 (mfC m (.slice A1 m.layers.length c1) (.slice A2 m.subs.length c2))::mrB g4 g (B.length:Int)::ftP g3::pt g2 b9 (mfC mfZ nilV nilV)::F) hB).at (af 10 [4,5,6,2,3,0,1,7,8,9] Z) (af 10 [5,6,3,4,0,1,2,7,8,9] Z)) <| apo Z Z Z <| bq Z Z Z Z Z fun g7=>cg 0 Z Z Z Z <| ae Z <| aby <| ae Z <| ane <| ai Z <| anf <| ba 1 Z Z Z <| ae Z <| j6 Z (y8 Z Z (n8 0 0 0 0)) Z ?_
 refine bn 33 (.bool true) Z (by rw [ap5 ⟨rfl,rfl⟩]) ?_;refine ane <| ar Z <| aa <| ba 0 Z Z Z <| cg 1 Z Z Z Z <| ane <| ac <| anf <| ba 1 Z Z Z <| ae Z <| j6 Z (wk Z Z (n8 0 0 0 0)) Z ?_;refine bn 37 (.bool false) Z (by rw [ap5 ⟨rfl,rfl⟩];rfl) ?_;refine ane <| ai Z <| ah <| ab <| ac <| cq flo (ftP g6::pt g5 b9 (mfC m (.slice A1 m.layers.length c1) (.slice A2 m.subs.length c2))::F) (by decide +kernel) (af 11 [1,2] Z) ?_;refine fw 1 Z Z Z Z Z Z (cp (by rw [hl];rfl)) Z Z ?_;refine cd 0 Z Z Z Z ?_;refine yc 10 Z Z Z Z Z Z Z Z hl ho (by rw [hl];rfl) (af 11 [1,2] Z) ?_;refine qc 9 Z Z Z Z Z Z Z Z Z Z Z Z (af 11 [1,2] Z) <| ap <| ab <| aj <| ez Z (.whole 10 Z Z Z Z hl (.agg 9 Z Z Z Z Z .nil)) (af 11 [3,4] Z) ?_;exact ⟨_,_,rfl,rfl⟩
end

def thC (d:Dc) (dep:Int) (fi:Bool):List Value:=dcC d ++ [ii dep,.bool fi]
section
variable {d:Dc} {dep:Int} {fi:Bool}
theorem U1 {α:Type} {A C:List α} {k:Nat} {x:α} (h:nth A k=some x):nth (A++C) k=some x:=by
 rw [o9,if_pos (by rw [np] at h;exact (ap4.1 h).1)];exact h
theorem aa1 (h:d.id.length=32):sn (thC d dep fi) 1 32=some (u8s d.id):=by
 have e:=lQ [ii d.media] (B:=u8s d.id) (C:= [ii d.size,.string d.plat] ++ [ii dep,.bool fi]) (o:=1) (n:=32) Z (by rw [bz,h]);have h2 : [Value.int .i64 d.media]++(u8s d.id++([ii d.size,.string d.plat] ++ [ii dep,.bool fi]))=thC d dep fi:=by simp [thC,dcC]
 rw [← h2];exact e
theorem amp (h:d.id.length=32):nth (thC d dep fi) 33=some (ii d.size):=U1 (xC h)
theorem amq (h:d.id.length=32):nth (thC d dep fi) 35=some (ii dep):=fQ (dcC d) (d8 h)
theorem Lp (h:d.id.length=32):nth (thC d dep fi) 36=some (.bool fi):=by
 have e:=fQ (dcC d ++ [ii dep]) (x:= .bool fi) (C:= []) (o:=36) (by rw [aps,d8 h];rfl);have h2:dcC d ++ [Value.int .i64 dep] ++ [.bool fi]=thC d dep fi:=by simp [thC]
 rw [← h2];exact e
end
abbrev thP (gt:Nat) (d:Dc) (dep:Int) (fi:Bool):SP:=pt gt pL (thC d dep fi)
section
variable {b:World} {F:List SP} {gt g2 g3 gs gm:Nat} {d:Dc} {dep:Int} {fi:Bool}
theorem yj {x:Value} {e:Int}:SC Tryz.prog bW [x,.bool true,ii e] b F (fun _ F'=>F'=F):=by
 refine ao Tryz.func197 Z Z Z <| anf <| apn Z Z <| ane <| ai Z <| ah <| io Z .nil av ?_
 rfl
theorem P5 (h:d.id.length=32):SC Tryz.prog kr [pp gt] b (thP gt d dep true::F) (fun u F'=>u = .bool true∧F'=thP gt d dep true::F):=by
 refine ao Tryz.func198 Z Z Z <| anf <| ae Z <| aby <| apo Z Z Z <| ix 0 Z Z Z Z Z Z (Lp h) Z ?_
 (iterate 17 refine ae Z ?_)
 refine ane <| aj <| bh Z Z av ?_;exact ⟨rfl,rfl⟩
theorem aa2 (h:d.id.length=32) (hm:d.media=3):SC Tryz.prog kr [pp gt] b (thP gt d dep fi::F) (fun u F'=>u = .bool true∧F'=thP gt d dep fi::F):=by
 cases fi with
 | true => exact P5 h
 | false =>
 refine ao Tryz.func198 Z Z Z <| anf <| ae Z <| aby <| apo Z Z Z <| ix 0 Z Z Z Z Z Z (Lp h) Z ?_
 (iterate 5 refine ae Z ?_)
 refine ba 0 Z Z Z <| apo Z Z Z <| wt 15 Z hm ?_
 (iterate 8 refine ae Z ?_)
 refine ane <| aj <| bh Z Z av ?_;exact ⟨rfl,rfl⟩
theorem aa3 (h:d.id.length=32) (hm:d.media=1∨d.media=2):SC Tryz.prog kr [pp gt] b (thP gt d dep false::F) (fun u F'=>u = .bool false∧F'=thP gt d dep false::F):=by
 refine ao Tryz.func198 Z Z Z <| anf <| ae Z <| aby <| apo Z Z Z <| ix 0 Z Z Z Z Z Z (Lp h) Z ?_
 (iterate 5 refine ae Z ?_)
 refine ba 0 Z Z Z <| apo Z Z Z <| qp 15 Z <| apo Z Z Z <| ae Z <| ba 0 Z Z Z <| apo Z Z Z <| ane <| aj <| bh Z Z av ?_;exact ⟨ap2 Value.bool (aqo (by omega)),rfl⟩
theorem P6:SC Tryz.prog sB [pp gs,pp gt] b F (fun u F'=>∃ g2 g3,u = .func (.func ut) ⟨[]⟩ ⟨[pp g2,pp g3]⟩∧F'=pt g2 jg [pp gs]::pt g3 ol [pp gt]::F):=by
 refine ao Tryz.func120 Z Z Z <| anf <| br Z Z Z Z Z fun g2=>br Z Z Z Z Z fun g3=>ae Z <| aby <| apn Z Z <| ane <| aj <| bh Z Z (af 2 [1,0] Z) ?_
 exact ⟨g2,g3,rfl,rfl⟩
def okW (n:Nat) (xs:List (List Int)) (a:List Int) (vs:List Value) (A:SP):Prop:=∃ g d dep fi,vs = [pp g]∧A=thP g d dep fi∧d.id=a∧idOk a∧xs.length<n
abbrev wkF (g2 g3 gs gt:Nat) (d:Dc) (dep:Int) (fi:Bool) (F:List SP):List SP:=pt g2 jg [pp gs]::pt g3 ol [pp gt]::thP gt d dep fi::F
variable {w r u:Int} {l:List Kp}
theorem aa4 {m n:Nat} {J:List (List Int)→SP} {xs:List (List Int)} {e:Kp} (hY:xy Tryz.prog m b (okW n) J) (hid:idOk d.id) (hf:eq d.id l=some e) (hlen:e.b.length≤4096) (hsz:(e.b.length:Int)=d.size) (hm:d.media=1∨d.media=2) (hx:xs.length<n) :
  SC Tryz.prog ut [.func (.yield m) ⟨[]⟩ ⟨[]⟩,pp g2,pp g3] b (J xs::wkF g2 g3 gs gt d dep false (stB gs gm w r u l F)) (fun _ F'=>F'=J (xs ++ [d.id])::wkF g2 g3 gs gt d dep false (stB gs gm w r u l F)):=by
 refine yt Tryz.func196 Z Z Z <| anf <| br Z Z Z Z Z fun g4=>ane <| ac <| cq flo _ (by decide +kernel) av <| cd 2 Z Z Z Z <| cd 3 Z Z Z Z <| bj Z Zl <| bj Z Zl <| bj Z Zl <| fw 4 Z Z Z Z Z Z (aa1 hid.1) Z Z <| dh Z Z Z Z ((yd (gs:=gs) (gm:=gm) (w:=w) (r:=r) (u:=u) (l:=l) (F:=pt g4 319 [.func (.yield m) ⟨[]⟩ ⟨[]⟩]::J xs::wkF g2 g3 gs gt d dep false F) hid hf (by omega)).ent (af 8 [5,6,7,0,1,2,3,4] Z)) ?_
 rintro _ _ ⟨v1,rfl,rfl⟩;refine ⟨af 9 [4,5,6,7,8,1,2,3] rfl,(lh (fun w H=>(H.oat (k:=0) Z).form) ?_)⟩;rintro ⟨A,c,rfl,_,_,_⟩
 (iterate 5 refine bj Z Zl ?_)
 refine ap <| ri (af 9 [4,5,6,7,8,1,2,3] Z) <| ab <| anf <| ba 3 Z Z Z <| ae Z <| am Z Z Z (yj) ?_;rintro _ _ rfl;refine ane <| ac <| cq flo _ (by decide +kernel) av <| cd 3 Z Z Z Z <| cd 3 Z Z Z Z <| bj Z Zl <| bj Z Zl <| zu 4 Z Z Z Z Z Z (Lp hid.1) Z Z <| bj Z Zl <| bj Z Zl <| bj Z Zl <| cd 3 Z Z Z Z <| bj Z Zl <| bj Z Zl <| bj Z Zl <| zu 4 Z Z Z Z Z Z (amp hid.1) Z Z <| bj Z Zl <| bj Z Zl <| cJ 38 Z hsz <| dh Z Z Z Z yj ?_;rintro _ _ rfl;refine ⟨Ent.refl _,(ap <| ab <| ac <| anf <| ba 3 Z Z Z <| au Z Z Z ((aa3 (F:=pt g4 319 [.func (.yield m) ⟨[]⟩ ⟨[]⟩]::J xs::pt g2 jg [pp gs]::pt g3 ol [pp gt]::stB gs gm w r u l F) hid.1 hm).at (af 5 [4,0,1,2,3] Z) (af 5 [1,2,3,4,0] Z)) <| ae Z <| ane <| ar Z <| ac <| cq flo _ (by decide +kernel) av ?_)⟩;rcases hm with hm | hm
 ·refine cd 3 Z Z Z Z <| cd 3 Z Z Z Z <| bj Z Zl <| bj Z Zl <| bj Z Zl <| cd 4 Z Z Z Z <| bj Z Zl <| bj Z Zl <| cJ 50 Z (by omega) ?_
  (iterate 7 refine bj Z Zl ?_)
  refine dh Z Z Z Z yj ?_;rintro _ _ rfl;refine ⟨Ent.refl _,(ap <| ab <| anf <| ba 0 Z Z Z <| ba 3 Z Z Z <| uo hY Z Z Z (af 5 [1,4,0,2,3] Z) ⟨gt,d,dep,false,rfl,rfl,rfl,hid,hx⟩ <| ane <| aj <| al ?_)⟩;refine yB (yC Z .nil (af 5 [0,3,4,1] Z) Z)
 ·refine cd 3 Z Z Z Z <| cd 3 Z Z Z Z <| bj Z Zl <| bj Z Zl <| bj Z Zl <| cd 4 Z Z Z Z <| bj Z Zl <| bj Z Zl <| oF 50 Z (by omega) <| cd 3 Z Z Z Z <| bj Z Zl <| bj Z Zl <| bj Z Zl <| cd 4 Z Z Z Z <| bj Z Zl <| bj Z Zl <| cJ 57 Z (by omega) <| dh Z Z Z Z yj ?_;rintro _ _ rfl;refine ⟨Ent.refl _,(ap <| ab <| anf <| ba 0 Z Z Z <| ba 3 Z Z Z <| uo hY Z Z Z (af 5 [1,4,0,2,3] Z) ⟨gt,d,dep,false,rfl,rfl,rfl,hid,hx⟩ <| ane <| aj <| al ?_)⟩;refine yB (yC Z .nil (af 5 [0,3,4,1] Z) Z)
end

section
variable {b:World} {F:List SP} {gt g2 g3 gs gm:Nat} {d:Dc} {dep:Int} {fi:Bool} {w r u:Int} {l:List Kp}
def xF (b:World) (gs gm:Nat) (w r u:Int) (l:List Kp) (d:Dc) (dep:Int) (fi:Bool) (ys:List (List Int)):Prop :=
 ∀ (n m:Nat) (J:List (List Int)→SP) (xs:List (List Int)) (gt g2 g3:Nat) (F:List SP),xy Tryz.prog m b (okW n) J→xs.length+ys.length≤n →
  SC Tryz.prog ut [.func (.yield m) ⟨[]⟩ ⟨[]⟩,pp g2,pp g3] b (J xs::wkF g2 g3 gs gt d dep fi (stB gs gm w r u l F)) (fun _ F'=>F'=J (xs++ys)::wkF g2 g3 gs gt d dep fi (stB gs gm w r u l F))
theorem aa5 {e:Kp} (hid:idOk d.id) (hf:eq d.id l=some e) (hlen:e.b.length≤4096) (hsz:(e.b.length:Int)=d.size) (hm:d.media=1∨d.media=2):xF b gs gm w r u l d dep false [d.id] :=
 fun n m J xs gt g2 g3 F hY hn=>aa4 hY hid hf hlen hsz hm (by simp at hn;omega)
theorem U2 {P:Program} {N:Nat} {E:List (Nat × Value)} {b:World} {F:List SP} {fn:Func} {R:Value→List SP→Prop} {Ds:List Nat} (h:SQ P fn N R E [] b F):SQ P fn N R E (Ds.map rh) b (Bc Ds::F):=by
 have:=Y9 (Ds:=Ds) h;rwa [aqg] at this
set_option maxHeartbeats 16000000 in
theorem P7 {e:Kp} {m0:Mf} {ys:List (List (List Int))} (hid:idOk d.id) (hf:eq d.id l=some e) (hb:e.b=mfB m0) (hw:MfW m0) (hsz:fi=true∨(e.b.length:Int)=d.size) (ht:fi=true∨d.media=3) (hdep:1≤dep∧dep≤4) (hkm:fi=true∨m0.kind=d.media) (hy:ys.length=(mfD m0).length)
  (hch:∀ k (hk:k<(mfD m0).length) (hk2:k<ys.length),xF b gs gm w r u l ((mfD m0)[k]) (dep+1) false (ys[k])):xF b gs gm w r u l d dep fi (d.id::ys.flatten):=by
 intro n m J xs gt g2 g3 F hY hn;have hel:e.b.length≤4096:=by rw [hb];exact hw.n.b
 have hc32:=hw.n.c.id.1;have hDn:(mfD m0).length≤17:=by
  have:=hw.n.n;unfold mfD;rw [ap0,aps];rw [Mf.many] at this
  split <;> simp at this ⊢ <;> omega
 have hD32:Cx (mfD m0):=fun x hx=>by
  unfold mfD at hx;rw [ap0] at hx;rcases ap6.1 hx with h | h
  ·split at h
   ·rw [apy.1 h];exact hc32
   ·cases h
  ·exact (hw.n.l x h).id.1
 refine yt Tryz.func196 Z Z Z <| anf <| br Z Z Z Z Z fun g4=>ane <| ac <| cq flo _ (by decide +kernel) av <| cd 2 Z Z Z Z <| cd 3 Z Z Z Z <| bj Z Zl <| bj Z Zl <| bj Z Zl <| fw 4 Z Z Z Z Z Z (aa1 hid.1) Z Z <| dh Z Z Z Z ((yd (gs:=gs) (gm:=gm) (w:=w) (r:=r) (u:=u) (l:=l) (F:=pt g4 319 [.func (.yield m) ⟨[]⟩ ⟨[]⟩]::J xs::wkF g2 g3 gs gt d dep fi F) hid hf (by omega)).ent (af 8 [5,6,7,0,1,2,3,4] Z)) ?_
 rintro _ _ ⟨v1,rfl,rfl⟩;refine ⟨af 9 [4,5,6,7,8,1,2,3] rfl,(lh (fun w H=>(H.oat (k:=0) Z).form) ?_)⟩;rintro ⟨A,c,rfl,_,_,_⟩
 (iterate 5 refine bj Z Zl ?_)
 refine ap <| ri (af 9 [0,4,5,6,7,8,1,2,3] Z) <| ab <| anf <| ba 4 Z Z Z <| ae Z <| am Z Z Z (yj) ?_;rintro _ _ rfl
 skip
 refine ane ?_;refine qY (S:=Unit) (fun _=> [(1,pp g2),(2,pp g3),(3,pp g4),(4,.slice A e.b.length c)]) (fun _=>rB (.slice A e.b.length c) e.b::pt g4 319 [.func (.yield m) ⟨[]⟩ ⟨[]⟩]::J xs::wkF g2 g3 gs gt d dep fi (stB gs gm w r u l F)) (fun _=>True) ?_ (fun _ _=> ?_)
 ·refine cq flo _ (by decide +kernel) av <| cd 4 Z Z Z Z <| cd 4 Z Z Z Z <| bj Z Zl <| bj Z Zl <| zu 5 Z Z Z Z Z Z (Lp hid.1) Z Z ?_;cases fi with
  | true =>
   (iterate 10 refine bj Z Zl ?_)
   refine dh Z Z Z Z yj ?_;rintro _ _ rfl;refine ⟨Ent.refl _,(ap ?_)⟩;exact iR () av trivial
  | false =>
   have hsz2:(e.b.length:Int)=d.size:=hsz.resolve_left (by simp);refine bj Z Zl <| bj Z Zl <| bj Z Zl <| cd 4 Z Z Z Z <| bj Z Zl <| bj Z Zl <| bj Z Zl <| zu 5 Z Z Z Z Z Z (amp hid.1) Z Z <| bj Z Zl <| bj Z Zl <| cJ 38 Z hsz2 <| dh Z Z Z Z yj ?_;rintro _ _ rfl;refine ⟨Ent.refl _,(ap ?_)⟩;exact iR () av trivial
 have htr:∀ {G:List SP},SC Tryz.prog kr [pp gt] b (thP gt d dep fi::G) (fun u F'=>u = .bool true∧F'=thP gt d dep fi::G):=by
  intro G;rcases ht with rfl | h3
  ·exact P5 hid.1
  ·exact aa2 hid.1 h3
 refine ac <| anf <| ba 4 Z Z Z <| au Z Z Z ((htr (G:=rB (.slice A e.b.length c) e.b::pt g4 319 [.func (.yield m) ⟨[]⟩ ⟨[]⟩]::J xs::pt g2 jg [pp gs]::pt g3 ol [pp gt]::stB gs gm w r u l F)).at (af 6 [5,0,1,2,3,4] Z) (af 6 [1,2,3,4,5,0] Z)) <| ae Z <| ane <| ai Z <| ah <| ab <| ac <| cq flo _ (by decide +kernel) av <| cd 4 Z Z Z Z <| cd 4 Z Z Z Z <| bj Z Zl <| bj Z Zl <| zu 5 Z Z Z Z Z Z (amq hid.1) Z Z <| bj Z Zl <| cJ 67 Z (by omega) <| dh Z Z Z Z yj ?_;rintro _ _ rfl;refine ⟨Ent.refl _,(ap <| ab <| anf <| ae Z <| am Z Z Z (nT hw (fun w H=>hb▸vlB (k:=0) Z w H)) ?_)⟩;rintro _ _ ⟨lv,sv,rfl,rfl⟩;refine b6 (fun w H=>(H.oat (k:=0) Z).form) ?_;rintro ⟨A1,c1,rfl,_,_,_⟩;refine b6 (fun w H=>(H.oat (k:=1) Z).form) ?_;rintro ⟨A2,c2,rfl,_,_,_⟩;have hl:=jz (lv:= .slice A1 m0.layers.length c1) (sv:= .slice A2 m0.subs.length c2) hc32;have ho:=y4 (m:=m0) (lv:= .slice A1 m0.layers.length c1) (sv:= .slice A2 m0.subs.length c2) Z Z;refine apo Z Z Z <| bq Z Z Z Z Z fun g6=>bq Z Z Z Z Z fun g7=> ?_;refine eh 1 Z Z Z Z Z Z Z hl ho (by rw [hl];rfl) ?_;refine cg 0 Z Z Z Z <| aby <| ba 8 Z Z Z <| ae Z <| ba 0 Z Z Z <| ae Z <| am Z Z Z (yj) ?_;rintro _ _ rfl
 skip
 refine ane ?_;refine qY (S:=Unit) (fun _=> [(1,pp g2),(2,pp g3),(3,pp g4),(6,pp g6)]) (fun _=>pt g6 b9 (mfC m0 (.slice A1 m0.layers.length c1) (.slice A2 m0.subs.length c2))::rDs (.slice A1 m0.layers.length c1) m0.layers::rDs (.slice A2 m0.subs.length c2) m0.subs::pt g4 319 [.func (.yield m) ⟨[]⟩ ⟨[]⟩]::J xs::wkF g2 g3 gs gt d dep fi (stB gs gm w r u l F)) (fun _=>True) ?_ (fun _ _=> ?_)
 ·refine qb (af 5 [1,2,3] Z) <| cq flo _ (by decide +kernel) av <| cd 6 Z Z Z Z <| cd 6 Z Z Z Z <| bj Z Zl <| bj Z Zl <| zu 7 Z Z Z Z Z Z (Lp hid.1) Z Z ?_;cases fi with
  | true =>
   (iterate 10 refine bj Z Zl ?_)
   refine dh Z Z Z Z yj ?_;rintro _ _ rfl;refine ⟨Ent.refl _,(ap ?_)⟩;exact iR () av trivial
  | false =>
   have hk2:m0.kind=d.media:=hkm.resolve_left (by simp);refine bj Z Zl <| bj Z Zl <| cd 0 Z Z Z Z <| cd 6 Z Z Z Z <| bj Z Zl <| bj Z Zl <| bj Z Zl <| cd 7 Z Z Z Z <| bj Z Zl <| bj Z Zl <| cJ 93 Z hk2 ?_
   skip
   refine dh Z Z Z Z yj ?_;rintro _ _ rfl;refine ⟨Ent.refl _,(ap ?_)⟩;exact iR () av trivial
 refine ac <| anf <| ba 3 Z Z Z <| ba 6 Z Z Z ?_;refine uo hY Z Z Z (af 8 [4,7,0,1,2,3,5,6] Z) ⟨gt,d,dep,fi,rfl,rfl,rfl,hid,by simp at hn;omega⟩ ?_;refine ae Z <| ane <| ai Z <| ah <| ab <| anf ?_;refine b7 2 Z Z Z Z Z Z (cp (by rw [hl];rfl)) Z ?_;refine am Z Z Z (qF hc32 (fun w H=>⟨H.sl (k:=3) rfl,H.sl (k:=4) rfl⟩) (by omega)) ?_;rintro u9 _ rfl;refine b6 (fun w H=>ci (H.sl (k:=0) Z)) ?_;rintro ⟨A9,c9,rfl,_,_,_,h4,_⟩;generalize mfD m0=D at *;refine apn Z Z <| ane <| ak ?_;refine Nn (S:=Nat × List Nat) (fun q=> [(1,pp g2),(2,pp g3),(3,pp g4),(100,.slice A9 D.length c9),(101,ii D.length),(102,ii q.1)]) (fun q=>q.2.map rh)
  (fun q=>J (xs ++ [d.id]++(ys.take q.1).flatten)::Bc q.2::pt g4 319 [.func (.yield m) ⟨[]⟩ ⟨[]⟩]::rDs (.slice A9 D.length c9) D::wkF g2 g3 gs gt d dep fi (stB gs gm w r u l F)) (fun q=>q.1≤D.length) (fun q=>D.length - q.1) (0,[]) ⟨rfl,rfl,rfl,rfl,rfl,rfl,trivial⟩ Z ?_ (aqc _) ?_
 ·dsimp only;rw [ar1,atc,aqg];exact (af 9 [1,6,0,7,8,2] Z).trans ((ee (G:= [])).trans (af 2 [1,0] Z))
 rintro ⟨i,Ds⟩ hi;dsimp only at hi ⊢;refine anf <| ae Z <| ane <| ac ?_;refine cj Z (fun h1=> ?_) (fun h1=> ?_)
 ·have h1':i<D.length:=by omega
  obtain ⟨gg,oo,rfl⟩:=h4 (by omega);have hyi:i<ys.length:=by omega
  have hx32:=hD32 _ (apw h1');have hchi:=hch i h1' hyi;have hsn:(ys.take (i+1)).flatten=(ys.take i).flatten++ys[i]:=by rw [apz hyi,asy,ar4,atc,aqg]
  have htot:(ys.take i).flatten.length+(ys[i]).length≤ys.flatten.length:=by
   have h5:ys.flatten=(ys.take (i+1)).flatten++(ys.drop (i+1)).flatten:=by rw [← asy,aqs]
   rw [h5,aps,hsn,aps];omega
  have hlen1:xs.length+1+ys.flatten.length≤n:=by simp at hn ⊢;omega
  have hc2:∀ {G:List SP} {k:Nat},nth G k=some (rDs (.slice (some ⟨gg,oo,none⟩) D.length c9) D)→∀ w,Sat b G w→∀ j,j<35→w.cell? ⟨gg,oo+i*35+j,none⟩=(dcC D[i])[j]?:=fun hk w H j hj=>ej (H.sl hk) (nP hD32) h1' hj
  generalize ys[i]=yi at *;generalize (ys.take i).flatten=y0 at *;generalize D[i]=x at *;have xl:=d8 hx32;refine ah <| ab <| ac <| ak <| anf <| ay Z ?_;refine fc Z (fun w H=>di (cs:=dcC x) Z Z Z xl (fun j hj=>by rw [b5,apu];exact hc2 (k:=3) Z w H j (by rw [xl] at hj;exact hj))) Z ?_;refine bq Z Z Z Z Z fun g9=> ?_;refine eh 0 Z Z Z Z Z Z Z xl jq (by rw [xl];rfl) ?_;refine ane <| ac <| cq flo _ (by decide +kernel) av <| cd 5 Z Z Z Z ?_;refine fw 0 Z Z Z Z Z Z (cp (by rw [xl];rfl)) Z Z ?_;refine cd 6 Z Z Z Z <| bj Z Zl <| bj Z Zl <| zu 7 Z Z Z Z Z Z (amq hid.1) Z Z <| dx Z Z <| mJ Z Z Z Z ⟨xl,rfl,rfl,trivial⟩ <| eu 113 (.agg ⟨thC x (dep+1) false⟩) Z Z <| El Z Z Z Z Z Z av fun g'=>dh Z Z Z Z P6 ?_
  rintro _ _ ⟨g2',g3',rfl,rfl⟩;refine ⟨af 3 [] rfl,(ap <| ab <| ak ?_)⟩;refine qs Z (okW (n - (xs.length+1+y0.length))) (fun xs2=> [J (xs ++ [d.id]++y0++xs2),pt g4 319 [.func (.yield m) ⟨[]⟩ ⟨[]⟩]])
   (wkF g2' g3' gs g' x (dep+1) false (stB gs gm w r u l (Bc Ds::rDs (.slice (some ⟨gg,oo,none⟩) D.length c9) D::wkF g2 g3 gs gt d dep fi F)))
   (fun xs2 F2=>xs2=yi∧F2=wkF g2' g3' gs g' x (dep+1) false (stB gs gm w r u l (Bc Ds::rDs (.slice (some ⟨gg,oo,none⟩) D.length c9) D::wkF g2 g3 gs gt d dep fi F))) ?_ Z ?_ ?_ ?_ ?_
  ·rw [aqg];exact af 14 [4,6,0,1,2,11,12,13,5,7,8,9,10] Z
  ·rintro _ _ _ _ ⟨_,_,_,_,rfl,_⟩;rfl
  ·rintro m2 D2 xs2 a vs A2 F0 Rr ⟨ga,da,depa,fia,rfl,rfl,rfl,ha,hl2⟩ hR;refine aa <| ae Z <| ad ?_
   skip
   refine mM <| ak <| anf <| ba 3 Z Z Z <| ae Z ?_;refine uo hY Z Z Z (af 5 [2,4,0,1,3] Z) ⟨ga,da,depa,fia,rfl,rfl,rfl,ha,by simp only [aps,arv];omega⟩ ?_;refine ae Z <| ane <| ai Z <| ah <| bg <| ri (af 5 [2,3,0,4,1] Z) <| r8 fun w H=>hR w <| H.ent ?_
   try dsimp only
   rw [ap0 (xs ++ [d.id]++y0)];exact Ent.refl _
  ·intro m2 J2 hY2;refine (hchi _ m2 J2 [] g' g2' g3' (Bc Ds::rDs (.slice (some ⟨gg,oo,none⟩) D.length c9) D::wkF g2 g3 gs gt d dep fi F) hY2 (by rw [aro];omega)).mono ?_;rintro _ _ rfl;exact ⟨_,_,rfl,rfl,rfl⟩
  ·rintro D2 _ _ ⟨rfl,rfl⟩;refine bg <| bg <| ab <| aa <| ay Z <| ae Z <| ad ?_;rw [show (i:Int)+1=((i+1:Nat):Int) by omega];refine Kd (i+1,D2::Ds) ⟨rfl,rfl,rfl,rfl,rfl,rfl,trivial⟩ Z ?_ (show i+1≤D.length by omega) (by dsimp only;omega);dsimp only;rw [hsn,← ap0];exact (af 14 [0,9,1,2,10,11,12,13,6,7,8] Z).trans (Sk.trans (af 2 [1,0] Z))
 ·obtain rfl:i=D.length:=by omega
  refine b8 <| aw <| ax <| aq <| Sj <| E9 (af 2 [1,0] Z) <| U2 <| yC Z .nil (af 3 [0] Z) ?_;have e1:xs ++ [d.id]++(ys.take D.length).flatten=xs++d.id::ys.flatten:=by rw [← hy,aqk];simp
  rw [e1]
end

abbrev mk0:Value:= .agg ⟨[ii 0]⟩
def eM (xs:List (List Int)):List (List Int × Value):=xs.foldl (fun E a=>lq a mk0 E) []
theorem U3 (xs:List (List Int)) (a:List Int):eM (xs ++ [a])=lq a mk0 (eM xs):=by unfold eM;rw [List.foldl_append];rfl
theorem uH:∀ (xs:List (List Int)) (E:List (List Int × Value)),jw (xs.foldl (fun E a=>lq a mk0 E) E)=zn xs (jw E)
 | [], _ => rfl
 | a :: xs, E => by
  show jw (xs.foldl _ (lq a mk0 E))=zn xs (jW a (jw E));rw [uH xs,fO]
theorem I8 (xs:List (List Int)):jw (eM xs)=zn xs []:=uH xs []
theorem aa6 (xs:List (List Int)):(eM xs).length≤xs.length:=by
 have h:=tZ (l:=xs) (S:= []);rw [← I8] at h;simpa [jw] using h
section
variable {b:World} {F:List SP} {gs gm g4 g5 g6:Nat} {w r u:Int} {l:List Kp}
theorem U4:SCR Tryz.prog mT [pp g4,pp g5,pp g6] b F (fun _ F'=>F'=F):=by
 refine Za Tryz.func119 Z Z Z Z Z <| anf <| ae Z ?_;refine j6 Z (ab6 (by kernel_rfl) Z) Z ?_;refine ane <| ai Z <| ah <| io Z .nil av ?_
 rfl
abbrev dsI (id:List Int):Dc:=⟨0,id,0,⟨#[]⟩⟩
theorem P8 {id:List Int} {ys:List (List Int)} (hid:idOk id) (hT:xF b gs gm w r u l (dsI id) 1 true ys) (hn:ys.length≤12) :
  SC Tryz.prog rY [pp gs,idV id] b (stB gs gm w r u l F) (fun v F'=>∃ o M,v = .tuple ⟨[o,idV (List.replicate 32 0),ii 0]⟩∧M.Nodup∧(∀ x,x∈M↔x∈ys)∧M.Pairwise leM∧F'=rJ o M::stB gs gm w r u l F):=by
 refine yt Tryz.func56 Z Z Z <| anf <| br Z Z Z Z Z fun g3=>bq Z Z Z Z Z fun g4=>bq Z Z Z Z Z fun g5=>bq Z Z Z Z Z fun g6=>ane <| ac <| anf <| apn Z Z <| ane <| ai Z <| ah <| ab <| anf <| ae Z <| wG Z Z <| aby <| qq idK idOk Z Z Z fun ga=>bq Z Z Z Z Z fun g7=>cg 0 Z Z Z Z <| ane <| ac <| anf <| ae Z ?_
 refine b7 5 Z Z Z Z Z Z (cp (by rw [bz,hid.1];rfl)) Z ?_
 skip
 refine Ez Z Z Z ⟨by show (u8s id).length=32;rw [bz,hid.1],trivial⟩ ?_;refine bn 16 (.agg ⟨dcC (dsI id)⟩) Z Z <| Ez Z Z Z ⟨d8 hid.1,rfl,rfl,trivial⟩ <| bn 17 (.agg ⟨thC (dsI id) 1 true⟩) Z Z <| br Z Z Z Z Z fun g18=> ?_
 skip
 refine am Z Z Z (P6) ?_;rintro _ _ ⟨g2',g3',rfl,rfl⟩;refine ane <| ak ?_;have hle:=aa6 ys;refine qs Z (okW 1000) (fun xs=> [mpI ga (eM xs),pt g7 d9 [.map (some ga)]])
  (wkF g2' g3' gs g18 (dsI id) 1 true (stB gs gm w r u l (pt g6 ja [ii 0]::pt g5 t_api_ID (u8s (List.replicate 32 0))::pt g4 jb [nilV]::F)))
  (fun xs F2=>xs=ys∧F2=wkF g2' g3' gs g18 (dsI id) 1 true (stB gs gm w r u l (pt g6 ja [ii 0]::pt g5 t_api_ID (u8s (List.replicate 32 0))::pt g4 jb [nilV]::F))) (af 12 [4,3,0,1,2,9,10,11,5,6,7] Z) Z ?_ ?_ ?_ ?_
 ·rintro _ _ _ _ ⟨_,_,_,_,rfl,_⟩;rfl
 ·rintro m2 D2 xs2 a vs A2 F0 Rr ⟨gx,da,depa,fia,rfl,rfl,rfl,ha,hl2⟩ hR;refine aa <| ae Z <| ad ?_
  skip
  refine mM <| ak <| ij flo 7 _ [] Z (by decide +kernel) av <| cd 3 Z Z Z Z <| bj Z Zl <| bj Z Zl <| bj Z Zl <| bj Z Zl <| fw 4 Z Z Z Z Z Z (aa1 ha.1) Z Z <| bj Z Zl <| ap <| ik Z (dc _) <| rH 2 (a:=da.id) (v:=mk0) aV ha Z Z Z Z Z Z Z Z Z (dc _) <| ap <| bg <| r8 fun w H=>hR w <| H.ent ?_
  try dsimp only
  rw [U3];exact Ent.refl _
 ·intro m2 J2 hY2;refine (hT 1000 m2 J2 [] g18 g2' g3' (pt g6 ja [ii 0]::pt g5 t_api_ID (u8s (List.replicate 32 0))::pt g4 jb [nilV]::F) hY2 (by rw [aro];omega)).mono ?_;rintro _ _ rfl;exact ⟨_,_,rfl,rfl,rfl⟩
 ·rintro D2 xs2 F2 ⟨hxs,rfl⟩;have hxs2:=hxs.symm;subst hxs2;refine bg <| ab <| ac <| anf <| ba 2 Z Z Z <| Hp 1 Z Z Z Z Z Z <| ae Z <| ane <| cj Z (fun h1=>absurd h1 (by omega)) (fun _=>ah <| ab <| anf <| ba 2 Z Z Z <| am Z Z Z ((Cu (E:=eM ys) (by omega)).ent (af 2 [1,0] Z)) ?_);rintro o _ ⟨M,m1,m2,rfl⟩;refine b6 (fun w H=>(H.oat (k:=0) Z).form) ?_;rintro ⟨A9,c9,rfl,_,_,_⟩;refine eg (af 13 [0,12,11,10,2,7,8,9] Z) <| ae Z <| cg 1 Z Z Z Z <| cg 2 Z Z Z Z <| cg 3 Z Z Z Z <| ane <| aj ?_;have h32:(u8s (List.replicate 32 0)).length=32:=rfl;refine yB <| E9 (af 5 [4,0,1,2,3] Z) <| Hr <| Ns U4 ?_;rintro _ _ rfl;refine yC Z (.cell 1 Z Z Z Z Z (.whole 2 Z Z Z Z Z (.cell 3 Z Z Z Z Z .nil))) (af 4 [0] Z) ?_;have hk:=I8 ys;refine ⟨_,M,rfl,?_,?_,m2,rfl⟩
  ·refine m1.nodup_iff.2 ?_;show (jw (eM ys)).Nodup;rw [hk];exact lP List.nodup_nil
  ·intro x;rw [m1.mem_iff];show x∈jw (eM ys)↔_;rw [hk,tY];simp
end

structure MkI (E:List (List Int × Value)):Prop where
 nd:(jw E).Nodup
 v:∀ e∈E,∃ z:Int,e.2 = .agg ⟨[ii z]⟩
theorem uI {a:List Int} {v:Value}:∀ {l:List (List Int × Value)} {e:List Int × Value},e∈lq a v l→e=(a,v)∨e∈l
 | [], e, h => .inl (apy.1 h)
 | x :: l, e, h => by
  unfold lq at h
  split at h
  ·rcases ap1.1 h with h | h
   ·exact .inl h
   ·exact .inr (.tail _ h)
  ·rcases ap1.1 h with h | h
   ·exact .inr (h▸ .head _)
   ·exact (uI h).imp id (.tail _)
theorem uJ {a:List Int} {v:Value}:∀ {l:List (List Int × Value)},(lq a v l).length≤l.length+1
 | [] => aqp _
 | x :: l => by
  unfold lq
  split
  ·simp
  ·have:=uJ (a:=a) (v:=v) (l:=l);simp only [ap3];omega
theorem MkI.put {E:List (List Int × Value)} (h:MkI E) (a:List Int) (z:Int):MkI (lq a (.agg ⟨[ii z]⟩) E) where
 nd:=by rw [fO];exact tW h.nd
 v:=fun e he=>(uI he).elim (fun q=>⟨z,by rw [q]⟩) (h.v e)
theorem r7 {a:List Int} {E:List (List Int × Value)} (h:a∉jw E):jl a E=none:=by
 have:=yZ (a:=a) (l:=E);rw [aqo h] at this;cases hg:jl a E with
 | none => rfl
 | some _ => rw [hg] at this; cases this
theorem uK {a:List Int} {v:Value}:∀ {l:List (List Int × Value)},jl a l=some v→∃ e∈l,e.2=v
 | [], h => by cases h
 | x :: l, h => by
  unfold jl at h
  split at h
  ·cases h;exact ⟨x,.head _,rfl⟩
  ·obtain ⟨e,he,h1⟩:=uK h;exact ⟨e,.tail _ he,h1⟩
theorem MkI.get {E:List (List Int × Value)} (h:MkI E) {a:List Int} (ha:a∈jw E):∃ z:Int,jl a E=some (.agg ⟨[ii z]⟩):=by
 have h1:=yZ (a:=a) (l:=E);rw [ap5 ha] at h1;cases hg:jl a E with
 | none => rw [hg] at h1; cases h1
 | some v =>
  obtain ⟨e,he,rfl⟩:=uK hg;obtain ⟨z,hz⟩:=h.v e he;exact ⟨z,by rw [hz]⟩
section
variable {b:World} {F:List SP} {gs gm:Nat} {w r u:Int} {l:List Kp}
def uL (b:World) (gs gm:Nat) (w r u:Int) (l:List Kp) (id:List Int) (dep:Int) (ys:List (List Int)):Prop :=
 ∀ (ga:Nat) (E:List (List Int × Value)) (F:List SP),MkI E→(∀ x∈ys,x∉jw E) →
  SC Tryz.prog pE [pp gs,idV id,ii dep,.map (some ga)] b (stB gs gm w r u l (mpI ga E::F)) (fun _ F'=>∃ E',MkI E'∧(∀ x,x∈jw E'↔x∈jw E∨x∈ys)∧E'.length≤E.length+ys.length∧F'=stB gs gm w r u l (mpI ga E'::F))
set_option maxHeartbeats 16000000 in
theorem I9 {id:List Int} {dep:Int} {e:Kp} {m0:Mf} {ys:List (List (List Int))} (hid:idOk id) (hf:eq id l=some e) (hb:e.b=mfB m0) (hw:MfW m0) (hdep:1≤dep∧dep≤4) (hy:ys.length=(mfD m0).length) (hDi:∀ d∈mfD m0,idOk d.id)
  (hch:∀ k (hk:k<(mfD m0).length) (hk2:k<ys.length),((mfD m0)[k].media=1∨(mfD m0)[k].media=2)∧ys[k] = [(mfD m0)[k].id]∨(mfD m0)[k].media=3∧uL b gs gm w r u l (mfD m0)[k].id (dep+1) ys[k]∧∀ x∈ys[k],x≠id∧x∉(ys.take k).flatten):uL b gs gm w r u l id dep (id::ys.flatten):=by
 intro ga E0 F hE hE0;have hel:e.b.length≤4096:=by rw [hb];exact hw.n.b
 have hc32:=hw.n.c.id.1;have hni:id∉jw E0:=hE0 id (.head _);have hDn:(mfD m0).length≤17:=by
  have:=hw.n.n;unfold mfD;rw [ap0,aps];rw [Mf.many] at this
  split <;> simp at this ⊢ <;> omega
 refine ao Tryz.func135 Z Z Z <| anf <| br Z Z Z Z Z fun g5=>ane <| ac <| anf <| ae Z <| b7 0 Z Z Z Z Z Z (ek hid.1) Z <| vm 4 (a:=id) (L:=E0) aV hid (r7 hni) Z Z Z Z Z Z Z Z <| apo Z Z Z <| bq Z Z Z Z Z fun g8=>cg 0 Z Z Z Z <| ae Z <| aby ?_
 (iterate 12 refine ae Z ?_)
 refine ane <| ai Z <| ah <| ab <| anf <| ae Z <| b7 1 Z Z Z Z Z Z (ek hid.1) Z <| apn Z Z <| mI 5 (a:=id) (v:= .agg ⟨[ii dep]⟩) (L:=E0) aV hid Z Z Z Z Z Z Z Z ?_;have hE1:=hE.put id dep;have hk1:∀ x,x∈jw (lq id (.agg ⟨[ii dep]⟩) E0)↔x∈jw E0∨x=id:=fun x=>by rw [fO,lO]
 have hl1:=uJ (a:=id) (v:= .agg ⟨[ii dep]⟩) (l:=E0);generalize lq id (.agg ⟨[ii dep]⟩) E0=E1 at *;refine aby <| ae Z <| b7 1 Z Z Z Z Z Z (ek hid.1) Z <| am Z Z Z ((yd (gs:=gs) (gm:=gm) (w:=w) (r:=r) (u:=u) (l:=l) (F:=pt g8 sK [ii 0]::pt g5 t_api_ID (u8s id)::mpI ga E1::F) hid hf (by omega)).ent (af 6 [2,3,4,0,1,5] Z)) ?_;rintro _ _ ⟨v1,rfl,rfl⟩;refine b6 (fun w H=>(H.oat (k:=0) Z).form) ?_;rintro ⟨A,c,rfl,_,_,_⟩
 (iterate 5 refine ae Z ?_)
 refine aby <| ae Z <| am Z Z Z (nT hw (fun w H=>hb▸vlB (k:=0) Z w H)) ?_;rintro _ _ ⟨lv,sv,rfl,rfl⟩;refine b6 (fun w H=>(H.oat (k:=0) Z).form) ?_;rintro ⟨A1,c1,rfl,_,_,_⟩;refine b6 (fun w H=>(H.oat (k:=1) Z).form) ?_;rintro ⟨A2,c2,rfl,_,_,_⟩;have hl:=jz (lv:= .slice A1 m0.layers.length c1) (sv:= .slice A2 m0.subs.length c2) hc32;have ho:=y4 (m:=m0) (lv:= .slice A1 m0.layers.length c1) (sv:= .slice A2 m0.subs.length c2) Z Z;refine apo Z Z Z <| bq Z Z Z Z Z fun g12=>bq Z Z Z Z Z fun g13=> ?_;refine eh 1 Z Z Z Z Z Z Z hl ho (by rw [hl];rfl) ?_;refine cg 0 Z Z Z Z <| ane <| ac <| anf <| apo Z Z Z <| ae Z <| ba 0 Z Z Z ?_
 (iterate 6 refine ae Z ?_)
 refine ane <| cj Z (fun q=>absurd q (by omega)) (fun _=>ah <| ab <| anf ?_);refine b7 1 Z Z Z Z Z Z (cp (by rw [hl];rfl)) Z ?_;refine am Z Z Z (qF hc32 (fun w H=>⟨H.sl (k:=2) rfl,H.sl (k:=3) rfl⟩) (by omega)) ?_;rintro u9 _ rfl;refine b6 (fun w H=>ci (H.sl (k:=0) Z)) ?_;rintro ⟨A9,c9,rfl,_,_,_,h4,_⟩;generalize mfD m0=D at *;refine apn Z Z <| ane <| ak ?_;refine d6 (S:=Nat × List (List Int × Value)) (fun q=> [(0,pp gs),(2,ii dep),(3,.map (some ga)),(63,.slice A9 D.length c9),(64,ii D.length),(65,ii q.1)])
  (fun q=>stB gs gm w r u l (mpI ga q.2::rDs (.slice A9 D.length c9) D::F)) (fun q=>q.1≤D.length∧MkI q.2∧(∀ x,x∈jw q.2↔x∈jw E0∨x=id∨x∈(ys.take q.1).flatten)∧q.2.length≤E0.length+1+(ys.take q.1).flatten.length) (fun q=>D.length - q.1) (0,E1) (af 12 [6,7,8,11,0] Z) ⟨aqc _,hE1,fun x=>by rw [hk1];simp,by simp;exact hl1⟩ ?_
 rintro ⟨i,E⟩ ⟨hi,hM,hK,hL⟩;dsimp only at hi hM hK hL ⊢;refine anf <| ae Z <| ane <| ac ?_;refine cj Z (fun h1=> ?_) (fun h1=> ?_)
 ·have h1':i<D.length:=by omega
  obtain ⟨gg,oo,rfl⟩:=h4 (by omega);have hyi:i<ys.length:=by omega
  have hxi:=hDi _ (apw h1');have hchi:=hch i h1' hyi;have hsn:(ys.take (i+1)).flatten=(ys.take i).flatten++ys[i]:=by rw [apz hyi,asy,ar4,atc,aqg]
  have hyE:∀ x∈ys[i],x∉jw E0:=fun x hx=>hE0 x (.tail _ (List.mem_flatten.2 ⟨_,apw hyi,hx⟩))
  have h32D:Cx D:=fun d hd=>(hDi d hd).1
  have hc2:∀ {G:List SP} {k:Nat},nth G k=some (rDs (.slice (some ⟨gg,oo,none⟩) D.length c9) D)→∀ w,Sat b G w→∀ j,j<35→w.cell? ⟨gg,oo+i*35+j,none⟩=(dcC D[i])[j]?:=fun hk w H j hj=>ej (H.sl hk) (nP h32D) h1' hj
  generalize ys[i]=yi at *;generalize D[i]=x at *;have xl:=d8 hxi.1;refine ah <| ab <| ac <| ak <| anf <| ay Z ?_;refine fc Z (fun w H=>di (cs:=dcC x) Z Z Z xl (fun j hj=>by rw [b5,apu];exact hc2 (k:=4) Z w H j (by rw [xl] at hj;exact hj))) Z ?_;refine bq Z Z Z Z Z fun g15=> ?_;refine eh 0 Z Z Z Z Z Z Z xl jq (by rw [xl];rfl) ?_;refine aby <| ae Z <| ba 0 Z Z Z <| apn Z Z ?_;rcases hchi with ⟨hme,hyx⟩ | ⟨hme,hR,hne⟩
  ·refine qp 72 Z <| ae Z <| ba 0 Z Z Z <| apn Z Z <| ane <| cj Z (fun q=>absurd q (by omega)) (fun _=>anf <| apn Z Z <| b7 0 Z Z Z Z Z Z (Cw hxi.1) Z ?_);by_cases hin:x.id∈jw E
   ·obtain ⟨z,hz⟩:=hM.get hin;refine dW 4 (a:=x.id) (L:=E) aV hxi hz Z Z Z Z Z Z Z Z <| apo Z Z Z <| bq Z Z Z Z Z fun g16=>cg 0 Z Z Z Z <| ae Z <| aby <| apn Z Z <| ane <| ai Z <| ah <| bg <| ab <| aa <| ay Z <| ae Z <| ad ?_
    rw [show (i:Int)+1=((i+1:Nat):Int) by omega];refine dj (i+1,E) (af 2 [] Z) ⟨by dsimp only;omega,hM,fun y=> ?_,?_⟩
    ·dsimp only;rw [hsn,hK,ap6,hyx,apy]
     constructor
     ·rintro (q | q | q)
      ·exact .inl q
      ·exact .inr (.inl q)
      ·exact .inr (.inr (.inl q))
     ·rintro (q | q | q | q)
      ·exact .inl q
      ·exact .inr (.inl q)
      ·exact .inr (.inr q)
      ·rw [q];exact (hK _).1 hin
    ·dsimp only;rw [hsn,aps];omega
   ·refine vm 4 (a:=x.id) (L:=E) aV hxi (r7 hin) Z Z Z Z Z Z Z Z <| apo Z Z Z <| bq Z Z Z Z Z fun g16=>cg 0 Z Z Z Z <| ae Z <| aby <| apn Z Z <| ane <| ar Z <| aa <| apn Z Z <| b7 1 Z Z Z Z Z Z (Cw hxi.1) Z <| ae Z <| mI 5 (a:=x.id) (v:=mk0) (L:=E) aV hxi Z Z Z Z Z Z Z Z <| ad <| bg <| ab <| aa <| ay Z <| ae Z <| ad ?_
    rw [show (i:Int)+1=((i+1:Nat):Int) by omega];have hpl:=uJ (a:=x.id) (v:=mk0) (l:=E);refine dj (i+1,lq x.id mk0 E) (af 2 [] Z) ⟨by dsimp only;omega,hM.put x.id 0,fun y=> ?_,?_⟩
    ·dsimp only;rw [hsn,fO,lO,hK,ap6,hyx,apy,or_assoc,or_assoc]
    ·dsimp only;rw [hsn,aps,hyx,arv];omega
  ·refine wt 72 Z hme <| apo Z Z Z <| ae Z <| ane <| ar Z <| aa <| apn Z Z <| b7 0 Z Z Z Z Z Z (Cw hxi.1) Z <| ae Z <| ay Z <| ae Z ?_;refine am Z Z Z ((hR ga E (pt g15 t_api_Desc (dcC x)::rDs (.slice (some ⟨gg,oo,none⟩) D.length c9) D::F) hM (fun y hy hq=>by
    rcases (hK y).1 hq with q | q | q
    ·exact hyE y hy q
    ·exact (hne y hy).1 q
    ·exact (hne y hy).2 q)).ent (af 6 [1,2,3,4,0,5] Z)) ?_
   rintro _ _ ⟨E2,hM2,hK2,hL2,rfl⟩;refine ad <| bg <| ab <| aa <| ay Z <| ae Z <| ad ?_;rw [show (i:Int)+1=((i+1:Nat):Int) by omega];refine dj (i+1,E2) (af 6 [0,1,2,3,5] Z) ⟨by dsimp only;omega,hM2,fun y=> ?_,?_⟩
   ·dsimp only;rw [hsn,hK2,hK,ap6,or_assoc,or_assoc]
   ·dsimp only;rw [hsn,aps];omega
 ·obtain rfl:i=D.length:=by omega
  refine b8 <| aw <| ax <| aq <| io Z .nil (af 5 [0,1,2,3] Z) ?_;refine ⟨E,hM,fun x=> ?_,?_,rfl⟩
  ·rw [hK,← hy,aqk,ap1]
  ·rw [← hy,aqk] at hL;rw [ap3];omega
end

section
variable {b:World} {F:List SP} {gs gm gl:Nat} {w r u:Int} {l:List Kp}
theorem U5 (hw:w≠0):SC Tryz.prog sC [pp gs] b (stB gs gm w r u l F) (fun v F'=>v = .bool false∧F'=stB gs gm w r u l F):=by
 refine ao Tryz.func134 Z Z Z <| anf <| ae Z <| aby <| ae Z <| au Z Z Z (Hw) <| apn Z Z <| ane <| aj <| bh Z Z av ?_;exact ⟨ap2 Value.bool (aqo hw),rfl⟩
theorem P9 {id:List Int} {ys:List (List Int)} (hw:w≠0) (hid:idOk id) (hT:uL b gs gm w r u l id 1 ys) (hn:ys.length≤12) :
  SC Tryz.prog sA [pp gs,.slice (some ⟨gl,0,none⟩) 1 1] b (pt gl t_api_ID (u8s id)::stB gs gm w r u l F) (fun v F'=>∃ M,M.Nodup∧(∀ x,x∈M↔x∈ys)∧M.Pairwise leM∧F'=rJ v M::stB gs gm w r u l F):=by
 refine ao Tryz.func59 Z Z Z <| anf <| ae Z <| aby <| qq idK idOk Z Z Z fun ga=>ae Z <| ane <| ac <| anf <| apo Z Z Z <| ane <| ak ?_
 refine d6 (S:=Nat × List (List Int × Value)) (fun q=> [(0,pp gs),(5,.map (some ga)),(9,.slice (some ⟨gl,0,none⟩) 1 1),(10,ii 1),(11,ii q.1)]) (fun q=>stB gs gm w r u l (mpI ga q.2::pt gl t_api_ID (u8s id)::F)) (fun q=>q.1≤1∧MkI q.2∧(q.1=0→q.2 = [])∧(q.1=1→(∀ x,x∈jw q.2↔x∈ys)∧q.2.length≤ys.length)) (fun q=>1 - q.1) (0,[]) (af 5 [2,3,4,0,1] Z) ⟨by decide,⟨List.nodup_nil,fun e he=>by cases he⟩,fun _=>rfl,(fun q=>absurd q (by decide))⟩ ?_;rintro ⟨i,E⟩ ⟨hi,hM,h0,h1⟩;dsimp only at hi hM h0 h1 ⊢
 match i,hi with
 | 0, _ =>
  obtain rfl:=h0 Z;refine anf <| ae Z <| ane <| ac <| ar Z <| ah <| ab <| ac <| ak <| anf <| ay Z ?_;refine b7 4 Z Z Z Z Z Z (by rw [b5];exact ek hid.1) Z ?_;refine bq Z Z Z Z Z fun g7=> ?_
  skip
  refine eh 0 Z Z Z Z Z Z Z (by rw [bz,hid.1];rfl) (ec _) (by simp [hid.1]) ?_;refine ane <| ac <| anf <| ae Z <| au Z Z Z ((U5 (F:=pt g7 t_api_ID (u8s id)::mpI ga []::pt gl t_api_ID (u8s id)::F) hw).at (af 6 [1,2,3,0,4,5] Z) (af 6 [3,0,1,2,4,5] Z)) <| ane <| ai Z <| ah <| ab <| aa <| ae Z <| b7 0 Z Z Z Z Z Z (ek hid.1) Z <| ae Z ?_;refine am Z Z Z ((hT ga [] (pt g7 t_api_ID (u8s id)::pt gl t_api_ID (u8s id)::F) hM (fun x _ hx=>by cases hx)).ent (af 6 [1,2,3,4,0,5] Z)) ?_;rintro _ _ ⟨E2,hM2,hK2,hL2,rfl⟩;refine ad <| bg <| ab <| aa <| ay Z <| ae Z <| ad ?_;refine dj (1,E2) (af 6 [0,1,2,3,5] Z) ⟨by dsimp only;omega,hM2,(fun q=>absurd q Nat.one_ne_zero),(fun _=>⟨fun x=> ?_,?_⟩)⟩
  ·rw [hK2];exact ⟨fun q=>q.elim (fun q=>by cases q) (fun q=>q),.inr⟩
  ·simpa using hL2
 | 1, _ =>
  obtain ⟨hK,hL⟩:=h1 Z;refine anf <| ae Z <| ane <| ac <| ai Z <| b8 <| aw <| ax <| aq <| ab <| anf <| ae Z <| am Z Z Z ((Cu (E:=E) (by omega)).ent (af 5 [3,0,1,2,4] Z)) ?_;rintro o _ ⟨M,m1,m2,rfl⟩;refine ae Z <| ane <| aj <| bh Z Z (af 6 [0,2,3,4] Z) <| ⟨M,m1.nodup_iff.2 hM.nd,fun x=> ?_,m2,rfl⟩;rw [m1.mem_iff];exact hK x
end

abbrev kyV (p:ByteArray × List Int):Value:= .agg ⟨.string p.1::u8s p.2⟩
abbrev aa7 (p:ByteArray × List Int):Prop:=p.1.size≤maxLen∧idOk p.2
theorem amr : ∃ fs, Tryz.prog.underlying v9 = some (.struct fs) ∧ fs.toList.map (fun f => (f.type, f.offset)) = [(ko, 0), (t_api_ID, 1)] ∧ fs.all (·.name != "_") = true := ⟨match Tryz.prog.underlying v9 with | some (.struct fs) => fs | _ => #[], by kernel_rfl, by kernel_rfl, by kernel_rfl⟩
theorem U6 {m:Nat} {l:List Int} (h:idOk l):∃ r,Tryz.prog.keyLits (m+2) t_api_ID (u8s l)=some r:=by
 have A:=Xi;have he:Tryz.prog.underlying im=some (.int .u8):=by kernel_rfl
 unfold Program.keyLits;simp only [A.hu];rw [if_pos (by rw [A.size,bz,h.1])];rw [mH (h:=fun i=> [Lit.int .u8 (l.getD i 0)]) (List.range 32) (fun i hi=> ?_)]
 ·exact ⟨_,rfl⟩
 ·have hi':i<l.length:=by rw [h.1];exact aqr.1 hi
  have hd:((u8s l).drop (i*Tryz.prog.cellsOf im)).take (Tryz.prog.cellsOf im) = [Value.int .u8 (l.getD i 0)]:=by
   unfold u8s;rw [A.one,aq8,aqq (by simpa using hi')];simp [hi']
  have hw':=h.2 (l.getD i 0) (by rw [aqf,apv hi'];exact apw hi');generalize l.getD i 0=z at hd hw' ⊢;show Program.keyLits Tryz.prog (m+1) im _=_;rw [hd];simp [Program.keyLits,he,hw']
theorem lU:MK Tryz.prog v9 kyV aa7 where
 law:= .of (deep_law (m:=3) (by omega) (by kernel_rfl) (by kernel_rfl) (by obtain ⟨fs,h,_⟩:=amr;rw [h]))
 of:=fun p hp=>by
  obtain ⟨fs,hu,hf,ha⟩:=amr;have hkt:Tryz.prog.keyType v9=true:=by kernel_rfl
  have hsz:Tryz.prog.cellsOf v9=33:=by kernel_rfl
  have hcs:Tryz.prog.cellsOf ko=1:=by kernel_rfl
  have hci:Tryz.prog.cellsOf t_api_ID=32:=by kernel_rfl
  have hus:Tryz.prog.underlying ko=some .string:=by kernel_rfl
  obtain ⟨m,hm⟩:∃ m,Tryz.prog.types.size=m+2:=⟨_,(by kernel_rfl:Tryz.prog.types.size=(Tryz.prog.types.size - 2)+2)⟩;obtain ⟨r,hr⟩:=U6 (m:=m) hp.2;have hl:(u8s p.2).length=32:=by rw [bz,hp.2.1]
  obtain ⟨fl⟩:=fs
  match fl,hf with
  | [f1, f2], hf =>
  simp only [aqt,as9,asa,aqn,atx] at hf;obtain ⟨⟨a1,a2⟩,b1,b2⟩:=hf;have ht:((u8s p.2).take 32)=u8s p.2:=aqh (by omega);unfold keyOf;simp only [hu];rw [if_pos (by simp [hkt,Value.formed,hu,hsz,kyV,hl]),hm];unfold Program.keyLits;simp only [hu,Value.cells,kyV];rw [if_pos ⟨by simp [hsz,hl],ha⟩];have h1:Tryz.prog.keyLits (m+2) ko [.string p.1]=some [.string p.1.data.toList]:=by simp [Program.keyLits,hus,hp.1]
  simp [a1,a2,b1,b2,hcs,hci,h1,hr,ht]
 inj:=fun a c _ _ h=>by
  simp only [kyV,Value.agg.injEq,Array.mk.injEq,asa,Value.string.injEq] at h;exact Prod.ext h.1 ((List.map_inj_right (fun x y e=>by cases e;rfl)).1 h.2)
theorem xc {P:Program} {k:Nat} (hk:P.underlying k=some .string) {v:Value} {l:Lit} (h:keyOf P k v=some l):∃ x,v = .string x:=by
 have e:keyOf P k v=mapKey P k v:=by simp [keyOf,hk]
 rw [e] at h;unfold mapKey at h;cases v <;> simp [hk] at h;exact ⟨_,rfl⟩
theorem aa8 {P:Program} {k:Nat} (hk:P.underlying k=some .string):KL P k where
 check w em _ _ h:=by
  obtain ⟨x,rfl⟩:=xc hk h;exact Go.MapKept.run_checkKey hk (d:= .string) (k:= .string x) trivial em 9999
 find w _ _ hx es hes:=by
  obtain ⟨x,rfl⟩:=xc hk hx;have hks:∀ y∈es,Go.MapKept.IsKey .string y.key:=fun y hym=>by
   obtain ⟨l,hl⟩:=hes y hym;obtain ⟨z,e⟩:=xc hk hl;rw [e];trivial
  rcases Go.MapKept.findNow_spec (d:= .string) (k:= .string x) trivial es 0 hks with ⟨h1,h2⟩ | ⟨j,e0,h1,h2,h3⟩
  ·exact Or.inl ⟨Go.MapKept.run_findKey hk h1,h2⟩
  ·exact Or.inr ⟨j,e0,by simpa using Go.MapKept.run_findKey hk h1,h2,h3⟩
 stays w _ _ h:=by
  obtain ⟨x,rfl⟩:=xc hk h;exact Go.MapKept.run_keyThatStays (d:= .string) (k:= .string x) trivial
theorem bG:MK Tryz.prog ko Value.string (fun s=>s.size≤maxLen) where
 law:=aa8 (by kernel_rfl)
 of:=fun a h=>by
  have hu:Tryz.prog.underlying ko=some .string:=by kernel_rfl
  exact ⟨.string a.data.toList,by simp [keyOf,hu,mapKey,h]⟩
 inj:=fun a c _ _ h=>by injection h

structure Ql where
 id:List Int
 n:Int
def n5 (L:List Ql):Int:=(L.map Ql.n).sum
def qM (s:ByteArray) (L:List Ql):List ((ByteArray × List Int) × Value):=L.map fun e=>((s,e.id),.agg ⟨[ii e.n]⟩)
def uM (s:ByteArray) (gv:Nat) (L:List Ql):List (ByteArray × Value):=if L = [] then [] else [(s,pp gv)]
def qL (gv:Nat) (L:List Ql):List SP:=match L with | []=> [] | e::L=> [pt gv mc [ii (n5 (e::L)),ii ((e::L).length:Nat)]]
abbrev mpQ (gl:Nat) (l:List ((ByteArray × List Int) × Value)):SP:=mp gl kyV aa7 l
abbrev mpU (gu:Nat) (l:List (ByteArray × Value)):SP:=mp gu Value.string (fun s=>s.size≤maxLen) l
abbrev stQ (gq gl gu gv:Nat) (lim:Int) (h:Value) (s:ByteArray) (L:List Ql) (F:List SP):List SP:=pt gq vf [ii lim,.map (some gl),.map (some gu),h]::mpQ gl (qM s L)::mpU gu (uM s gv L)::all (qL gv L)::F
section
variable {b:World} {F:List SP} {gq gl gu gv:Nat} {lim:Int} {h:Value} {s:ByteArray} {L:List Ql}
theorem aa9 (h1:¬ lim<0) (h2:¬ 1099511627776<lim):SC Tryz.prog Be [ii lim] b F (fun v F'=>∃ gq gl gu h,v = .tuple ⟨[pp gq,ii 0]⟩∧F'=stQ gq gl gu 0 lim h s [] F):=by
 refine ao Tryz.func9 Z Z Z <| anf <| apn Z Z <| ane <| ac <| anf <| apo Z Z Z <| ni 6 Z (fun h=>absurd h h1) (fun h=>apo Z Z Z <| ane <| cj Z (fun h=>absurd h h2) (fun h=>ah <| ab <| anf <| ae Z <| qq kyV aa7 Z Z Z fun gl=> ?_))
 skip
 refine qq Value.string (fun s=>s.size≤maxLen) Z Z Z fun gu=>ae Z <| br Z Z Z Z Z fun gq=>apn Z Z <| ane <| aj <| fb Z Z Z ((ee (G:= [])).trans (af 4 [1,3,2,0] Z)) ?_
 exact ⟨gq,gl,gu,_,rfl,rfl⟩
theorem y5:SC Tryz.prog eG [pp gq] b (stQ gq gl gu gv lim h s L F) (fun v F'=>v = .bool false∧F'=stQ gq gl gu gv lim h s L F):=by
 refine ao Tryz.func105 Z Z Z <| anf <| ae Z <| aby ?_
 (iterate 6 refine ae Z ?_)
 refine ba 0 Z Z Z <| apo Z Z Z <| ane <| aj <| bh Z Z (af 0 [] Z) ?_;exact ⟨rfl,rfl⟩
end

section
variable {b:World} {F:List SP} {gq gl gu gv:Nat} {lim:Int} {h:Value} {s:ByteArray} {L:List Ql}
theorem Gs (hs:s.size≤maxLen):SC Tryz.prog qg [pp gq,.string s] b (stQ gq gl gu gv lim h s [] F) (fun v F'=>v=ii 0∧F'=stQ gq gl gu gv lim h s [] F):=by
 refine ao Tryz.func62 Z Z Z <| anf <| ae Z <| ane <| ac <| anf <| ae Z <| au Z Z Z (y5) <| apo Z Z Z <| ae Z <| ba 0 Z Z Z <| ae Z ?_;refine zx 2 (a:=s) (L:=uM s gv []) (v:= .pointer none) bG hs (by rfl) Z Z Z Z Z Z Z Z ?_;refine apn Z Z <| ane <| ar Z <| anf <| ae Z <| ane <| aj <| al <| bh Z Z (af 0 [] Z) ?_;exact ⟨rfl,rfl⟩
theorem ams {e:Ql} (hs:s.size≤maxLen):SC Tryz.prog qg [pp gq,.string s] b (stQ gq gl gu gv lim h s (e::L) F) (fun v F'=>v=ii (n5 (e::L))∧F'=stQ gq gl gu gv lim h s (e::L) F):=by
 refine ao Tryz.func62 Z Z Z <| anf <| ae Z <| ane <| ac <| anf <| ae Z <| au Z Z Z (y5) ?_;have hg:(jl s (uM s gv (e::L))).getD (.pointer none)=pp gv:=by
  show (if s=s then some _ else none).getD _=_;rw [if_pos rfl];rfl
 refine eg ((af 4 [3,0,1,2] Z).trans (k9 (G:=qL gv (e::L)))) <| apo Z Z Z <| ae Z <| ba 1 Z Z Z <| ae Z <| zx 3 (a:=s) (L:=uM s gv (e::L)) (v:=pp gv) bG hs hg Z Z Z Z Z Z Z Z <| apn Z Z <| ane <| ai Z <| ah <| ab <| anf <| apo Z Z Z <| ba 1 Z Z Z <| ae Z <| zx 3 (a:=s) (L:=uM s gv (e::L)) (v:=pp gv) bG hs hg Z Z Z Z Z Z Z Z <| apn Z Z <| ba 0 Z Z Z <| ae Z <| ane <| aj <| bh Z Z ((ee (G:=qL gv (e::L))).trans (af 4 [1,2,3,0] Z)) ?_;exact ⟨rfl,rfl⟩
end

structure Us where
 g:Nat
 n:Int
 r:ByteArray
 pv:Value
 ps:List (Value × List Int)
def Us.b (u:Us):List Int:=u.ps.flatMap (·.2)
def usC (u:Us):List Value:= [ii u.n,ii u.b.length,.string u.r,u.pv]
def psF:List (Value × List Int)→List SP
 | [] => []
 | p :: l => rB p.1 p.2 :: psF l
abbrev rPU (v:Value) (l:List (Value × List Int)):SP:=row eo 1 v l.length (l.map (·.1))
def usP (u:Us):List SP:= [pt u.g p6 (usC u),rPU u.pv u.ps,all (psF u.ps)]
def usF:List Us→List SP
 | [] => []
 | u :: l => usP u ++ usF l
abbrev usK (L:List Us):List Value:=L.map fun u=>pp u.g
abbrev usR (A:Option Addr) (c n:Nat) (L:List Us):SP:=row d5 1 (.slice A n c) n (usK L)
abbrev tbU (g:Nat) (w nx:Int) (A:Option Addr) (c n:Nat) (L:List Us) (F:List SP):List SP:=pt g jo [ii w,ii nx,.slice A n c]::usR A c n L::all (usF L)::F
theorem Ja (a c:List Us):usF (a++c)=usF a++usF c:=by
 induction a with
 | nil => rfl
 | cons u a ih => simp only [aq2, usF, ih, ap0]
theorem zH {l1 l2:List Us} {u:Us}:(usF (l1++u::l2)).Perm (usP u++usF (l1++l2)):=by
 rw [Ja,Ja,usF,← ap0,← ap0];exact List.Perm.append_right _ ase
theorem U7 {L:List Us}:∀ u∈usK L,u.oneCell'=true:=by
 intro u hu;obtain ⟨x,_,rfl⟩:=ap8.1 hu;rfl
section
variable {b:World} {F:List SP} {k:Nat} {L:List Us}
theorem U8 {u:Us} (hk:nth F k=some (all (usF L))) (hu:u∈L):∀ w,Sat b F w→∃ G,Sat b (usP u++G) w:=fun w hS=>by
 obtain ⟨l1,l2,rfl⟩:=atf hu;obtain ⟨h1,l,hA⟩:=hS.mem.get hk;exact ⟨usF (l1++l2),hS.os,hS.tape,hS.output,(kh zH _ hA).mono l⟩
theorem Qa {u:Us} {j:Nat} {v:Value} (hk:nth F k=some (all (usF L))) (hu:u∈L) (hj:nth (usC u) j=some v):∀ w,Sat b F w→w.cell? ⟨u.g,j,none⟩=some v:=fun w hS=>by
 obtain ⟨G,hG⟩:=U8 hk hu w hS;have B:=hG.blk (k:=0) Z;rw [B.cell,← np];exact hj
def Df (x y:Int):Int:=if x<y then -1 else if y<x then 1 else 0
theorem Jb {x:Int}:SC Tryz.prog cO [ii x] b F (fun v F'=>v = .bool false∧F'=F):=by
 refine ao Tryz.func293 Z Z Z <| anf <| ae Z <| aby <| apo Z Z Z <| ae Z <| ane <| aj <| bh Z Z av ?_;exact ⟨ap2 Value.bool (by simp),rfl⟩
theorem aba {x y:Int}:SC Tryz.prog s9 [ii x,ii y] b F (fun v F'=>v=ii (Df x y)∧F'=F):=by
 refine ao Tryz.func252 Z Z Z <| anf <| ae Z <| aby <| ae Z <| au Z Z Z (Jb) <| ae Z <| aby <| ae Z <| au Z Z Z (Jb) <| ae Z <| ane <| ac <| anf <| ae Z <| ane <| ai Z <| ah <| ab <| ac <| anf <| ae Z <| ane <| ai Z <| ah <| ab <| ac <| anf <| apo Z Z Z <| ane ?_;refine cj Z (fun h1=> ?_) (fun h1=> ?_)
 ·refine anf <| ae Z <| ane <| aj <| al <| bh Z Z av ?_;exact ⟨by rw [Df,if_pos h1];rfl,rfl⟩
 refine ah <| ab <| ac <| anf <| apo Z Z Z <| ane ?_;refine cj Z (fun h2=> ?_) (fun h2=> ?_)
 ·refine anf <| ae Z <| ane <| aj <| al <| bh Z Z av ?_;exact ⟨by rw [Df,if_neg h1,if_pos h2];rfl,rfl⟩
 refine ah <| ab <| anf <| ae Z <| ane <| aj <| bh Z Z av ?_;exact ⟨by rw [Df,if_neg h1,if_neg h2];rfl,rfl⟩
theorem Jc {u:Us} {x:Int} (hk:nth F k=some (all (usF L))) (hu:u∈L):SC Tryz.prog m9 [pp u.g,ii x] b F (fun v F'=>v=ii (Df u.n x)∧F'=F):=by
 refine ao Tryz.func251 Z Z Z <| anf <| ae Z <| aby <| apo Z Z Z <| fc Z (fun w H=>bx Z Z Z (Qa (j:=0) (v:=ii u.n) hk hu Z w H)) Z <| ae Z <| au Z Z Z (aba) <| ae Z <| ane <| aj <| bh Z Z av ?_;exact ⟨rfl,rfl⟩
theorem amt {i j:Nat} (h:i+j≤100000):IntKind.i64.wrap ((IntKind.u64.wrap ((i:Int)+(j:Int))).fdiv (2 ^ min (Int.toNat 1) IntKind.u64.bits))=(((i+j) / 2:Nat):Int):=by
 have h1:IntKind.u64.wrap ((i:Int)+(j:Int))=(i:Int)+(j:Int):=by
  have:IntKind.u64.wrap ((i:Int)+(j:Int))=((i:Int)+(j:Int)) % 18446744073709551616:=rfl;rw [this];omega
 rw [h1,show (2:Int) ^ min (Int.toNat 1) IntKind.u64.bits=2 from rfl,I64.wrap (by rw [as1 _ (by omega)];unfold I64;omega),as1 _ (by omega)];omega
theorem Lq {A:Option Addr} {c n:Nat} {x:Int} (hk:nth F k=some (all (usF L))) {k1:Nat} (hk1:nth F k1=some (usR A c n L)) (hn:L.length=n) (h8:n≤1000) (hs:L.Pairwise (fun a c=>a.n<c.n)) :
  SC Tryz.prog ji [.slice A n c,ii x,.func (.func m9) ⟨[]⟩ ⟨[]⟩] b F (fun v F'=>(∃ (i:Nat),v = .tuple ⟨[ii i,.bool (decide (∃ u,L[i]? = some u∧u.n=x))]⟩∧(∀ (j:Nat) u,L[j]? = some u→j<i→u.n<x)∧(∀ (j:Nat) u,L[j]? = some u→i≤j→x≤u.n))∧F'=F):=by
 refine ao Tryz.func250 Z Z Z <| bu (fun w H=>(H.oat hk1).form) ?_;rintro ⟨A',c',hv,q1,q2,q3⟩;simp only [Value.slice.injEq,true_and] at hv;obtain ⟨rfl,rfl⟩:=hv;have cell:∀ i (hi:i<L.length),(usK L)[i]? = some (pp (L[i].g)):=fun i hi=>by simp [usK,hi]
 refine anf <| apn Z Z <| aby <| apo Z Z Z <| aby <| apo Z Z Z <| ane <| ac <| ak ?_;refine d6 (S:=Nat × Nat) (fun s=> [(0,.slice A n c),(1,ii x),(2,.func (.func m9) ⟨[]⟩ ⟨[]⟩),(8,ii n),(9,ii s.1),(10,ii s.2)]) (fun _=>F)
  (fun s=>s.1≤s.2∧s.2≤n∧(∀ (j:Nat) u,L[j]? = some u→j<s.1→u.n<x)∧(∀ (j:Nat) u,L[j]? = some u→s.2≤j→x≤u.n)) (fun s=>s.2 - s.1) (0,n) av
  ⟨aqc _,aqp _,fun j u _ h=>absurd h (Nat.not_lt_zero j),fun j u h hj=>absurd (ap4.1 h).1 (by omega)⟩ ?_
 rintro ⟨i,j⟩ ⟨hij,hjn,hlo,hhi⟩;dsimp only at hij hjn hlo hhi ⊢;refine ac <| anf <| apo Z Z Z <| ane ?_;refine cj Z (fun h1=> ?_) (fun h1=> ?_)
 ·refine ah <| ab <| ak <| anf <| apn Z Z <| ay Z <| ae Z <| ay Z <| apn Z Z <| aby <| apo Z Z Z ?_;rw [amt (by omega)];obtain ⟨m,hm⟩:∃ m,m=(i+j) / 2:=⟨_,rfl⟩;rw [← hm];have hmn:m<L.length:=by omega
  obtain ⟨gg,oo,rfl⟩:=q3 (by omega);refine ay Z ?_;refine fc Z (fun w H=>bx Z Z Z (by rw [b5,apu,aq8];exact zv hk1 (cell m hmn) w H)) Z ?_;refine ae Z <| au Z Z Z (Jc hk (apw hmn)) <| ae Z <| ane ?_;refine cj Z (fun h2=> ?_) (fun h2=> ?_)
  ·have h2':L[m].n<x:=by unfold Df at h2;split at h2 <;> first | assumption | (split at h2 <;> omega)
   refine aa <| ae Z <| ay Z <| ae Z <| ad <| bg ?_;refine dj (m+1,j) av ⟨by dsimp only;omega,hjn,fun q u hq hlt=> ?_,hhi⟩;obtain ⟨hq1,rfl⟩:=ap4.1 hq;rcases asl q m with hqm | hqm
   ·have:=arg.1 hs q m hq1 hmn hqm;omega
   ·have:q=m:=by dsimp only at hlt;omega
    subst this;exact h2'
  ·have h2':x≤L[m].n:=by unfold Df at h2;split at h2 <;> first | omega | (split at h2 <;> omega)
   refine aa <| apn Z Z <| ad <| bg ?_;refine dj (i,m) av ⟨by dsimp only;omega,by dsimp only;omega,hlo,fun q u hq hle=> ?_⟩;obtain ⟨hq1,rfl⟩:=ap4.1 hq;dsimp only at hle;rcases asl m q with hqm | hqm
   ·have:=arg.1 hs m q hmn hq1 hqm;omega
   ·have:q=m:=by omega
    subst this;exact h2'
 ·have hji:j=i:=by omega
  subst hji;refine b8 <| aw <| ax <| aq <| ab <| anf ?_
  (iterate 5 refine ae Z ?_)
  by_cases hin:j<n
  ·have hin':j<L.length:=by omega
   obtain ⟨gg,oo,rfl⟩:=q3 (by omega);refine dR 39 Z <| apo Z Z Z <| ay Z ?_;refine fc Z (fun w H=>bx Z Z Z (by rw [b5,apu,aq8];exact zv hk1 (cell j hin') w H)) Z ?_;refine ae Z <| au Z Z Z (Jc hk (apw hin')) <| apo Z Z Z <| ae Z <| ane <| aj <| fb Z Z Z av <| ⟨⟨j,ap2 (fun q=>Value.tuple ⟨[ii j,.bool q]⟩) (ash.2 ?_),hlo,hhi⟩,rfl⟩;rw [apv hin'];unfold Df
   constructor
   ·intro h;exact ⟨_,rfl,by split at h <;> first | omega | (split at h <;> omega)⟩
   ·rintro ⟨u,hu,hx⟩;cases hu;rw [if_neg (by omega),if_neg (by omega)]
  ·refine qp 39 Z ?_
   (iterate 11 refine ae Z ?_)
   refine ane <| aj <| fb Z Z Z av <| ⟨⟨j,ap2 (fun q=>Value.tuple ⟨[ii j,.bool q]⟩) (aqo ?_).symm,hlo,hhi⟩,rfl⟩;rintro ⟨u,hu,_⟩;have:=(ap4.1 hu).1;omega
end

section
variable {b:World} {F:List SP} {g:Nat} {w nx:Int} {A:Option Addr} {c n:Nat} {L:List Us}
theorem Jd {t0:Nat} {cs:List Value}:SC Tryz.prog cX [pp g] b (pt g t0 (ii w::cs)::F) (fun v F'=>v = .bool (decide (w=0))∧F'=pt g t0 (ii w::cs)::F):=by
 refine ao Tryz.func92 Z Z Z <| anf <| ae Z <| aby ?_
 (iterate 6 refine ae Z ?_)
 refine ba 0 Z Z Z <| apo Z Z Z <| ane <| aj <| bh Z Z av ?_;exact ⟨rfl,rfl⟩
theorem Qb {x:Int} {i:Nat} (hn:L.length=n) (h8:n≤1000) (hs:L.Pairwise (fun a c=>a.n<c.n)) (hi:i<L.length) (hx:L[i].n=x) :
  SC Tryz.prog dD [pp g,ii x] b (tbU g w nx A c n L F) (fun v F'=>v = .tuple ⟨[ii i,.bool true]⟩∧F'=tbU g w nx A c n L F):=by
 refine ao Tryz.func182 Z Z Z <| anf <| apn Z Z <| aby <| apo Z Z Z <| ba 0 Z Z Z <| ae Z <| am Z Z Z (Lq (L:=L) (k:=2) Z (k1:=1) Z hn h8 hs) ?_;rintro v F' ⟨⟨m,rfl,h1,h2⟩,rfl⟩;have hm:m=i:=by
  rcases Nat.lt_trichotomy m i with h | h | h
  ·have:=h2 m L[m] (apv (by omega)) (aqp _);have:=arg.1 hs m i (by omega) hi h;omega
  ·exact h
  ·have:=h1 i L[i] (apv hi) h;omega
 subst hm;rw [ap5 (⟨L[m],apv hi,hx⟩:∃ u,L[m]? = some u∧u.n=x)];refine apo Z Z Z <| ae Z <| ane <| aj <| fb Z Z Z av ?_;exact ⟨rfl,rfl⟩
theorem Dh {x:Int} {i:Nat} {fd:Nat} {caps:List Value} [Bodied Tryz.prog fd] {R:Value→List SP→Prop} (hw:w≠0) (hn:L.length=n) (h8:n≤1000) (hs:L.Pairwise (fun a c=>a.n<c.n)) (hi:i<L.length) (hx:L[i].n=x)
  (hd:SC Tryz.prog fd (ii i::pp (L[i].g)::caps) b (tbU g w nx A c n L F) R):SC Tryz.prog cY [pp g,ii x,.func (.func fd) ⟨[]⟩ ⟨caps⟩] b (tbU g w nx A c n L F) R:=by
 refine ao Tryz.func93 Z Z Z <| bu (fun w H=>(H.oat (k:=1) Z).form) ?_;rintro ⟨A',c',hv,q1,q2,q3⟩;simp only [Value.slice.injEq,true_and] at hv;obtain ⟨rfl,rfl⟩:=hv;have cell:(usK L)[i]? = some (pp (L[i].g)):=by simp [usK,hi]
 obtain ⟨gg,oo,rfl⟩:=q3 (by omega);refine anf <| ae Z <| ane <| ac <| anf <| ae Z <| au Z Z Z (Jd) ?_;rw [aqo hw];refine ane <| ai Z <| ah <| ab <| anf <| apn Z Z <| am Z Z Z (Qb hn h8 hs hi hx) ?_;rintro v F' ⟨rfl,rfl⟩
 (iterate 5 refine ae Z ?_)
 refine ane <| ac <| anf <| apn Z Z <| ane <| ai Z <| ah <| ab <| anf ?_
 (iterate 5 refine ae Z ?_)
 refine ba 0 Z Z Z <| ae Z <| ay Z ?_;refine fc Z (fun w H=>bx Z Z Z (by rw [b5,apu,aq8];exact zv (k:=1) Z cell w H)) Z ?_
 skip
 refine am Z Z Z (hd) ?_;intro v F' hR;refine ae Z <| ane <| aj <| bh Z Z av ?_;exact hR
end

section
variable {b:World} {F:List SP} {g:Nat} {w nx:Int} {A:Option Addr} {c n:Nat} {L:List Us}
theorem U9 {α:Type} {cur K:List α} {oo n i:Nat} {z:α} (hK:(cur.drop oo).take n=K) (hn:K.length=n) (hi:i<n) :
  (((cur.take (oo+i)++K.drop (i+1)++cur.drop (oo+i+(K.drop (i+1)).length)).take (oo+(n - 1)) ++ [z]++(cur.take (oo+i)++K.drop (i+1)++cur.drop (oo+i+(K.drop (i+1)).length)).drop (oo+(n - 1)+1)).drop oo).take (n - 1)=K.eraseIdx i:=by
 have hl:oo+n≤cur.length:=by
  have:((cur.drop oo).take n).length=n:=by rw [hK];exact hn
  rw [ap7,aqw] at this;omega
 have h1:(cur.take (oo+i)++K.drop (i+1)).length=oo+(n - 1):=by
  rw [aps,ap7,aqw,hn];omega
 rw [arl h1,arm (by rw [aps,h1];simp;omega),arm (by rw [h1];omega)];rw [ap0,arl (by rw [aqw,h1];omega)];rw [arm (by rw [ap7];omega),at1,show oo+i - oo=i by omega,as6,← hK,List.take_take,show min i n=i by omega]
theorem Qc {i:Nat} (hn:L.length=n) (h8:n≤1000) (hi:i<n):SC Tryz.prog kq [.slice A n c,ii i,ii (i+1:Nat)] b (usR A c n L::F) (fun v F'=>v = .slice A (n - 1) c∧F'=usR A c (n - 1) (L.eraseIdx i)::F):=by
 refine ao Tryz.func98 Z Z Z <| bu (fun w H=>(H.oat (k:=0) Z).form) ?_;rintro ⟨A',c',hv,q1,q2,q3⟩;simp only [Value.slice.injEq,true_and] at hv;obtain ⟨rfl,rfl⟩:=hv;obtain ⟨gg,oo,rfl⟩:=q3 (by omega);refine Y3 0 Z (fun _=>rfl) fun cur f1 f2 f3 f4 f5=>anf <| ae Z <| aby ?_
 (iterate 5 refine ae Z ?_)
 refine Y2 Z Z Z Z Z Z Z Z Z (by omega) (by omega) (by omega) fun v13=>ane <| ac <| anf <| apo Z Z Z <| ane <| cj Z (fun h=>absurd h (by omega)) (fun _=>ah <| ab <| anf <| apo Z Z Z <| ane <| ac <| cq flo F (by decide +kernel) (af 1 [] Z) <| bj Z Zl <| bj Z Zl <| dx Z Z <| bj Z Zl <| bj Z Zl <| dx Z Z ?_)
 have hj:((i+1:Nat):Int).toNat≤n:=by omega
 refine Nf 0 Z Z Z Z Z Z Z Z Z Z Z (fun w H=>Aq (cs:=usK L) (k:=0) Z hj w (H.ent (kI 0 Z Z f1 f2 f3 f4 f5))) (fun u hu=>U7 u (List.mem_of_mem_drop hu)) (by omega) f4 (af 1 [] Z) <| bj Z Zl <| ap <| ab <| anf <| apo Z Z Z <| ae Z <| ay Z ?_;have e1:(i:Int).toNat+(n - ((i+1:Nat):Int).toNat)=n - 1:=by omega
 rw [e1];refine bn 31 (.slice (some ⟨gg,oo+(n - 1),none⟩) 1 (c - (n - 1))) Z ?_ ?_
 ·rw [apu,apu,if_neg (by omega),aq8,show n - (n - 1)=1 by omega];have ha:(⟨gg,oo,none⟩:Addr).add (n - 1)=⟨gg,oo+(n - 1),none⟩:=by unfold Addr.add;split <;> simp_all
  simp only [aq5,ha]
 have e2:((i+1:Nat):Int).toNat*1=i+1:=by omega
 have e3:oo+(i:Int).toNat*1=oo+i:=by omega
 rw [e2,e3];have hlen:((usK L).drop (i+1)).length=n - (i+1):=by rw [aqw,ap9,hn]
 refine Aj 0 Z Z Z Z Z Z Z Z ?_ ?_
 ·simp only [spl,aps,ap7,hlen,aqw];omega
 refine aby <| apn Z Z <| ane <| aj ?_;have hcut:=U9 (cur:=cur) (K:=usK L) (oo:=oo) (n:=n) (i:=i) (z:=Value.pointer none) (by rw [← f5,aq8]) (by rw [ap9,hn]) hi;have hm:usK (L.eraseIdx i)=(usK L).eraseIdx i:=by simp only [usK,as6,aqa,List.map_take,List.map_drop]
 refine bh Z Z (kI (cs:=usK (L.eraseIdx i)) (m:=n - 1) (cap:=c) (off:=oo) (sz:=1) 0 Z Z ?_ ?_ f3 ?_ ?_) ?_
 ·rw [ap9,List.length_eraseIdx,if_pos (by omega)];omega
 ·omega
 ·simp only [spl,aps,ap7,hlen,aqw,atg];omega
 ·rw [hm,← hcut,aq8];simp only [spl,List.replicate_one,arv,ap0]
 ·exact ⟨rfl,rfl⟩
end

section
variable {b:World} {F:List SP} {g:Nat} {w nx:Int} {A:Option Addr} {c n:Nat} {L:List Us}
theorem bH {i:Nat} (hi:i<L.length):(usF L).Perm (usP L[i]++usF (L.eraseIdx i)):=by
 have h:L=L.take i++L[i]::L.drop (i+1):=by rw [← aqq hi,aqs]
 conv=>lhs;rw [h]
 rw [as6];exact zH
theorem abb {gu:Nat}:SC Tryz.prog bX [pp gu] b F (fun v F'=>∃ gs,v = .func (.func qy) ⟨[]⟩ ⟨[pp gs]⟩∧F'=pt gs d5 [pp gu]::F):=by
 refine ao Tryz.func253 Z Z Z <| anf <| br Z Z Z Z Z fun gs=>ae Z <| aby <| apn Z Z <| ane <| aj <| bh Z Z av ?_
 exact ⟨gs,rfl,rfl⟩
def yl (xs:List Int):List (List Value):=xs.map fun x=> [Value.int .u8 x]
theorem Je (xs:List Int) (x:Int):yl xs ++ [[Value.int .u8 x]]=yl (xs ++ [x]):=by simp [yl]
def okY (xs:List (List Value)) (vs:List Value):Prop:=xs.length<1000000∧∃ (l:List Int) (x:Int),xs=yl l∧vs = [.int .u8 x]
theorem Qd {b:World} {F:List SP} {k:Nat} {ps:List (Value × List Int)} (hk:nth F k=some (all (psF ps))) {j:Nat} (hj:j<ps.length):∀ w,Sat b F w→VL (Value.int .u8) w ps[j].1 ps[j].2:=fun w H=>by
 obtain ⟨h1,l,H1,a,b',cc⟩:=H.mem.get hk;have hn:nth (psF ps) j=some (rB ps[j].1 ps[j].2):=by
  clear H l a b' cc hk
  induction ps generalizing j with
  | nil => simp at hj
  | cons p ps ih =>
   cases j with
   | zero => rfl
   | succ j => simp only [psF, nth, List.getElem_cons_succ]; exact ih (by simpa using hj)
 exact (pU ((a j).trans l) (cc j _ hn)).sl
theorem abc {m:Nat} {J:List (List Value)→SP} {u:Us} {gs:Nat} (hY:xY Tryz.prog m b okY J) (hb:u.b.length≤4096) (hp:u.ps.length≤100000) :
  SC Tryz.prog qy [.func (.yield m) ⟨[]⟩ ⟨[]⟩,pp gs] b (J []::pt gs d5 [pp u.g]::(usP u++F)) (fun _ F'=>∃ xs F2,F'=J xs::F2∧xs=yl u.b∧F2=pt gs d5 [pp u.g]::(usP u++F)):=by
 obtain ⟨gu,nu,r,pv,ps⟩:=u;dsimp only [Us.b] at hb hp ⊢;refine ao Tryz.func294 Z Z Z <| bu (fun w H=>(H.oat (k:=3) Z).form) ?_;rintro ⟨A',c',hv,q1,q2,q3⟩;dsimp only at hv q1 q2 q3;subst hv;refine anf <| ba 1 Z Z Z <| apn Z Z <| ba 2 Z Z Z <| apn Z Z <| ane <| ak ?_;refine d6 (S:=Nat) (fun i=> [(0,.func (.yield m) ⟨[]⟩ ⟨[]⟩),(1,pp gs),(10,.slice A' ps.length c'),(11,ii ps.length),(12,ii i)])
  (fun i=>J (yl ((ps.take i).flatMap (·.2)))::pt gs d5 [pp gu]::(usP ⟨gu,nu,r,.slice A' ps.length c',ps⟩++F)) (fun i=>i≤ps.length) (fun i=>ps.length - i) 0 av (aqc _) ?_
 intro i hi;refine anf <| ae Z <| ane <| ac ?_;refine cj Z (fun h1=> ?_) (fun h1=> ?_)
 ·have hip:i<ps.length:=by omega
  obtain ⟨gg,oo,rfl⟩:=q3 (by omega);have hpre:((ps.take i).flatMap (·.2)).length+ps[i].2.length≤4096:=by
   have e:ps=ps.take i++ps[i]::ps.drop (i+1):=by rw [← aqq hip,aqs]
   rw [e,arq,asv,aps,aps] at hb;omega
  refine ah <| ab <| ac <| ak <| anf <| ay Z <| b6 (fun w H=>(Qd (k:=4) Z hip w H).form) ?_;rintro ⟨A2,c2,hv2,r1,r2,r3,r4⟩;have cell:(ps.map (·.1))[i]? = some (.slice A2 ps[i].2.length c2):=by rw [← hv2];simp [hip]
  have hvl:∀ {X:List (List Value)} w,Sat b (J X::pt gs d5 [pp gu]::(usP ⟨gu,nu,r,.slice (some ⟨gg,oo,none⟩) ps.length c',ps⟩++F)) w→VL (Value.int .u8) w (.slice A2 ps[i].2.length c2) ps[i].2:=fun w H=>by rw [← hv2];exact Qd (k:=4) Z hip w H
  have hnext:(ps.take (i+1)).flatMap (·.2)=(ps.take i).flatMap (·.2)++ps[i].2:=by rw [apz hip,arq,List.flatMap_singleton]
  generalize ps[i].2=bi at *;generalize (ps.take i).flatMap (·.2)=pre at *;refine fc Z (fun w H=>bx Z Z Z (by rw [b5,apu,aq8];exact zv (k:=3) Z cell w H)) Z ?_;refine ae Z <| aby <| apo Z Z Z <| ane <| ak ?_;refine d6 (S:=Nat) (fun j=> [(0,.func (.yield m) ⟨[]⟩ ⟨[]⟩),(1,pp gs),(10,.slice (some ⟨gg,oo,none⟩) ps.length c'),(11,ii ps.length),(12,ii i),(16,.slice A2 bi.length c2),(17,ii bi.length),(18,ii j)])
   (fun j=>J (yl (pre++bi.take j))::pt gs d5 [pp gu]::(usP ⟨gu,nu,r,.slice (some ⟨gg,oo,none⟩) ps.length c',ps⟩++F)) (fun j=>j≤bi.length) (fun j=>bi.length - j) 0 (by rw [ar1,aqg];exact Ent.refl _) (aqc _) ?_
  intro j hj;refine anf <| ae Z <| ane <| ac ?_;refine cj Z (fun h2=> ?_) (fun h2=> ?_)
  ·have hjb:j<bi.length:=by omega
   obtain ⟨g2,o2,rfl⟩:=r4 (by omega);refine ah <| ab <| ac <| ak <| anf <| ay Z ?_;refine fc Z (fun w H=>bx Z Z Z (by rw [b5,apu,aq8];exact (hvl w H).at j hjb)) Z ?_;refine ae Z <| aby <| apn Z Z ?_;refine Nc 0 hY Z Z Z Z ⟨by simp [yl];omega,_,_,rfl,rfl⟩ Z ?_;refine ae Z <| ane <| ai Z <| ah <| bg <| ab <| aa <| ay Z <| ae Z <| ad <| dj (j+1) ?_ hjb;rw [apz hjb,← ap0,← Je];exact Ent.refl _
  ·have hjj:j=bi.length:=by omega
   subst hjj;refine b8 <| aw <| ax <| aq <| bg <| ab <| aa <| ay Z <| ae Z <| ad <| dj (i+1) ?_ hip;rw [hnext,aqk];exact Ent.refl _
 ·have hii:i=ps.length:=by omega
  subst hii;refine b8 <| aw <| ax <| aq <| io Z .nil av ?_;exact ⟨_,_,rfl,by rw [aqk],rfl⟩
end

def unV:List Value→Int
 | [.int _ x] => x
 | _ => 0
theorem Qe (l:List Int):(yl l).map unV=l:=by
 simp only [yl,att]
 conv=>rhs;rw [← List.map_id l]
 rfl
section
variable {b:World} {F:List SP}
theorem Qf {u:Us} (hb:u.b.length≤4096) (hp:u.ps.length≤100000):SC Tryz.prog zf [pp u.g] b (usP u++F) (fun v F'=>F'=rB v u.b::(usP u++F)):=by
 refine yt Tryz.func183 Z Z Z <| anf <| bq Z Z Z Z Z fun g2=>ane <| ac <| anf <| ae Z <| am Z Z Z (abb) ?_
 rintro v F' ⟨gs,rfl,rfl⟩;refine ane <| ak ?_;refine xZ Z okY (fun xs=> [exP (fun _:Value=>True) fun v=> [pt g2 eo [v],rB v (xs.map unV)]]) (pt gs d5 [pp u.g]::(usP u++F)) (fun xs F2=>xs=yl u.b∧F2=pt gs d5 [pp u.g]::(usP u++F)) ?_ Z ?_ ?_ ?_ ?_
 ·exact (af 2 [1,0] Z:Ent _ (pt g2 eo [.slice none 0 0]::pt gs d5 [pp u.g]::(usP u++F))).trans ((de im 1 Z).trans ((af 2 [1,0] Z).trans (zw (p:=fun _:Value=>True) (G:=fun v=> [pt g2 eo [v],rB v (([]:List (List Value)).map unV)]) (.slice none 0 0) trivial)))
 ·rintro xs vs ⟨_,l,x,_,rfl⟩;rfl
 ·rintro m D xs vs F0 R ⟨hlen,l,x,rfl,rfl⟩ hR;have hll:l.length<1000000:=by simpa [yl] using hlen
  rw [Je,Qe] at hR;rw [Qe];refine qb (af 3 [2,0,1] Z) <| E3 fun v _=>qb (af 4 [2,0,1,3] Z) <| aa <| ae Z <| ad <| mM <| ak <| aa <| ba 1 Z Z Z <| ae Z <| lp [.int .u8 x] Z Z Z Z Z Z Z Z Z fun gl=> ?_
  skip
  refine ef 3 Z Z Z Z Z Z Z Z Z (m:=1) (news:= [.int .u8 x]) (fun w H=>(H.blk (k:=0) Z).sl Z (by decide)) (by simp [Value.oneCell']) (by omega) (fun _=>rfl) fun v'=> ?_;refine b6 (fun w H=>(H.oat (k:=3) Z).form) ?_;rintro ⟨A7,c7,rfl,_,_,_⟩;refine cg 2 Z Z Z Z <| ad <| bg <| ri (af 5 [1,2,3,4] Z) <| r8 fun w H=>hR w <| H.ent ?_
  have e:row im 1 (.slice A7 (l.length+1) c7) (l.length+1) (u8s l ++ [.int .u8 x])=rB (.slice A7 (l.length+1) c7) (l ++ [x]):=by simp [rB]
  rw [e];exact (af 4 [1,2,0,3] Z).trans ((zw (p:=fun _:Value=>True) (G:=fun v=> [pt g2 eo [v],rB v (l ++ [x])]) (.slice A7 (l.length+1) c7) trivial).trans (af 3 [1,2,0] Z))
 ·intro m J hY;exact abc hY hb hp
 ·rintro D xs F2 ⟨rfl,rfl⟩;rw [Qe];refine ri (af 2 [1,0] Z) <| E4 fun v _=>xQ (fun w H=>(H.oat (k:=1) Z).form) ?_
  rintro ⟨A7,c7,rfl,_,_,_⟩;refine bg <| ab <| anf <| ba 0 Z Z Z <| cg 0 Z Z Z Z <| ane <| aj <| pX Z (k:=2) Z Z (.cell 0 Z Z Z Z Z .nil) (af 4 [1] Z) ?_
  rfl
abbrev ssC (n:Int) (r:ByteArray) (bv:Value):List Value:= [ii n,.string r,bv]
theorem abd {u:Us} (hb:u.b.length≤4096) (hp:u.ps.length≤100000):SC Tryz.prog sc [pp u.g] b (usP u++F) (fun v F'=>∃ bv,v = .agg ⟨ssC u.n u.r bv⟩∧F'=rB bv u.b::(usP u++F)):=by
 refine ao Tryz.func97 Z Z Z <| anf <| bq Z Z Z Z Z fun g2=>ane <| ac <| ij flo 11 (usP u++F) [] Z (by decide +kernel) (af 1 [] Z) <| bj Z Zl <| bj Z Zl <| bj Z Zl <| cd 0 Z Z Z Z <| bj Z Zl <| bj Z Zl <| bj Z Zl <| cd 0 Z Z Z Z <| bj Z Zl <| dh Z Z Z Z ((Qf hb hp (F:=pt g2 q5 [ii 0,.string ⟨#[]⟩,.slice none 0 0]::F)).ent (af 4 [1,2,3,0] Z)) ?_
 rintro bv F' rfl;refine ⟨af 5 [1,2,3] rfl,(lh (fun w H=>(H.oat (k:=0) Z).form) ?_)⟩;rintro ⟨A7,c7,rfl,_,_,_⟩;refine bj Z Zl <| ap <| ik Z (dc _) <| qc 4 Z Z Z Z Z Z Z Z Z Z Z Z (dc _) <| ap <| ab <| aj <| ez Z (.agg 4 Z Z Z Z Z .nil) (af 5 [0,1,2,3] Z) ?_;exact ⟨_,rfl,rfl⟩
end

abbrev Se:=Int × ByteArray × List Int
def Us.se (u:Us):Se:=(u.n,u.r,u.b)
structure Ds where
 n:Int
 r:ByteArray
 bv:Value
 b:List Int
def Ds.se (d:Ds):Se:=(d.n,d.r,d.b)
def dsC (d:Ds):List Value:=ssC d.n d.r d.bv
theorem Va:∀ (l:List Ds),∀ d∈l,(dsC d).length=3:=fun _ _ _=>rfl
structure UOk (u:Us):Prop where
 hb:u.b.length≤4096
 hp:u.ps.length≤100000
section
variable {b:World} {F:List SP} {g:Nat} {w nx:Int} {A:Option Addr} {c n:Nat} {L:List Us}
theorem Vb {i:Nat} (hi:i<L.length) (ho:UOk L[i]):SC Tryz.prog sc [pp (L[i].g)] b (tbU g w nx A c n L F) (fun v F'=>∃ bv,v = .agg ⟨ssC L[i].n L[i].r bv⟩∧F'=rB bv L[i].b::tbU g w nx A c n L F):=by
 refine ((abd ho.hb ho.hp (F:=all (usF (L.eraseIdx i))::pt g jo [ii w,ii nx,.slice A n c]::usR A c n L::F)).ent ((af 3 [2,0,1] Z).trans (xa (B:=usP L[i]) (bH hi)))).out ?_;rintro v F' ⟨bv,rfl,rfl⟩;refine ⟨_,?_,bv,rfl,rfl⟩;exact (af 7 [1,2,3,4,0,5,6] Z).trans ((qd (A:=usF L) (B:=usP L[i]) (bH hi)).trans (af 4 [1,2,3,0] Z))
end

section
variable {b:World} {F:List SP} {g:Nat} {w nx:Int} {A:Option Addr} {c n:Nat} {L:List Us}
abbrev Vc (gc gid go g:Nat) (id:List Int) (s:List Value) (F:List SP):List SP:=pt gc aS [pp g]::pt gid t_api_ID (u8s id)::pt go q5 s::F
theorem Lr {i gc gid go:Nat} {id:List Int} {a0:Int} {a1:ByteArray} {a2:Value} (hn:L.length=n) (h8:n≤1000) (hi:i<L.length) (ho:UOk L[i]) (hid:id.length=32) :
  SC Tryz.prog ym [ii i,pp (L[i].g),pp gc,pp gid,pp go] b (tbU g w nx A c n L (Vc gc gid go g id (ssC a0 a1 a2) F))
   (fun v F'=>if dq (dt L[i].b) w=id then v=ii 0∧∃ bv,F'=rB bv L[i].b::tbU g w nx A c (n - 1) (L.eraseIdx i) (Vc gc gid go g id (ssC L[i].n L[i].r bv) F) else v=ii 8∧F'=tbU g w nx A c n L (Vc gc gid go g id (ssC a0 a1 a2) F)):=by
 have hcl:=eZ (dt L[i].b) w (yb L[i].b);have hbl:=ho.hb;have hOf:∀ {b:World} {F:List SP} {vb:Value},(∀ w,Sat b F w→VL (Value.int .u8) w vb L[i].b)→SC Tryz.prog rR [vb,ii w] b F (fun v F'=>v = .tuple ⟨[idV (dq (dt L[i].b) w),ii (dH w)]⟩∧F'=F):=fun h=>Kk (by omega) h
 generalize dq (dt L[i].b) w=own at *;generalize dH w=ce at *;refine ao Tryz.func96 Z Z Z <| anf <| ae Z <| aby <| ae Z <| am Z Z Z (Vb hi ho) ?_;rintro v F' ⟨bv,rfl,rfl⟩;refine b6 (fun w H=>(H.oat (k:=0) Z).form) ?_;rintro ⟨A7,c7,rfl,_,_,_⟩
 skip
 refine bq Z Z Z Z Z fun g8=>cg 0 Z Z Z Z <| ane <| ac <| ac ?_
 refine cK flo 13 _ (by kernel_rfl) Z av ?_;refine ve (T:=Nat) 11 [7,8,9,11,12] (fun g9=> [(0,ii i),(2,pp gc),(3,pp gid),(4,pp go),(8,pp g8),(9,pp g9),(20,.tuple ⟨[idV own,ii ce]⟩)])
  (fun g9=>pt g9 t_api_ID (u8s (List.replicate 32 0))::pt g8 q5 (ssC L[i].n L[i].r (.slice A7 L[i].b.length c7))::rB (.slice A7 L[i].b.length c7) L[i].b::tbU g w nx A c n L (Vc gc gid go g id (ssC a0 a1 a2) F)) (fun _=>True) ?_ (fun J=> ?_)
 rotate_left
 ·refine my (6,[0,1,2,3,4,5]) [(10,[])] (by kernel_rfl) ⟨dZ 0 6 Z Z Z ?_,fz _ Z av ?_,trivial⟩
  ·refine bj Z Zl <| cd 0 Z Z Z Z <| cd 5 Z Z Z Z <| bj Z Zl <| bj Z Zl <| cd 2 Z Z Z Z <| fe Z Z Z Z (hOf (vlB (v:= .slice A7 L[i].b.length c7) (k:=1) Z)) av ?_;refine ap (ip av (p9 10 0 (by kernel_rfl) Z ?_));refine iz Z Z Z Z Z Z av fun g9=>ap <| ip (af 1 [] Z) ?_
   exact J g9 _ _ _ trivial (by kernel_rfl) ⟨rfl,rfl,rfl,rfl,rfl,rfl,rfl,trivial⟩ av
  ·refine iz Z Z Z Z Z Z av fun g9=> ?_;refine ap (ip (af 1 [] Z) (p9 0 6 (by kernel_rfl) Z ?_));refine bj Z Zl <| cd 0 Z Z Z Z <| cd 5 Z Z Z Z <| bj Z Zl <| bj Z Zl <| cd 2 Z Z Z Z <| fe Z Z Z Z (hOf (vlB (v:= .slice A7 L[i].b.length c7) (k:=2) Z)) (af 1 [] Z) <| ap <| ip (af 1 [] Z) ?_;exact J g9 _ _ _ trivial (by kernel_rfl) ⟨rfl,rfl,rfl,rfl,rfl,rfl,rfl,trivial⟩ av
 intro g9 _;refine my (11,[7,8]) [] (by kernel_rfl) ⟨i6 7 2 (L2:= []) Z Z ?_,trivial⟩;refine bj Z Zl <| bj Z Zl <| ap <| pk (af 1 [] Z) <| fz _ Z av ?_;refine yc 0 Z Z Z Z Z Z Z Z (by rw [bz,hcl];rfl) (ec _) (by simp [hcl]) (af 1 [] Z) ?_;refine ap (ip (af 1 [] Z) (kN 9 1 12 1 (by kernel_rfl) (by kernel_rfl) Z ?_));refine bj Z Zl <| ap <| Nm Z (af 1 [] Z) <| bj Z Zl <| ap <| ab <| anf <| b7 0 Z Z Z Z Z Z (ek hcl) Z <| b7 7 Z Z Z Z Z Z (ek hid) Z <| j6 Z (Ek (as00:=own) (bs:=id) Z Z hcl hid) Z ?_;by_cases h:own=id
 ·refine bn 25 (.bool false) Z (by simp [h]) ?_;refine ane <| ai Z <| ah <| ab <| anf <| ba 1 Z Z Z <| cg 8 Z Z Z Z <| ane <| ac <| ij flo 11 (pt g jo [ii w,ii nx,.slice A n c]::pt gc aS [pp g]::F) [] Z (by decide +kernel) (af 9 [3,6] Z) <| cd 1 Z Z Z Z <| cd 1 Z Z Z Z <| bj Z Zl <| bj Z Zl <| cd 0 Z Z Z Z <| bj Z Zl <| bj Z Zl <| dx Z Z <| dh Z Z Z Z ((Qc hn h8 (by omega)).ent (af 5 [4,0,1,2,3] Z)) ?_;rintro v F' ⟨rfl,rfl⟩;refine ⟨af 9 [4,6] rfl,(bj Z Zl <| bj Z Zl <| ap <| ik Z (dc _) <| xw 4 Z Z Z Z Z Z Z Z Z Z Z (dc _) <| ap <| ab <| anf <| ae Z <| ane <| aj <| bh Z Z ((af 9 [5,3,4,0,6,7,8] Z).trans ((af 1 [0] Z).trans ((xa (B:=usP L[i]) (bH hi)).trans (af 10 [4,5,6,3,7,8,9] Z)))) ?_)⟩;rw [if_pos h];exact ⟨rfl,_,rfl⟩
 ·refine bn 25 (.bool true) Z (by simp [h]) ?_;refine ane <| ar Z <| anf <| ae Z <| ane <| aj <| al <| bh Z Z (af 9 [3,4,5,6,7,8] Z) ?_;rw [if_neg h];exact ⟨rfl,rfl⟩
end

section
variable {b:World} {F:List SP} {g:Nat} {w nx:Int} {A:Option Addr} {c n:Nat} {L:List Us}
abbrev ss0:Value:= .agg ⟨ssC 0 ⟨#[]⟩ (.slice none 0 0)⟩
theorem Di {x:Int} {id:List Int} {i:Nat} (hid:id.length=32) (hw:w≠0) (hn:L.length=n) (h8:n≤1000) (hs:L.Pairwise (fun a c=>a.n<c.n)) (hi:i<L.length) (hx:L[i].n=x) (ho:UOk L[i]):SC Tryz.prog aE [pp g,ii x,idV id] b (tbU g w nx A c n L F)
  (fun v F'=>if dq (dt L[i].b) w=id then ∃ bv,v = .tuple ⟨[.agg ⟨ssC L[i].n L[i].r bv⟩,ii 0]⟩∧F'=rB bv L[i].b::tbU g w nx A c (n - 1) (L.eraseIdx i) F else v = .tuple ⟨[ss0,ii 8]⟩∧F'=tbU g w nx A c n L F):=by
 refine ao Tryz.func34 Z Z Z <| anf <| br Z Z Z Z Z fun g3=> ?_
 skip
 refine br Z Z Z Z Z fun g5=> ?_
 skip
 refine bq Z Z Z Z Z fun g6=>ae Z <| aby <| ba 2 Z Z Z <| apn Z Z <| am Z Z Z ((Dh hw hn h8 hs hi hx (Lr (gc:=g3) (gid:=g5) (go:=g6) hn h8 hi ho hid)).ent (af 6 [3,4,5,2,1,0] Z)) ?_
 intro v F' hR;by_cases h:dq (dt L[i].b) w=id
 ·rw [if_pos h] at hR;obtain ⟨rfl,bv,rfl⟩:=hR;refine b6 (fun w H=>(H.oat (k:=0) Z).form) ?_;rintro ⟨A7,c7,rfl,_,_,_⟩;refine ae Z <| aby <| ba 6 Z Z Z <| ae Z <| cg 6 Z Z Z Z <| ae Z <| ane <| aj <| ez Z (.agg 6 Z Z Z Z Z (.tmp Z .nil)) (af 7 [0,1,2,3] Z) ?_;rw [if_pos h];exact ⟨_,rfl,rfl⟩
 ·rw [if_neg h] at hR;obtain ⟨rfl,rfl⟩:=hR;refine ae Z <| aby <| ba 5 Z Z Z <| ae Z <| cg 5 Z Z Z Z <| ae Z <| ane <| aj <| ez Z (.agg 5 Z Z Z Z Z (.tmp Z .nil)) (af 6 [0,1,2] Z) ?_;rw [if_neg h];exact ⟨rfl,rfl⟩
end
end Go.Proofs.YtbfailbgdnpaiaaGreatDoor
