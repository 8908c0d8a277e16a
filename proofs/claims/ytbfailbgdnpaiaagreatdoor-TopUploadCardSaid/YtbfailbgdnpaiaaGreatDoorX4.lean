/- The types and the functions of this seat's program, as the engine asks for them: laid by a program (seatgen.py) out of the translation. Conditions: none. -/
import Derived.Test.YtbfailbgdnpaiaaGreatDoorChecked
import Derived.Test.YtbfailbgdnpaiaaGreatDoorX2
import Derived.KernelRfl
set_option maxRecDepth 20000
set_option maxHeartbeats 8000000
namespace Go.Proofs.YtbfailbgdnpaiaaGreatDoor
open Go.Eng
abbrev bN:Value:= .string ⟨⟨[]⟩⟩
def ti1:TI:=⟨.func #[] #[] false,1,8,.nilFunc,[]⟩
def ti2:TI:=⟨.int .i64,1,8,ii 0,[]⟩
def ti3:TI:=ti2
def ti4:TI:=⟨.bool,1,1,.bool false,[]⟩
def ti5:TI:=⟨.int .u8,1,1,.int .u8 0,[]⟩
def ti6:TI:=ti5
def ti7:TI:=⟨.struct #[],4,24,.agg ⟨[ii 0,ii 0,.bool false,.int .u8 0]⟩,[(2,0),(3,1),(4,2),(6,3)]⟩
def ti8:TI:=ti7
def ti9:TI:=⟨.string,1,16,bN,[]⟩
def anh:TI:=ti9
def ani:TI:=ti9
def Sn:TI:=⟨.int .u64,1,8,.int .u64 0,[]⟩
def ab7:TI:=⟨.struct #[],2,24,.agg ⟨[bN,.int .u64 0]⟩,[(9,0),(12,1)]⟩
def anj:TI:=ab7
def ank:TI:=⟨.pointer 451,1,8,.pointer none,[]⟩
def anl:TI:=⟨.pointer 454,1,8,.pointer none,[]⟩
def anm:TI:=⟨.pointer 462,1,8,.pointer none,[]⟩
def ab8:TI:=⟨.struct #[],1,8,.agg ⟨[.pointer none]⟩,[(17,0)]⟩
def ann:TI:=ab8
def So:TI:=⟨.int .i32,1,4,.int .i32 0,[]⟩
def ano:TI:=⟨.slice 39,1,24,.slice none 0 0,[]⟩
def anp:TI:=⟨.func #[] #[4] false,1,8,.nilFunc,[]⟩
def anq:TI:=⟨.func #[22,3,3] #[4] false,1,8,.nilFunc,[]⟩
def anr:TI:=⟨.func #[3,3] #[3] false,1,8,.nilFunc,[]⟩
def ans:TI:=⟨.pointer 175,1,8,.pointer none,[]⟩
def ant:TI:=ti2
def anu:TI:=⟨.func #[3] #[26,27] false,1,8,.nilFunc,[]⟩
def anv:TI:=⟨.pointer 85,1,8,.pointer none,[]⟩
def anw:TI:=⟨.func #[3,3] #[30,27] false,1,8,.nilFunc,[]⟩
def anx:TI:=⟨.pointer 90,1,8,.pointer none,[]⟩
def anz:TI:=⟨.func #[3] #[33,27] false,1,8,.nilFunc,[]⟩
def ab9:TI:=⟨.struct #[],4,32,.agg ⟨[ii 0,.pointer none,.pointer none,.pointer none]⟩,[(3,0),(26,1),(30,2),(33,3)]⟩
def an0:TI:=ab9
def an1:TI:=⟨.func #[22] #[22] false,1,8,.nilFunc,[]⟩
def an2:TI:=⟨.slice 5,1,24,.slice none 0 0,[]⟩
def aca:TI:=⟨.array 32 5,32,32,.agg ⟨List.replicate 32 (.int .u8 0)⟩,[]⟩
def an3:TI:=aca
def acb:TI:=⟨.struct #[],35,64,.agg ⟨[ii 0]++List.replicate 32 (.int .u8 0) ++ [ii 0,bN]⟩,[(3,0),(41,1),(3,33),(9,34)]⟩
def an4:TI:=acb
def an5:TI:=⟨.slice 43,1,24,.slice none 0 0,[]⟩
def acd:TI:=⟨.struct #[],39,136,.agg ⟨[ii 0,bN,ii 0]++List.replicate 32 (.int .u8 0) ++ [ii 0,bN,.slice none 0 0,.slice none 0 0]⟩,[(3,0),(9,1),(43,2),(44,37),(44,38)]⟩
def an6:TI:=acd
def an7:TI:=⟨.func #[39,3] #[41,27] false,1,8,.nilFunc,[]⟩
def an8:TI:=⟨.func #[41] #[39,4] false,1,8,.nilFunc,[]⟩
def an9:TI:=⟨.func #[39,39] #[4] false,1,8,.nilFunc,[]⟩
def aoa:TI:=⟨.func #[9,3,39] #[43,4] false,1,8,.nilFunc,[]⟩
def aob:TI:=⟨.func #[46] #[39,27] false,1,8,.nilFunc,[]⟩
def aoc:TI:=⟨.func #[39,3] #[46,27] false,1,8,.nilFunc,[]⟩
def aod:TI:=⟨.func #[46,46] #[4] false,1,8,.nilFunc,[]⟩
def aoe:TI:=⟨.func #[39,46] #[4] false,1,8,.nilFunc,[]⟩
def aof:TI:=⟨.func #[22,3] #[4] false,1,8,.nilFunc,[]⟩
def aog:TI:=⟨.slice 3,1,24,.slice none 0 0,[]⟩
def aoh:TI:=⟨.slice 153,1,24,.slice none 0 0,[]⟩
def ace:TI:=⟨.struct #[],2,48,.agg ⟨[.slice none 0 0,.slice none 0 0]⟩,[(61,0),(62,1)]⟩
def aoi:TI:=ace
def aoj:TI:=⟨.func #[3] #[64,27] false,1,8,.nilFunc,[]⟩
def aok:TI:=⟨.func #[39] #[41] false,1,8,.nilFunc,[]⟩
def aol:TI:=⟨.func #[64,73] #[64,27] false,1,8,.nilFunc,[]⟩
def Sp:TI:=⟨.struct #[],2,16,.agg ⟨[ii 0,ii 0]⟩,[(3,0),(3,1)]⟩
def aom:TI:=Sp
def acf:TI:=⟨.slice 41,1,24,.slice none 0 0,[]⟩
def acg:TI:=⟨.struct #[],39,136,.agg ⟨[ii 0,ii 0,.slice none 0 0,ii 0,bN,bN]++List.replicate 32 (.int .u8 0) ++ [.slice none 0 0]⟩,[(70,0),(61,2),(3,3),(9,4),(9,5),(41,6),(71,38)]⟩
def aon:TI:=acg
def aoo:TI:=⟨.func #[64] #[39,27] false,1,8,.nilFunc,[]⟩
def ach:TI:=⟨.struct #[],2,16,.agg ⟨[ii 0,ii 0]⟩,[(27,0),(3,1)]⟩
def aop:TI:=ach
def aoq:TI:=⟨.func #[39] #[64,76] false,1,8,.nilFunc,[]⟩
def aor:TI:=⟨.func #[64,64] #[4] false,1,8,.nilFunc,[]⟩
def aos:TI:=⟨.func #[71,71] #[4] false,1,8,.nilFunc,[]⟩
def aot:TI:=⟨.func #[64,9,9] #[71] false,1,8,.nilFunc,[]⟩
def aou:TI:=⟨.func #[3,3,172] #[26,27] false,1,8,.nilFunc,[]⟩
def aov:TI:=⟨.map 41 93,1,8,.map none,[]⟩
def aci:TI:=⟨.struct #[],4,32,.agg ⟨[ii 0,ii 0,ii 0,.map none]⟩,[(3,0),(3,1),(3,2),(83,3)]⟩
def aow:TI:=aci
def aox:TI:=⟨.map 303 300,1,8,.map none,[]⟩
def aoy:TI:=⟨.map 9 246,1,8,.map none,[]⟩
def aoz:TI:=⟨.func #[3,3] #[4] false,1,8,.nilFunc,[]⟩
def acj:TI:=⟨.struct #[],4,32,.agg ⟨[ii 0,.map none,.map none,.nilFunc]⟩,[(3,0),(86,1),(87,2),(88,3)]⟩
def ao0:TI:=acj
def ao1:TI:=⟨.func #[39] #[39] false,1,8,.nilFunc,[]⟩
def ao2:TI:=⟨.func #[41,3] #[41,27] false,1,8,.nilFunc,[]⟩
def ao3:TI:=⟨.pointer 96,1,8,.pointer none,[]⟩
def ack:TI:=⟨.struct #[],1,24,.agg ⟨[.slice none 0 0]⟩,[(39,0)]⟩
def ao4:TI:=ack
def ao5:TI:=⟨.func #[9] #[3,27] false,1,8,.nilFunc,[]⟩
def ao6:TI:=⟨.func #[3,3,39] #[3,27] false,1,8,.nilFunc,[]⟩
def V9:TI:=⟨.struct #[],3,48,.agg ⟨[ii 0,bN,.slice none 0 0]⟩,[(3,0),(9,1),(39,2)]⟩
def acl:TI:=V9
def acm:TI:=⟨.func #[3,41] #[101,27] false,1,8,.nilFunc,[]⟩
def acn:TI:=⟨.func #[41,39] #[4,27] false,1,8,.nilFunc,[]⟩
def aco:TI:=⟨.func #[9,41,3] #[4,27] false,1,8,.nilFunc,[]⟩
def acp:TI:=⟨.func #[46] #[4] false,1,8,.nilFunc,[]⟩
def acq:TI:=⟨.func #[44,110] #[4] false,1,8,.nilFunc,[]⟩
def acr:TI:=⟨.func #[46] #[44] false,1,8,.nilFunc,[]⟩
def acs:TI:=⟨.func #[43] #[4] false,1,8,.nilFunc,[]⟩
def act:TI:=⟨.pointer 192,1,8,.pointer none,[]⟩
def acu:TI:=⟨.func #[3] #[111,27] false,1,8,.nilFunc,[]⟩
def acv:TI:=⟨.func #[3] #[27] false,1,8,.nilFunc,[]⟩
def acw:TI:=⟨.func #[41] #[27] false,1,8,.nilFunc,[]⟩
def acx:TI:=⟨.func #[9] #[27] false,1,8,.nilFunc,[]⟩
def acy:TI:=⟨.func #[43] #[] false,1,8,.nilFunc,[]⟩
def acz:TI:=⟨.func #[194] #[44] true,1,8,.nilFunc,[]⟩
def ac0:TI:=⟨.func #[111,196] #[39,27] true,1,8,.nilFunc,[]⟩
def ac1:TI:=⟨.func #[39] #[46,76] false,1,8,.nilFunc,[]⟩
def ac2:TI:=⟨.func #[46,3] #[76] false,1,8,.nilFunc,[]⟩
def ac3:TI:=⟨.func #[44,44] #[4] false,1,8,.nilFunc,[]⟩
def ac4:TI:=⟨.func #[30,41] #[71,41,27] false,1,8,.nilFunc,[]⟩
def ac5:TI:=⟨.func #[] #[71] false,1,8,.nilFunc,[]⟩
def Wa:TI:=⟨.struct #[],3,40,.agg ⟨[.slice none 0 0,ii 0,ii 0]⟩,[(71,0),(3,1),(3,2)]⟩
def ac6:TI:=Wa
def ac7:TI:=⟨.func #[30,33,71] #[128,27] false,1,8,.nilFunc,[]⟩
def ac8:TI:=⟨.func #[30,71] #[71] false,1,8,.nilFunc,[]⟩
def ac9:TI:=⟨.func #[] #[3] false,1,8,.nilFunc,[]⟩
def ada:TI:=⟨.slice 9,1,24,.slice none 0 0,[]⟩
def adb:TI:=⟨.func #[] #[133] false,1,8,.nilFunc,[]⟩
def adc:TI:=⟨.func #[9] #[3] false,1,8,.nilFunc,[]⟩
def ade:TI:=⟨.pointer 254,1,8,.pointer none,[]⟩
def adf:TI:=⟨.func #[] #[136] false,1,8,.nilFunc,[]⟩
def adg:TI:=⟨.func #[39] #[27] false,1,8,.nilFunc,[]⟩
def adh:TI:=⟨.func #[] #[41,27] false,1,8,.nilFunc,[]⟩
def adi:TI:=⟨.func #[64] #[27] false,1,8,.nilFunc,[]⟩
def adj:TI:=⟨.func #[64,73] #[27] false,1,8,.nilFunc,[]⟩
def adk:TI:=⟨.pointer 145,1,8,.pointer none,[]⟩
def adl:TI:=⟨.func #[64] #[64] false,1,8,.nilFunc,[]⟩
def Wb:TI:=⟨.struct #[],2,48,.agg ⟨[.slice none 0 0,.slice none 0 0]⟩,[(64,0)]⟩
def adm:TI:=Wb
def adn:TI:=⟨.func #[73] #[] false,1,8,.nilFunc,[]⟩
def ado:TI:=⟨.array 5 146,5,40,.agg ⟨List.replicate 5 (.nilFunc)⟩,[]⟩
def adp:TI:=⟨.func #[61,70] #[61] false,1,8,.nilFunc,[]⟩
def adq:TI:=⟨.func #[61] #[27] false,1,8,.nilFunc,[]⟩
def adr:TI:=⟨.slice 155,1,24,.slice none 0 0,[]⟩
def ads:TI:=⟨.slice 266,1,24,.slice none 0 0,[]⟩
def Wc:TI:=⟨.struct #[],3,64,.agg ⟨[bN,.slice none 0 0,.slice none 0 0]⟩,[(9,0),(150,1),(151,2)]⟩
def adt:TI:=Wc
def Wd:TI:=⟨.struct #[],2,40,.agg ⟨[bN,.slice none 0 0]⟩,[(9,0),(151,1)]⟩
def adu:TI:=Wd
def adv:TI:=⟨.func #[111,151] #[] false,1,8,.nilFunc,[]⟩
def adw:TI:=⟨.func #[] #[39,27] false,1,8,.nilFunc,[]⟩
def adx:TI:=⟨.pointer 281,1,8,.pointer none,[]⟩
def ady:TI:=⟨.func #[39] #[158] false,1,8,.nilFunc,[]⟩
def adz:TI:=⟨.pointer 162,1,8,.pointer none,[]⟩
def Wf:TI:=⟨.struct #[],4,32,.agg ⟨[.pointer none,ii 0,ii 0,ii 0]⟩,[(158,0),(3,1),(76,2)]⟩
def ad0:TI:=Wf
def ad1:TI:=⟨.func #[3] #[61] false,1,8,.nilFunc,[]⟩
def ad2:TI:=⟨.func #[1] #[] false,1,8,.nilFunc,[]⟩
def ad3:TI:=⟨.func #[3] #[9] false,1,8,.nilFunc,[]⟩
def ad4:TI:=⟨.func #[] #[151] false,1,8,.nilFunc,[]⟩
def ad5:TI:=⟨.func #[] #[76] false,1,8,.nilFunc,[]⟩
def ad6:TI:=⟨.func #[61,61] #[4] false,1,8,.nilFunc,[]⟩
def ad7:TI:=⟨.func #[151,151] #[4] false,1,8,.nilFunc,[]⟩
def ad8:TI:=⟨.func #[151] #[71] false,1,8,.nilFunc,[]⟩
def ad9:TI:=⟨.func #[64,9,9] #[151] false,1,8,.nilFunc,[]⟩
def aea:TI:=⟨.slice 101,1,24,.slice none 0 0,[]⟩
def aeb:TI:=⟨.slice 177,1,24,.slice none 0 0,[]⟩
def Wg:TI:=⟨.struct #[],3,40,.agg ⟨[ii 0,ii 0,.slice none 0 0]⟩,[(3,0),(3,1),(173,2)]⟩
def aec:TI:=Wg
def aed:TI:=⟨.func #[9] #[76] false,1,8,.nilFunc,[]⟩
def aee:TI:=⟨.pointer 179,1,8,.pointer none,[]⟩
def Wh:TI:=⟨.struct #[],4,56,.agg ⟨[ii 0,ii 0,bN,.slice none 0 0]⟩,[(3,0),(3,1),(9,2),(22,3)]⟩
def aef:TI:=Wh
def aeg:TI:=⟨.func #[3,181] #[27] false,1,8,.nilFunc,[]⟩
def aeh:TI:=⟨.func #[3,177] #[27] false,1,8,.nilFunc,[]⟩
def aei:TI:=⟨.func #[] #[101] false,1,8,.nilFunc,[]⟩
def aej:TI:=⟨.func #[173,3,3] #[173] false,1,8,.nilFunc,[]⟩
def aek:TI:=⟨.func #[4,27] #[27] false,1,8,.nilFunc,[]⟩
def ael:TI:=⟨.func #[] #[27] false,1,8,.nilFunc,[]⟩
def aem:TI:=⟨.slice 185,1,24,.slice none 0 0,[]⟩
def aen:TI:=⟨.func #[44,110] #[3] false,1,8,.nilFunc,[]⟩
def aeo:TI:=⟨.pointer 190,1,8,.pointer none,[]⟩
def Wi:TI:=⟨.struct #[],2,16,.agg ⟨[ii 0,ii 0]⟩,[(76,0)]⟩
def aep:TI:=Wi
def Wj:TI:=⟨.struct #[],3,40,.agg ⟨[.pointer none,ii 0,.slice none 0 0]⟩,[(188,0),(3,1),(39,2)]⟩
def aeq:TI:=Wj
def aer:TI:=⟨.func #[20] #[27] false,1,8,.nilFunc,[]⟩
def aes:TI:=⟨.slice 44,1,24,.slice none 0 0,[]⟩
def aet:TI:=⟨.func #[44,3] #[44] false,1,8,.nilFunc,[]⟩
def aeu:TI:=⟨.slice 1,1,24,.slice none 0 0,[]⟩
def Wk:TI:=⟨.struct #[],2,16,.agg ⟨[.pointer none,ii 0]⟩,[(158,0),(3,1)]⟩
def aev:TI:=Wk
def aew:TI:=⟨.func #[] #[46,76] false,1,8,.nilFunc,[]⟩
def aex:TI:=⟨.func #[] #[76,4] false,1,8,.nilFunc,[]⟩
def Wl:TI:=⟨.struct #[],40,144,.agg ⟨[ii 0,bN,ii 0]++List.replicate 32 (.int .u8 0) ++ [ii 0,bN,.slice none 0 0,.slice none 0 0,ii 0]⟩,[(46,0),(3,39)]⟩
def aey:TI:=Wl
def aez:TI:=⟨.func #[203] #[4] false,1,8,.nilFunc,[]⟩
def ae0:TI:=⟨.struct #[],2,16,.agg ⟨[ii 0,.nilFunc]⟩,[(27,0),(204,1)]⟩
def ae1:TI:=⟨.slice 205,1,24,.slice none 0 0,[]⟩
def ae2:TI:=⟨.func #[203] #[76] false,1,8,.nilFunc,[]⟩
def Wm:TI:=⟨.struct #[],33,40,.agg ⟨List.replicate 32 (.int .u8 0) ++ [ii 0]⟩,[(41,0),(27,32)]⟩
def ae3:TI:=Wm
def ae4:TI:=⟨.map 41 219,1,8,.map none,[]⟩
def Wo:TI:=⟨.func #[319] #[] false,1,8,.nilFunc,[]⟩
def ae5:TI:=Wo
def ae6:TI:=⟨.func #[30,215] #[213] false,1,8,.nilFunc,[]⟩
def ae7:TI:=⟨.pointer 217,1,8,.pointer none,[]⟩
def Wp:TI:=⟨.struct #[],37,80,.agg ⟨[ii 0]++List.replicate 32 (.int .u8 0) ++ [ii 0,bN,ii 0,.bool false]⟩,[(43,0),(3,35),(4,36)]⟩
def ae8:TI:=Wp
def wK:TI:=⟨.struct #[],1,8,.agg ⟨[ii 0]⟩,[(3,0)]⟩
def ae9:TI:=wK
def afa:TI:=⟨.func #[211] #[71] false,1,8,.nilFunc,[]⟩
def afb:TI:=⟨.pointer 222,1,8,.pointer none,[]⟩
def afc:TI:=acf
def afd:TI:=⟨.func #[324,20] #[] false,1,8,.nilFunc,[]⟩
def afe:TI:=⟨.func #[71,3] #[71] false,1,8,.nilFunc,[]⟩
def aff:TI:=⟨.func #[324] #[20] false,1,8,.nilFunc,[]⟩
def Wq:TI:=⟨.map 41 234,1,8,.map none,[]⟩
def afg:TI:=Wq
def afh:TI:=⟨.func #[230] #[227] false,1,8,.nilFunc,[]⟩
def Wr:TI:=⟨.func #[236] #[] false,1,8,.nilFunc,[]⟩
def afi:TI:=Wr
def afj:TI:=⟨.func #[71] #[230] false,1,8,.nilFunc,[]⟩
def afk:TI:=⟨.func #[71,236] #[71] false,1,8,.nilFunc,[]⟩
def Ws:TI:=⟨.struct #[],0,0,.agg ⟨[]⟩,[]⟩
def afl:TI:=Ws
def afm:TI:=⟨.func #[41] #[4] false,1,8,.nilFunc,[]⟩
def afn:TI:=⟨.func #[41] #[3,4] false,1,8,.nilFunc,[]⟩
def afo:TI:=⟨.func #[41] #[3] false,1,8,.nilFunc,[]⟩
def afp:TI:=⟨.func #[30] #[4] false,1,8,.nilFunc,[]⟩
def afq:TI:=⟨.func #[30,41,3,211] #[] false,1,8,.nilFunc,[]⟩
def afr:TI:=⟨.func #[244] #[133] false,1,8,.nilFunc,[]⟩
def Wt:TI:=⟨.func #[304] #[] false,1,8,.nilFunc,[]⟩
def afs:TI:=Wt
def afu:TI:=⟨.func #[87] #[244] false,1,8,.nilFunc,[]⟩
def afv:TI:=⟨.pointer 248,1,8,.pointer none,[]⟩
def afw:TI:=Sp
def afx:TI:=Sp
def afy:TI:=⟨.int .u32,1,4,.int .u32 0,[]⟩
def Wu:TI:=⟨.array 8 249,8,32,.agg ⟨List.replicate 8 (.int .u32 0)⟩,[]⟩
def afz:TI:=Wu
def af2:TI:=⟨.func #[] #[251] false,1,8,.nilFunc,[]⟩
def Wv:TI:=⟨.struct #[],11,72,.agg ⟨List.replicate 8 (.int .u32 0) ++ [.slice none 0 0,ii 0,.bool false]⟩,[(251,0),(39,8),(3,9),(4,10)]⟩
def af3:TI:=Wv
def af4:TI:=⟨.func #[39] #[] false,1,8,.nilFunc,[]⟩
def af5:TI:=Sn
def af6:TI:=⟨.func #[61] #[3] false,1,8,.nilFunc,[]⟩
def af7:TI:=⟨.func #[155] #[4] false,1,8,.nilFunc,[]⟩
def af8:TI:=⟨.func #[150,258] #[4] false,1,8,.nilFunc,[]⟩
def af9:TI:=⟨.func #[64] #[4] false,1,8,.nilFunc,[]⟩
def aga:TI:=⟨.func #[61,70] #[4] false,1,8,.nilFunc,[]⟩
def agb:TI:=⟨.func #[61,3] #[70] false,1,8,.nilFunc,[]⟩
def agc:TI:=⟨.func #[61] #[61] false,1,8,.nilFunc,[]⟩
def agd:TI:=⟨.func #[151] #[151] false,1,8,.nilFunc,[]⟩
def Ww:TI:=⟨.struct #[],34,48,.agg ⟨[ii 0,ii 0]++List.replicate 32 (.int .u8 0)⟩,[(70,0),(41,2)]⟩
def age:TI:=Ww
def agf:TI:=⟨.pointer 153,1,8,.pointer none,[]⟩
def agh:TI:=⟨.func #[9] #[267] false,1,8,.nilFunc,[]⟩
def agi:TI:=⟨.func #[151,266] #[151] false,1,8,.nilFunc,[]⟩
def agj:TI:=⟨.func #[151,73,271] #[151] false,1,8,.nilFunc,[]⟩
def agk:TI:=⟨.func #[266] #[4] false,1,8,.nilFunc,[]⟩
def agl:TI:=⟨.pointer 155,1,8,.pointer none,[]⟩
def agm:TI:=⟨.func #[9,9] #[272] false,1,8,.nilFunc,[]⟩
def agn:TI:=⟨.func #[150,258] #[150] false,1,8,.nilFunc,[]⟩
def ago:TI:=⟨.func #[62,276] #[62] false,1,8,.nilFunc,[]⟩
def agp:TI:=⟨.func #[153] #[4] false,1,8,.nilFunc,[]⟩
def agq:TI:=⟨.func #[61,61] #[61] false,1,8,.nilFunc,[]⟩
def agr:TI:=⟨.func #[61,3] #[3] false,1,8,.nilFunc,[]⟩
def ags:TI:=⟨.func #[70] #[27] false,1,8,.nilFunc,[]⟩
def Wx:TI:=⟨.struct #[],3,40,.agg ⟨[.pointer none,.slice none 0 0,ii 0]⟩,[(188,0),(39,1),(3,2)]⟩
def agt:TI:=Wx
def agu:TI:=⟨.func #[3] #[3] false,1,8,.nilFunc,[]⟩
def agv:TI:=⟨.func #[3] #[39] false,1,8,.nilFunc,[]⟩
def agw:TI:=⟨.func #[] #[70] false,1,8,.nilFunc,[]⟩
def agx:TI:=⟨.func #[] #[41] false,1,8,.nilFunc,[]⟩
def agy:TI:=⟨.map 41 233,1,8,.map none,[]⟩
def agz:TI:=⟨.func #[71,289] #[] false,1,8,.nilFunc,[]⟩
def ag0:TI:=⟨.func #[41,41] #[3] false,1,8,.nilFunc,[]⟩
def ag1:TI:=⟨.func #[64,9] #[153] false,1,8,.nilFunc,[]⟩
def ag2:TI:=⟨.func #[9,3] #[76,4] false,1,8,.nilFunc,[]⟩
def ag3:TI:=⟨.func #[9,293,27] #[76] false,1,8,.nilFunc,[]⟩
def ag4:TI:=⟨.pointer 344,1,8,.pointer none,[]⟩
def ag5:TI:=wK
def ag6:TI:=wK
def ag7:TI:=⟨.func #[] #[293] false,1,8,.nilFunc,[]⟩
def ag8:TI:=⟨.func #[3] #[3,4] false,1,8,.nilFunc,[]⟩
def ag9:TI:=⟨.func #[] #[39] false,1,8,.nilFunc,[]⟩
def aha:TI:=wK
def ahb:TI:=wK
def Wy:TI:=⟨.struct #[],33,48,.agg ⟨[bN]++List.replicate 32 (.int .u8 0)⟩,[(9,0),(41,1)]⟩
def ahc:TI:=Wy
def ahd:TI:=⟨.func #[9] #[4] false,1,8,.nilFunc,[]⟩
def ahe:TI:=⟨.func #[39,20] #[39,4] false,1,8,.nilFunc,[]⟩
def ahf:TI:=⟨.func #[27,3] #[] false,1,8,.nilFunc,[]⟩
def ahg:TI:=⟨.pointer 44,1,8,.pointer none,[]⟩
def ahh:TI:=⟨.func #[] #[43] false,1,8,.nilFunc,[]⟩
def ahi:TI:=⟨.func #[3,308] #[44] false,1,8,.nilFunc,[]⟩
def ahj:TI:=⟨.func #[9,9] #[4] false,1,8,.nilFunc,[]⟩
def ahk:TI:=⟨.func #[21] #[4] false,1,8,.nilFunc,[]⟩
def ahl:TI:=⟨.func #[316] #[4] false,1,8,.nilFunc,[]⟩
def ahm:TI:=⟨.map 41 43,1,8,.map none,[]⟩
def ahn:TI:=⟨.map 9 43,1,8,.map none,[]⟩
def Wz:TI:=⟨.struct #[],78,232,.agg ⟨[ii 0,bN,ii 0]++List.replicate 32 (.int .u8 0) ++ [ii 0,bN,.slice none 0 0,.slice none 0 0,ii 0,ii 0]++List.replicate 32 (.int .u8 0) ++ [ii 0,bN,ii 0,.map none,.map none]⟩,[(203,0),(43,40),(3,75),(313,76),(314,77)]⟩
def aho:TI:=Wz
def ahp:TI:=⟨.struct #[],2,16,.agg ⟨[ii 0,.nilFunc]⟩,[(27,0),(312,1)]⟩
def ahq:TI:=⟨.slice 317,1,24,.slice none 0 0,[]⟩
def ahr:TI:=⟨.func #[215] #[4] false,1,8,.nilFunc,[]⟩
def ahs:TI:=⟨.func #[4,27] #[] false,1,8,.nilFunc,[]⟩
def aht:TI:=⟨.func #[230,289] #[71] false,1,8,.nilFunc,[]⟩
def ahu:TI:=⟨.func #[211] #[230] false,1,8,.nilFunc,[]⟩
def ahv:TI:=⟨.func #[20] #[] false,1,8,.nilFunc,[]⟩
def ahw:TI:=⟨.func #[324,3] #[] false,1,8,.nilFunc,[]⟩
def ahx:TI:=⟨.func #[3,3] #[] false,1,8,.nilFunc,[]⟩
def ahy:TI:=⟨.func #[324,3,3] #[4] false,1,8,.nilFunc,[]⟩
def ahz:TI:=⟨.func #[] #[20] false,1,8,.nilFunc,[]⟩
def ah0:TI:=⟨.func #[71,236] #[3] false,1,8,.nilFunc,[]⟩
def ah1:TI:=⟨.func #[9,41] #[4] false,1,8,.nilFunc,[]⟩
def ah2:TI:=⟨.func #[133] #[] false,1,8,.nilFunc,[]⟩
def ah3:TI:=⟨.pointer 251,1,8,.pointer none,[]⟩
def ah4:TI:=⟨.array 64 249,64,256,.agg ⟨List.replicate 64 (.int .u32 0)⟩,[]⟩
def ah5:TI:=⟨.func #[] #[335] false,1,8,.nilFunc,[]⟩
def ah6:TI:=⟨.func #[39] #[335] false,1,8,.nilFunc,[]⟩
def ah7:TI:=⟨.func #[249,3] #[249] false,1,8,.nilFunc,[]⟩
def ah8:TI:=So
def ah9:TI:=⟨.func #[341] #[293] false,1,8,.nilFunc,[]⟩
def aia:TI:=⟨.func #[339] #[4] false,1,8,.nilFunc,[]⟩
def aib:TI:=⟨.func #[339] #[293] false,1,8,.nilFunc,[]⟩
def W0:TI:=⟨.struct #[],2,16,.agg ⟨[.nilFunc,.bool false]⟩,[(342,0),(4,1)]⟩
def aic:TI:=W0
def aid:TI:=⟨.func #[150,258] #[3] false,1,8,.nilFunc,[]⟩
def aie:TI:=⟨.func #[9,9] #[3] false,1,8,.nilFunc,[]⟩
def aif:TI:=⟨.func #[153,153] #[3] false,1,8,.nilFunc,[]⟩
def aig:TI:=⟨.func #[155,155] #[3] false,1,8,.nilFunc,[]⟩
def aih:TI:=⟨.func #[62,347] #[4] false,1,8,.nilFunc,[]⟩
def aii:TI:=⟨.func #[150,348] #[4] false,1,8,.nilFunc,[]⟩
def aij:TI:=⟨.map 70 233,1,8,.map none,[]⟩
def aik:TI:=⟨.func #[64,355] #[4] false,1,8,.nilFunc,[]⟩
def ail:TI:=⟨.func #[151,354] #[4] false,1,8,.nilFunc,[]⟩
def aim:TI:=⟨.func #[266,266] #[3] false,1,8,.nilFunc,[]⟩
def ain:TI:=⟨.func #[9,9,4,151] #[4] false,1,8,.nilFunc,[]⟩
def aio:TI:=⟨.func #[358,4,360] #[4] false,1,8,.nilFunc,[]⟩
def W3:TI:=⟨.func #[88] #[] false,1,8,.nilFunc,[]⟩
def aip:TI:=W3
def aiq:TI:=⟨.func #[61,61] #[358] false,1,8,.nilFunc,[]⟩
def air:TI:=⟨.func #[4,3,3] #[4] false,1,8,.nilFunc,[]⟩
def ais:TI:=⟨.func #[62,9,362] #[3,4] false,1,8,.nilFunc,[]⟩
def ait:TI:=⟨.func #[153,9] #[3] false,1,8,.nilFunc,[]⟩
def aiu:TI:=⟨.func #[62,3,62] #[62] true,1,8,.nilFunc,[]⟩
def aiv:TI:=⟨.func #[151,266,354] #[3,4] false,1,8,.nilFunc,[]⟩
def aiw:TI:=⟨.func #[151,3,151] #[151] true,1,8,.nilFunc,[]⟩
def aix:TI:=⟨.func #[151,271] #[151] false,1,8,.nilFunc,[]⟩
def aiy:TI:=⟨.func #[150,9,368] #[3,4] false,1,8,.nilFunc,[]⟩
def aiz:TI:=⟨.func #[155,9] #[3] false,1,8,.nilFunc,[]⟩
def ai0:TI:=⟨.func #[150,3,150] #[150] true,1,8,.nilFunc,[]⟩
def ai1:TI:=⟨.func #[62,276] #[3] false,1,8,.nilFunc,[]⟩
def ai2:TI:=⟨.func #[61,61,25] #[61] false,1,8,.nilFunc,[]⟩
def ai3:TI:=Sn
def ai4:TI:=⟨.func #[3,3] #[39] false,1,8,.nilFunc,[]⟩
def ai5:TI:=⟨.func #[71,3,3,3,289] #[] false,1,8,.nilFunc,[]⟩
def ai6:TI:=⟨.func #[372] #[3] false,1,8,.nilFunc,[]⟩
def ai7:TI:=⟨.func #[39,39] #[3] false,1,8,.nilFunc,[]⟩
def ai8:TI:=⟨.func #[173,3,378] #[3,4] false,1,8,.nilFunc,[]⟩
def ai9:TI:=⟨.func #[177,3] #[3] false,1,8,.nilFunc,[]⟩
def W5:TI:=⟨.func #[409] #[] false,1,8,.nilFunc,[]⟩
def aja:TI:=W5
def ajb:TI:=⟨.func #[] #[380] false,1,8,.nilFunc,[]⟩
def ajc:TI:=⟨.func #[61,383] #[4] false,1,8,.nilFunc,[]⟩
def ajd:TI:=⟨.func #[3] #[4] false,1,8,.nilFunc,[]⟩
def aje:TI:=⟨.array 256 5,256,256,.agg ⟨List.replicate 256 (.int .u8 0)⟩,[]⟩
def ajf:TI:=⟨.func #[21,386] #[4] true,1,8,.nilFunc,[]⟩
def ajg:TI:=⟨.slice 411,1,24,.slice none 0 0,[]⟩
def ajh:TI:=⟨.func #[41,3] #[4] false,1,8,.nilFunc,[]⟩
def aji:TI:=⟨.func #[230] #[71] false,1,8,.nilFunc,[]⟩
def ajj:TI:=⟨.func #[133,244] #[133] false,1,8,.nilFunc,[]⟩
def ajk:TI:=⟨.func #[133,3,3,3] #[] false,1,8,.nilFunc,[]⟩
def ajl:TI:=⟨.func #[61] #[3] true,1,8,.nilFunc,[]⟩
def ajm:TI:=⟨.func #[62,62] #[4] false,1,8,.nilFunc,[]⟩
def ajn:TI:=⟨.func #[62,3] #[] false,1,8,.nilFunc,[]⟩
def ajo:TI:=⟨.func #[151,3] #[] false,1,8,.nilFunc,[]⟩
def ajp:TI:=⟨.func #[151,271] #[3] false,1,8,.nilFunc,[]⟩
def ajq:TI:=⟨.func #[150,150] #[4] false,1,8,.nilFunc,[]⟩
def ajr:TI:=⟨.func #[150,3] #[] false,1,8,.nilFunc,[]⟩
def ajs:TI:=⟨.func #[358,61,399] #[61] false,1,8,.nilFunc,[]⟩
def ajt:TI:=⟨.func #[61,3,3] #[61] false,1,8,.nilFunc,[]⟩
def aju:TI:=⟨.func #[71,3,3,289] #[] false,1,8,.nilFunc,[]⟩
def ajv:TI:=ti2
def ajw:TI:=⟨.func #[71,3,3,289] #[3,401] false,1,8,.nilFunc,[]⟩
def ajx:TI:=⟨.func #[71,3,3,289] #[4] false,1,8,.nilFunc,[]⟩
def ajy:TI:=⟨.func #[71,3,3,3,289] #[3] false,1,8,.nilFunc,[]⟩
def ajz:TI:=⟨.func #[71,3,3,3,289] #[3,4] false,1,8,.nilFunc,[]⟩
def aj0:TI:=⟨.func #[249] #[3] false,1,8,.nilFunc,[]⟩
def aj1:TI:=⟨.func #[256] #[3] false,1,8,.nilFunc,[]⟩
def aj2:TI:=⟨.func #[5] #[4] false,1,8,.nilFunc,[]⟩
def aj3:TI:=⟨.func #[61,383] #[3] false,1,8,.nilFunc,[]⟩
def aj4:TI:=⟨.pointer 430,1,8,.pointer none,[]⟩
def aj5:TI:=⟨.func #[411,21] #[4] false,1,8,.nilFunc,[]⟩
def W6:TI:=⟨.struct #[],1,1,.agg ⟨[.bool false]⟩,[(4,0)]⟩
def aj6:TI:=W6
def aj7:TI:=⟨.func #[71,230] #[71] false,1,8,.nilFunc,[]⟩
def aj8:TI:=⟨.func #[133,3,3] #[] false,1,8,.nilFunc,[]⟩
def aj9:TI:=⟨.func #[133,3,3] #[3,401] false,1,8,.nilFunc,[]⟩
def aka:TI:=⟨.func #[133,3,3] #[4] false,1,8,.nilFunc,[]⟩
def akb:TI:=⟨.func #[133,3,3,3] #[3] false,1,8,.nilFunc,[]⟩
def akc:TI:=⟨.func #[133,3,3,3] #[3,4] false,1,8,.nilFunc,[]⟩
def akd:TI:=Sn
def ake:TI:=⟨.func #[3] #[372] false,1,8,.nilFunc,[]⟩
def akf:TI:=⟨.func #[] #[256] false,1,8,.nilFunc,[]⟩
def akg:TI:=⟨.func #[71,3,425,289] #[3] false,1,8,.nilFunc,[]⟩
def akh:TI:=⟨.pointer 3,1,8,.pointer none,[]⟩
def aki:TI:=⟨.func #[71,3,3,3,425,289] #[3] false,1,8,.nilFunc,[]⟩
def akj:TI:=⟨.slice 433,1,24,.slice none 0 0,[]⟩
def akk:TI:=⟨.slice 436,1,24,.slice none 0 0,[]⟩
def W7:TI:=⟨.struct #[],3,56,.agg ⟨[.slice none 0 0,.slice none 0 0,ii 0]⟩,[(427,0),(428,1),(3,2)]⟩
def akl:TI:=W7
def akm:TI:=⟨.int .u16,1,2,.int .u16 0,[]⟩
def Xa:TI:=⟨.struct #[],3,6,.agg ⟨[.int .u16 0,.int .u16 0,.int .u16 0]⟩,[(431,0),(431,1),(431,2)]⟩
def akn:TI:=Xa
def ako:TI:=⟨.func #[427,431] #[4] false,1,8,.nilFunc,[]⟩
def Xb:TI:=⟨.struct #[],3,12,.agg ⟨[.int .u32 0,.int .u32 0,.int .u32 0]⟩,[(249,0),(249,1),(249,2)]⟩
def akp:TI:=Xb
def akq:TI:=⟨.func #[428,249] #[4] false,1,8,.nilFunc,[]⟩
def akr:TI:=⟨.func #[133,3,425] #[3] false,1,8,.nilFunc,[]⟩
def aks:TI:=⟨.func #[133,3,3,3,425] #[3] false,1,8,.nilFunc,[]⟩
def akt:TI:=⟨.func #[62] #[] false,1,8,.nilFunc,[]⟩
def aku:TI:=⟨.func #[151] #[] false,1,8,.nilFunc,[]⟩
def akv:TI:=⟨.func #[150] #[] false,1,8,.nilFunc,[]⟩
def akw:TI:=⟨.pointer 421,1,8,.pointer none,[]⟩
def akx:TI:=⟨.func #[71,3,3,425,289] #[3,3] false,1,8,.nilFunc,[]⟩
def aky:TI:=⟨.pointer 433,1,8,.pointer none,[]⟩
def akz:TI:=⟨.pointer 436,1,8,.pointer none,[]⟩
def ak0:TI:=⟨.func #[133,3,3,425] #[3,3] false,1,8,.nilFunc,[]⟩
def ak1:TI:=⟨.func #[] #[9] false,1,8,.nilFunc,[]⟩
def Xc:TI:=⟨.struct #[],4,40,.agg ⟨[.pointer none,.pointer none,.pointer none,bN]⟩,[(17,0),(17,1),(17,2),(9,3)]⟩
def ak2:TI:=Xc
def ak3:TI:=⟨.array 0 16,0,0,.agg ⟨[]⟩,[]⟩
def Xd:TI:=⟨.struct #[],0,0,.agg ⟨[]⟩,[(452,0)]⟩
def ak4:TI:=Xd
def ak5:TI:=ti5
def ak6:TI:=ti5
def ak7:TI:=⟨.func #[463,463] #[4] false,1,8,.nilFunc,[]⟩
def ak8:TI:=⟨.pointer 5,1,8,.pointer none,[]⟩
def ak9:TI:=So
def ala:TI:=So
def Xe:TI:=⟨.struct #[],11,48,.agg ⟨[.int .u64 0,.int .u64 0,.int .u32 0,.int .u8 0,.int .u8 0,.int .u8 0,.int .u8 0,.nilFunc,.pointer none,.int .i32 0,.int .i32 0]⟩,[(12,0),(12,1),(249,2),(455,3),(5,4),(5,5),(456,6),(457,7),(458,8),(459,9),(460,10)]⟩
def alb:TI:=Xe
def tts:List (Nat × TI):= [(1,ti1),(2,ti2),(3,ti3),(4,ti4),(5,ti5),(6,ti6),(7,ti7),(8,ti8),(9,ti9),(10,anh),(11,ani),(12,Sn),(13,ab7),(14,anj),(15,ank),(16,anl),(17,anm),(18,ab8),(19,ann),(21,So),(22,ano),(23,anp),(24,anq),(25,anr),(26,ans),(27,ant),(29,anu),(30,anv),(32,anw),(33,anx),(35,anz),(36,ab9),(37,an0),(38,an1),(39,an2),(40,aca),(41,an3),(42,acb),(43,an4),(44,an5),(45,acd),(46,an6),(48,an7),(50,an8),(51,an9),(53,aoa),(55,aob),(57,aoc),(58,aod),(59,aoe),(60,aof),(61,aog),(62,aoh),(63,ace),(64,aoi),(66,aoj),(67,aok),(68,aol),(69,Sp),(70,aom),(71,acf),(72,acg),(73,aon),(74,aoo),(75,ach),(76,aop),(78,aoq),(79,aor),(80,aos),(81,aot),(82,aou),(83,aov),(84,aci),(85,aow),(86,aox),(87,aoy),(88,aoz),(89,acj),(90,ao0),(91,ao1),(92,ao2),(93,ao3),(95,ack),(96,ao4),(98,ao5),(99,ao6),(100,V9),(101,acl),(103,acm),(105,acn),(106,aco),(107,acp),(108,acq),(109,acr),(110,acs),(111,act),(113,acu),(114,acv),(115,acw),(116,acx),(117,acy),(118,acz),(119,ac0),(121,ac1),(122,ac2),(123,ac3),(125,ac4),(126,ac5),(127,Wa),(128,ac6),(130,ac7),(131,ac8),(132,ac9),(133,ada),(134,adb),(135,adc),(136,ade),(137,adf),(138,adg),(139,adh),(140,adi),(141,adj),(142,adk),(143,adl),(144,Wb),(145,adm),(146,adn),(147,ado),(148,adp),(149,adq),(150,adr),(151,ads),(152,Wc),(153,adt),(154,Wd),(155,adu),(156,adv),(157,adw),(158,adx),(159,ady),(160,adz),(161,Wf),(162,ad0),(163,ad1),(164,ad2),(165,ad3),(166,ad4),(167,ad5),(168,ad6),(169,ad7),(170,ad8),(171,ad9),(172,aea),(173,aeb),(174,Wg),(175,aec),(176,aed),(177,aee),(178,Wh),(179,aef),(180,aeg),(181,aeh),(182,aei),(183,aej),(184,aek),(185,ael),(186,aem),(187,aen),(188,aeo),(189,Wi),(190,aep),(191,Wj),(192,aeq),(193,aer),(194,aes),(195,aet),(196,aeu),(197,Wk),(198,aev),(199,aew),(201,aex),(202,Wl),(203,aey),(204,aez),(205,ae0),(206,ae1),(207,ae2),(208,Wm),(209,ae3),(211,ae4),(212,Wo),(213,ae5),(214,ae6),(215,ae7),(216,Wp),(217,ae8),(218,wK),(219,ae9),(220,afa),(221,afb),(222,afc),(223,afd),(224,afe),(225,aff),(226,Wq),(227,afg),(228,afh),(229,Wr),(230,afi),(231,afj),(232,afk),(233,Ws),(234,afl),(236,afm),(238,afn),(239,afo),(240,afp),(241,afq),(242,afr),(243,Wt),(244,afs),(245,afu),(246,afv),(247,afw),(248,afx),(249,afy),(250,Wu),(251,afz),(252,af2),(253,Wv),(254,af3),(255,af4),(256,af5),(257,af6),(258,af7),(259,af8),(260,af9),(261,aga),(262,agb),(263,agc),(264,agd),(265,Ww),(266,age),(267,agf),(268,agh),(269,agi),(270,agj),(271,agk),(272,agl),(273,agm),(274,agn),(275,ago),(276,agp),(277,agq),(278,agr),(279,ags),(280,Wx),(281,agt),(282,agu),(283,agv),(284,agw),(285,agx),(286,agy),(288,agz),(289,ag0),(290,ag1),(291,ag2),(292,ag3),(293,ag4),(294,ag5),(295,ag6),(296,ag7),(297,ag8),(298,ag9),(299,aha),(300,ahb),(302,Wy),(303,ahc),(304,ahd),(305,ahe),(306,ahf),(307,ahg),(308,ahh),(309,ahi),(310,ahj),(311,ahk),(312,ahl),(313,ahm),(314,ahn),(315,Wz),(316,aho),(317,ahp),(318,ahq),(319,ahr),(320,ahs),(321,aht),(322,ahu),(325,ahv),(326,ahw),(327,ahx),(328,ahy),(329,ahz),(330,ah0),(331,ah1),(333,ah2),(334,ah3),(335,ah4),(336,ah5),(337,ah6),(338,ah7),(339,ah8),(340,ah9),(341,aia),(342,aib),(343,W0),(344,aic),(345,aid),(346,aie),(347,aif),(348,aig),(349,aih),(350,aii),(351,aij),(352,aik),(353,ail),(354,aim),(355,ain),(356,aio),(357,W3),(358,aip),(359,aiq),(360,air),(361,ais),(362,ait),(363,aiu),(364,aiv),(365,aiw),(366,aix),(367,aiy),(368,aiz),(369,ai0),(370,ai1),(371,ai2),(372,ai3),(373,ai4),(374,ai5),(375,ai6),(376,ai7),(377,ai8),(378,ai9),(379,W5),(380,aja),(381,ajb),(382,ajc),(383,ajd),(384,aje),(385,ajf),(386,ajg),(387,ajh),(388,aji),(389,ajj),(390,ajk),(391,ajl),(392,ajm),(393,ajn),(394,ajo),(395,ajp),(396,ajq),(397,ajr),(398,ajs),(399,ajt),(400,aju),(401,ajv),(403,ajw),(404,ajx),(405,ajy),(406,ajz),(407,aj0),(408,aj1),(409,aj2),(410,aj3),(411,aj4),(412,aj5),(413,W6),(414,aj6),(415,aj7),(416,aj8),(417,aj9),(418,aka),(419,akb),(420,akc),(421,akd),(422,ake),(423,akf),(424,akg),(425,akh),(426,aki),(427,akj),(428,akk),(429,W7),(430,akl),(431,akm),(432,Xa),(433,akn),(434,ako),(435,Xb),(436,akp),(437,akq),(438,akr),(439,aks),(440,akt),(441,aku),(442,akv),(443,akw),(445,akx),(446,aky),(447,akz),(448,ak0),(449,ak1),(450,Xc),(451,ak2),(452,ak3),(453,Xd),(454,ak4),(455,ak5),(456,ak6),(457,ak7),(458,ak8),(459,ak9),(460,ala),(461,Xe),(462,alb)]
theorem Nt:∀ p∈tts,Dy Tryz.prog p:=Jn (by kernel_rfl)
set_option maxRecDepth 100000 in
theorem Nu:∀ p∈tts,p.2.flds≠ [(0,99999)]:=by decide
instance:TT Tryz.prog (zo tts):=TT.of_list Nt Nu
instance:Mixed Tryz.prog:=⟨by kernel_rfl⟩
abbrev zy:Nat:=3
abbrev gV:Nat:=4
abbrev z5:Nat:=5
abbrev jH:Nat:=6
abbrev yD:Nat:=7
abbrev Fa:Nat:=8
abbrev Be:Nat:=9
abbrev aA:Nat:=10
abbrev rR:Nat:=11
abbrev rk:Nat:=12
abbrev aB:Nat:=13
abbrev y9:Nat:=14
abbrev rS:Nat:=15
abbrev vA:Nat:=16
abbrev xz:Nat:=17
abbrev za:Nat:=18
abbrev Bg:Nat:=19
abbrev wL:Nat:=20
abbrev vB:Nat:=21
abbrev rT:Nat:=22
abbrev rU:Nat:=23
abbrev aC:Nat:=24
abbrev cV:Nat:=25
abbrev oK:Nat:=26
abbrev vC:Nat:=27
abbrev aD:Nat:=28
abbrev Ke:Nat:=29
abbrev qe:Nat:=30
abbrev vD:Nat:=31
abbrev bO:Nat:=32
abbrev bP:Nat:=33
abbrev aE:Nat:=34
abbrev rl:Nat:=35
abbrev ma:Nat:=36
abbrev zb:Nat:=37
abbrev nr:Nat:=38
abbrev vE:Nat:=39
abbrev mP:Nat:=40
abbrev mQ:Nat:=41
abbrev pn:Nat:=42
abbrev gW:Nat:=43
abbrev jI:Nat:=44
abbrev eA:Nat:=45
abbrev po:Nat:=46
abbrev pq:Nat:=47
abbrev qf:Nat:=48
abbrev Bh:Nat:=49
abbrev px:Nat:=50
abbrev pz:Nat:=51
abbrev p5:Nat:=52
abbrev rW:Nat:=53
abbrev rX:Nat:=54
abbrev aF:Nat:=55
abbrev rY:Nat:=56
abbrev jJ:Nat:=57
abbrev zd:Nat:=58
abbrev sA:Nat:=59
abbrev gX:Nat:=60
abbrev cW:Nat:=61
abbrev qg:Nat:=62
abbrev wM:Nat:=63
abbrev jK:Nat:=64
abbrev mR:Nat:=65
abbrev vF:Nat:=66
abbrev Bi:Nat:=67
abbrev Bj:Nat:=68
abbrev gY:Nat:=69
abbrev gZ:Nat:=70
abbrev eB:Nat:=71
abbrev eC:Nat:=72
abbrev hZ:Nat:=73
abbrev vG:Nat:=74
abbrev bQ:Nat:=75
abbrev vH:Nat:=76
abbrev eD:Nat:=77
abbrev mS:Nat:=78
abbrev bR:Nat:=79
abbrev bS:Nat:=80
abbrev aG:Nat:=81
abbrev eF:Nat:=82
abbrev x3:Nat:=83
abbrev bT:Nat:=84
abbrev iA:Nat:=85
abbrev sy:Nat:=86
abbrev aH:Nat:=87
abbrev pB:Nat:=88
abbrev yE:Nat:=89
abbrev Bk:Nat:=90
abbrev oj:Nat:=91
abbrev cX:Nat:=92
abbrev cY:Nat:=93
abbrev qt:Nat:=94
abbrev pa:Nat:=95
abbrev ym:Nat:=96
abbrev sc:Nat:=97
abbrev kq:Nat:=98
abbrev ge:Nat:=99
abbrev oL:Nat:=100
abbrev gj:Nat:=101
abbrev fh:Nat:=102
abbrev vI:Nat:=103
abbrev fj:Nat:=104
abbrev eG:Nat:=105
abbrev s0:Nat:=106
abbrev qh:Nat:=107
abbrev ow:Nat:=108
abbrev iB:Nat:=109
abbrev ru:Nat:=110
abbrev mz:Nat:=111
abbrev cZ:Nat:=112
abbrev vq:Nat:=113
abbrev vr:Nat:=114
abbrev wu:Nat:=115
abbrev vt:Nat:=116
abbrev kO:Nat:=117
abbrev pC:Nat:=118
abbrev mT:Nat:=119
abbrev sB:Nat:=120
abbrev mU:Nat:=121
abbrev dA:Nat:=122
abbrev uq:Nat:=123
abbrev n_blob_digests_Len:Nat:=124
abbrev eH:Nat:=125
abbrev eI:Nat:=126
abbrev pD:Nat:=127
abbrev s7:Nat:=128
abbrev qi:Nat:=129
abbrev cL:Nat:=130
abbrev iC:Nat:=131
abbrev iD:Nat:=132
abbrev nt:Nat:=133
abbrev sC:Nat:=134
abbrev pE:Nat:=135
abbrev bU:Nat:=136
abbrev kj:Nat:=137
abbrev Bm:Nat:=138
abbrev kQ:Nat:=139
abbrev qj:Nat:=140
abbrev aI:Nat:=141
abbrev aJ:Nat:=142
abbrev cM:Nat:=143
abbrev Fb:Nat:=144
abbrev lc:Nat:=145
abbrev sD:Nat:=146
abbrev kR:Nat:=147
abbrev vJ:Nat:=148
abbrev yF:Nat:=149
abbrev yn:Nat:=150
abbrev qu:Nat:=151
abbrev iE:Nat:=152
abbrev Bn:Nat:=153
abbrev yG:Nat:=154
abbrev tq:Nat:=155
abbrev jL:Nat:=156
abbrev bV:Nat:=157
abbrev lr:Nat:=158
abbrev tu:Nat:=159
abbrev ld:Nat:=160
abbrev tw:Nat:=161
abbrev iS:Nat:=162
abbrev Bo:Nat:=163
abbrev iF:Nat:=164
abbrev eJ:Nat:=165
abbrev dB:Nat:=166
abbrev eK:Nat:=167
abbrev eL:Nat:=168
abbrev iG:Nat:=169
abbrev aK:Nat:=170
abbrev eN:Nat:=171
abbrev dC:Nat:=172
abbrev qv:Nat:=173
abbrev iH:Nat:=174
abbrev jM:Nat:=175
abbrev lf:Nat:=176
abbrev ze:Nat:=177
abbrev yH:Nat:=178
abbrev Bp:Nat:=179
abbrev sE:Nat:=180
abbrev mV:Nat:=181
abbrev dD:Nat:=182
abbrev zf:Nat:=183
abbrev vK:Nat:=184
abbrev pb:Nat:=185
abbrev eO:Nat:=186
abbrev qk:Nat:=187
abbrev dE:Nat:=188
abbrev kS:Nat:=190
abbrev sf:Nat:=191
abbrev sg:Nat:=192
abbrev vu:Nat:=193
abbrev vw:Nat:=194
abbrev tx:Nat:=195
abbrev ut:Nat:=196
abbrev bW:Nat:=197
abbrev kr:Nat:=198
abbrev x4:Nat:=199
abbrev j8:Nat:=200
abbrev iI:Nat:=201
abbrev dF:Nat:=202
abbrev lg:Nat:=203
abbrev qw:Nat:=204
abbrev s8:Nat:=205
abbrev aL:Nat:=206
abbrev uu:Nat:=207
abbrev d7:Nat:=208
abbrev Fc:Nat:=209
abbrev yI:Nat:=210
abbrev yJ:Nat:=211
abbrev kT:Nat:=212
abbrev yv:Nat:=213
abbrev Fe:Nat:=214
abbrev mb:Nat:=215
abbrev aM:Nat:=216
abbrev kU:Nat:=217
abbrev uv:Nat:=218
abbrev wp:Nat:=219
abbrev xb:Nat:=220
abbrev aN:Nat:=221
abbrev Bq:Nat:=222
abbrev aO:Nat:=223
abbrev aP:Nat:=224
abbrev zg:Nat:=225
abbrev x5:Nat:=226
abbrev sF:Nat:=227
abbrev eP:Nat:=228
abbrev jm:Nat:=229
abbrev tz:Nat:=230
abbrev mf:Nat:=231
abbrev j9:Nat:=232
abbrev ql:Nat:=233
abbrev oe:Nat:=234
abbrev eQ:Nat:=235
abbrev js:Nat:=236
abbrev vy:Nat:=237
abbrev m7:Nat:=238
abbrev iy:Nat:=239
abbrev pF:Nat:=240
abbrev cN:Nat:=241
abbrev Br:Nat:=242
abbrev dG:Nat:=243
abbrev eR:Nat:=244
abbrev m8:Nat:=245
abbrev pG:Nat:=246
abbrev pH:Nat:=247
abbrev sG:Nat:=248
abbrev aQ:Nat:=249
abbrev ji:Nat:=250
abbrev m9:Nat:=251
abbrev s9:Nat:=252
abbrev bX:Nat:=253
abbrev tb:Nat:=254
abbrev vL:Nat:=255
abbrev Kf:Nat:=259
abbrev aR:Nat:=261
abbrev d4:Nat:=262
abbrev wv:Nat:=263
abbrev qx:Nat:=264
abbrev uw:Nat:=265
abbrev zh:Nat:=266
abbrev jN:Nat:=267
abbrev kV:Nat:=268
abbrev tc:Nat:=269
abbrev yK:Nat:=270
abbrev nc:Nat:=271
abbrev lW:Nat:=272
abbrev sH:Nat:=274
abbrev ox:Nat:=276
abbrev mW:Nat:=277
abbrev eT:Nat:=279
abbrev yw:Nat:=280
abbrev km:Nat:=281
abbrev kW:Nat:=290
abbrev sI:Nat:=291
abbrev x6:Nat:=292
abbrev cO:Nat:=293
abbrev qy:Nat:=294
abbrev vz:Nat:=295
abbrev qz:Nat:=298
abbrev qm:Nat:=299
abbrev bJ:Nat:=308
abbrev x7:Nat:=317
abbrev x8:Nat:=318
abbrev n_blob_digests_Less:Nat:=354
abbrev n_p_blob_digests_Pop:Nat:=355
abbrev n_p_blob_digests_Push:Nat:=356
abbrev n_blob_digests_Swap:Nat:=357
abbrev fp:Nat:=3
abbrev zi:Nat:=4
abbrev im:Nat:=5
abbrev ko:Nat:=9
abbrev nv:Nat:=25
abbrev aS:Nat:=26
abbrev ja:Nat:=27
abbrev jg:Nat:=30
abbrev pI:Nat:=33
abbrev ey:Nat:=37
abbrev eo:Nat:=39
abbrev t_api_ID:Nat:=41
abbrev t_api_Desc:Nat:=43
abbrev vM:Nat:=44
abbrev b9:Nat:=46
abbrev iq:Nat:=61
abbrev jO:Nat:=62
abbrev bt:Nat:=64
abbrev t_api_Dot:Nat:=70
abbrev jb:Nat:=71
abbrev dk:Nat:=73
abbrev t_api_Fault:Nat:=76
abbrev kt:Nat:=85
abbrev ib:Nat:=87
abbrev vf:Nat:=90
abbrev iT:Nat:=93
abbrev eU:Nat:=96
abbrev q5:Nat:=101
abbrev pJ:Nat:=111
abbrev wq:Nat:=117
abbrev ky:Nat:=128
abbrev eV:Nat:=133
abbrev ir:Nat:=145
abbrev kX:Nat:=150
abbrev n9:Nat:=151
abbrev bm:Nat:=153
abbrev dw:Nat:=155
abbrev q9:Nat:=158
abbrev iv:Nat:=160
abbrev pK:Nat:=162
abbrev jo:Nat:=175
abbrev d5:Nat:=177
abbrev p6:Nat:=179
abbrev k6:Nat:=185
abbrev p7:Nat:=190
abbrev vN:Nat:=192
abbrev sJ:Nat:=198
abbrev iU:Nat:=203
abbrev d9:Nat:=211
abbrev ol:Nat:=215
abbrev pL:Nat:=217
abbrev sK:Nat:=219
abbrev il:Nat:=221
abbrev cz:Nat:=222
abbrev yx:Nat:=227
abbrev mc:Nat:=248
abbrev ju:Nat:=251
abbrev kf:Nat:=254
abbrev t_api_Held:Nat:=266
abbrev pc:Nat:=271
abbrev vO:Nat:=281
abbrev sL:Nat:=293
abbrev kY:Nat:=300
abbrev v9:Nat:=303
abbrev pd:Nat:=316
abbrev jc:Nat:=335
abbrev aT:Nat:=341
abbrev bY:Nat:=344
abbrev eW:Nat:=351
abbrev jy:Nat:=360
abbrev jh:Nat:=399
instance:Bodied Tryz.prog 4:=ag Tryz.func4
instance:Bodied Tryz.prog 5:=ag Tryz.func5
instance:Bodied Tryz.prog 6:=ag Tryz.func6
instance:Bodied Tryz.prog 7:=ag Tryz.func7
instance:Bodied Tryz.prog 8:=ag Tryz.func8
instance:Bodied Tryz.prog 9:=ag Tryz.func9
instance:Bodied Tryz.prog 10:=ag Tryz.func10
instance:Bodied Tryz.prog 11:=ag Tryz.func11
instance:Bodied Tryz.prog 12:=ag Tryz.func12
instance:Bodied Tryz.prog 13:=ag Tryz.func13
instance:Bodied Tryz.prog 14:=ag Tryz.func14
instance:Bodied Tryz.prog 15:=ag Tryz.func15
instance:Bodied Tryz.prog 16:=ag Tryz.func16
instance:Bodied Tryz.prog 17:=ag Tryz.func17
instance:Bodied Tryz.prog 18:=ag Tryz.func18
instance:Bodied Tryz.prog 19:=ag Tryz.func19
instance:Bodied Tryz.prog 20:=ag Tryz.func20
instance:Bodied Tryz.prog 21:=ag Tryz.func21
instance:Bodied Tryz.prog 22:=ag Tryz.func22
instance:Bodied Tryz.prog 23:=ag Tryz.func23
instance:Bodied Tryz.prog 24:=ag Tryz.func24
instance:Bodied Tryz.prog 25:=ag Tryz.func25
instance:Bodied Tryz.prog 26:=ag Tryz.func26
instance:Bodied Tryz.prog 27:=ag Tryz.func27
instance:Bodied Tryz.prog 28:=ag Tryz.func28
instance:Bodied Tryz.prog 29:=ag Tryz.func29
instance:Bodied Tryz.prog 30:=ag Tryz.func30
instance:Bodied Tryz.prog 31:=ag Tryz.func31
instance:Bodied Tryz.prog 32:=ag Tryz.func32
instance:Bodied Tryz.prog 33:=ag Tryz.func33
instance:Bodied Tryz.prog 34:=ag Tryz.func34
instance:Bodied Tryz.prog 35:=ag Tryz.func35
instance:Bodied Tryz.prog 36:=ag Tryz.func36
instance:Bodied Tryz.prog 37:=ag Tryz.func37
instance:Bodied Tryz.prog 38:=ag Tryz.func38
instance:Bodied Tryz.prog 39:=ag Tryz.func39
instance:Bodied Tryz.prog 40:=ag Tryz.func40
instance:Bodied Tryz.prog 41:=ag Tryz.func41
instance:Bodied Tryz.prog 42:=ag Tryz.func42
instance:Bodied Tryz.prog 43:=ag Tryz.func43
instance:Bodied Tryz.prog 44:=ag Tryz.func44
instance:Bodied Tryz.prog 45:=ag Tryz.func45
instance:Bodied Tryz.prog 46:=ag Tryz.func46
instance:Bodied Tryz.prog 47:=ag Tryz.func47
instance:Bodied Tryz.prog 48:=ag Tryz.func48
instance:Bodied Tryz.prog 49:=ag Tryz.func49
instance:Bodied Tryz.prog 50:=ag Tryz.func50
instance:Bodied Tryz.prog 51:=ag Tryz.func51
instance:Bodied Tryz.prog 52:=ag Tryz.func52
instance:Bodied Tryz.prog 53:=ag Tryz.func53
instance:Bodied Tryz.prog 54:=ag Tryz.func54
instance:Bodied Tryz.prog 55:=ag Tryz.func55
instance:Bodied Tryz.prog 56:=ag Tryz.func56
instance:Bodied Tryz.prog 57:=ag Tryz.func57
instance:Bodied Tryz.prog 58:=ag Tryz.func58
instance:Bodied Tryz.prog 59:=ag Tryz.func59
instance:Bodied Tryz.prog 60:=ag Tryz.func60
instance:Bodied Tryz.prog 61:=ag Tryz.func61
instance:Bodied Tryz.prog 62:=ag Tryz.func62
instance:Bodied Tryz.prog 63:=ag Tryz.func63
instance:Bodied Tryz.prog 64:=ag Tryz.func64
instance:Bodied Tryz.prog 65:=ag Tryz.func65
instance:Bodied Tryz.prog 66:=ag Tryz.func66
instance:Bodied Tryz.prog 67:=ag Tryz.func67
instance:Bodied Tryz.prog 68:=ag Tryz.func68
instance:Bodied Tryz.prog 69:=ag Tryz.func69
instance:Bodied Tryz.prog 70:=ag Tryz.func70
instance:Bodied Tryz.prog 71:=ag Tryz.func71
instance:Bodied Tryz.prog 72:=ag Tryz.func72
instance:Bodied Tryz.prog 73:=ag Tryz.func73
instance:Bodied Tryz.prog 74:=ag Tryz.func74
instance:Bodied Tryz.prog 75:=ag Tryz.func75
instance:Bodied Tryz.prog 76:=ag Tryz.func76
instance:Bodied Tryz.prog 77:=ag Tryz.func77
instance:Bodied Tryz.prog 78:=ag Tryz.func78
instance:Bodied Tryz.prog 79:=ag Tryz.func79
instance:Bodied Tryz.prog 80:=ag Tryz.func80
instance:Bodied Tryz.prog 81:=ag Tryz.func81
instance:Bodied Tryz.prog 82:=ag Tryz.func82
instance:Bodied Tryz.prog 83:=ag Tryz.func83
instance:Bodied Tryz.prog 84:=ag Tryz.func84
instance:Bodied Tryz.prog 85:=ag Tryz.func85
instance:Bodied Tryz.prog 86:=ag Tryz.func86
instance:Bodied Tryz.prog 87:=ag Tryz.func87
instance:Bodied Tryz.prog 88:=ag Tryz.func88
instance:Bodied Tryz.prog 89:=ag Tryz.func89
instance:Bodied Tryz.prog 90:=ag Tryz.func90
instance:Bodied Tryz.prog 91:=ag Tryz.func91
instance:Bodied Tryz.prog 92:=ag Tryz.func92
instance:Bodied Tryz.prog 93:=ag Tryz.func93
instance:Bodied Tryz.prog 94:=ag Tryz.func94
instance:Bodied Tryz.prog 95:=ag Tryz.func95
instance:Bodied Tryz.prog 96:=ag Tryz.func96
instance:Bodied Tryz.prog 97:=ag Tryz.func97
instance:Bodied Tryz.prog 98:=ag Tryz.func98
instance:Bodied Tryz.prog 99:=ag Tryz.func99
instance:Bodied Tryz.prog 100:=ag Tryz.func100
instance:Bodied Tryz.prog 101:=ag Tryz.func101
instance:Bodied Tryz.prog 102:=ag Tryz.func102
instance:Bodied Tryz.prog 103:=ag Tryz.func103
instance:Bodied Tryz.prog 104:=ag Tryz.func104
instance:Bodied Tryz.prog 105:=ag Tryz.func105
instance:Bodied Tryz.prog 106:=ag Tryz.func106
instance:Bodied Tryz.prog 107:=ag Tryz.func107
instance:Bodied Tryz.prog 108:=ag Tryz.func108
instance:Bodied Tryz.prog 109:=ag Tryz.func109
instance:Bodied Tryz.prog 110:=ag Tryz.func110
instance:Bodied Tryz.prog 111:=ag Tryz.func111
instance:Bodied Tryz.prog 112:=ag Tryz.func112
instance:Bodied Tryz.prog 113:=ag Tryz.func113
instance:Bodied Tryz.prog 114:=ag Tryz.func114
instance:Bodied Tryz.prog 115:=ag Tryz.func115
instance:Bodied Tryz.prog 116:=ag Tryz.func116
instance:Bodied Tryz.prog 117:=ag Tryz.func117
instance:Bodied Tryz.prog 118:=ag Tryz.func118
instance:Bodied Tryz.prog 119:=ag Tryz.func119
instance:Bodied Tryz.prog 120:=ag Tryz.func120
instance:Bodied Tryz.prog 121:=ag Tryz.func121
instance:Bodied Tryz.prog 122:=ag Tryz.func122
instance:Bodied Tryz.prog 123:=ag Tryz.func123
instance:Bodied Tryz.prog 124:=ag Tryz.func124
instance:Bodied Tryz.prog 125:=ag Tryz.func125
instance:Bodied Tryz.prog 126:=ag Tryz.func126
instance:Bodied Tryz.prog 127:=ag Tryz.func127
instance:Bodied Tryz.prog 128:=ag Tryz.func128
instance:Bodied Tryz.prog 129:=ag Tryz.func129
instance:Bodied Tryz.prog 130:=ag Tryz.func130
instance:Bodied Tryz.prog 131:=ag Tryz.func131
instance:Bodied Tryz.prog 132:=ag Tryz.func132
instance:Bodied Tryz.prog 133:=ag Tryz.func133
instance:Bodied Tryz.prog 134:=ag Tryz.func134
instance:Bodied Tryz.prog 135:=ag Tryz.func135
instance:Bodied Tryz.prog 136:=ag Tryz.func136
instance:Bodied Tryz.prog 137:=ag Tryz.func137
instance:Bodied Tryz.prog 138:=ag Tryz.func138
instance:Bodied Tryz.prog 139:=ag Tryz.func139
instance:Bodied Tryz.prog 140:=ag Tryz.func140
instance:Bodied Tryz.prog 141:=ag Tryz.func141
instance:Bodied Tryz.prog 142:=ag Tryz.func142
instance:Bodied Tryz.prog 143:=ag Tryz.func143
instance:Bodied Tryz.prog 144:=ag Tryz.func144
instance:Bodied Tryz.prog 145:=ag Tryz.func145
instance:Bodied Tryz.prog 146:=ag Tryz.func146
instance:Bodied Tryz.prog 147:=ag Tryz.func147
instance:Bodied Tryz.prog 148:=ag Tryz.func148
instance:Bodied Tryz.prog 149:=ag Tryz.func149
instance:Bodied Tryz.prog 150:=ag Tryz.func150
instance:Bodied Tryz.prog 151:=ag Tryz.func151
instance:Bodied Tryz.prog 152:=ag Tryz.func152
instance:Bodied Tryz.prog 153:=ag Tryz.func153
instance:Bodied Tryz.prog 154:=ag Tryz.func154
instance:Bodied Tryz.prog 155:=ag Tryz.func155
instance:Bodied Tryz.prog 156:=ag Tryz.func156
instance:Bodied Tryz.prog 157:=ag Tryz.func157
instance:Bodied Tryz.prog 158:=ag Tryz.func158
instance:Bodied Tryz.prog 159:=ag Tryz.func159
instance:Bodied Tryz.prog 160:=ag Tryz.func160
instance:Bodied Tryz.prog 161:=ag Tryz.func161
instance:Bodied Tryz.prog 162:=ag Tryz.func162
instance:Bodied Tryz.prog 163:=ag Tryz.func163
instance:Bodied Tryz.prog 164:=ag Tryz.func164
instance:Bodied Tryz.prog 165:=ag Tryz.func165
instance:Bodied Tryz.prog 166:=ag Tryz.func166
instance:Bodied Tryz.prog 167:=ag Tryz.func167
instance:Bodied Tryz.prog 168:=ag Tryz.func168
instance:Bodied Tryz.prog 169:=ag Tryz.func169
instance:Bodied Tryz.prog 170:=ag Tryz.func170
instance:Bodied Tryz.prog 171:=ag Tryz.func171
instance:Bodied Tryz.prog 172:=ag Tryz.func172
instance:Bodied Tryz.prog 173:=ag Tryz.func173
instance:Bodied Tryz.prog 174:=ag Tryz.func174
instance:Bodied Tryz.prog 175:=ag Tryz.func175
instance:Bodied Tryz.prog 176:=ag Tryz.func176
instance:Bodied Tryz.prog 177:=ag Tryz.func177
instance:Bodied Tryz.prog 178:=ag Tryz.func178
instance:Bodied Tryz.prog 179:=ag Tryz.func179
instance:Bodied Tryz.prog 180:=ag Tryz.func180
instance:Bodied Tryz.prog 181:=ag Tryz.func181
instance:Bodied Tryz.prog 182:=ag Tryz.func182
instance:Bodied Tryz.prog 183:=ag Tryz.func183
instance:Bodied Tryz.prog 184:=ag Tryz.func184
instance:Bodied Tryz.prog 185:=ag Tryz.func185
instance:Bodied Tryz.prog 186:=ag Tryz.func186
instance:Bodied Tryz.prog 187:=ag Tryz.func187
instance:Bodied Tryz.prog 188:=ag Tryz.func188
instance:Bodied Tryz.prog 190:=ag Tryz.func190
instance:Bodied Tryz.prog 191:=ag Tryz.func191
instance:Bodied Tryz.prog 192:=ag Tryz.func192
instance:Bodied Tryz.prog 193:=ag Tryz.func193
instance:Bodied Tryz.prog 194:=ag Tryz.func194
instance:Bodied Tryz.prog 195:=ag Tryz.func195
instance:Bodied Tryz.prog 196:=ag Tryz.func196
instance:Bodied Tryz.prog 197:=ag Tryz.func197
instance:Bodied Tryz.prog 198:=ag Tryz.func198
instance:Bodied Tryz.prog 199:=ag Tryz.func199
instance:Bodied Tryz.prog 200:=ag Tryz.func200
instance:Bodied Tryz.prog 201:=ag Tryz.func201
instance:Bodied Tryz.prog 202:=ag Tryz.func202
instance:Bodied Tryz.prog 203:=ag Tryz.func203
instance:Bodied Tryz.prog 204:=ag Tryz.func204
instance:Bodied Tryz.prog 205:=ag Tryz.func205
instance:Bodied Tryz.prog 206:=ag Tryz.func206
instance:Bodied Tryz.prog 207:=ag Tryz.func207
instance:Bodied Tryz.prog 208:=ag Tryz.func208
instance:Bodied Tryz.prog 209:=ag Tryz.func209
instance:Bodied Tryz.prog 210:=ag Tryz.func210
instance:Bodied Tryz.prog 211:=ag Tryz.func211
instance:Bodied Tryz.prog 212:=ag Tryz.func212
instance:Bodied Tryz.prog 213:=ag Tryz.func213
instance:Bodied Tryz.prog 214:=ag Tryz.func214
instance:Bodied Tryz.prog 215:=ag Tryz.func215
instance:Bodied Tryz.prog 216:=ag Tryz.func216
instance:Bodied Tryz.prog 217:=ag Tryz.func217
instance:Bodied Tryz.prog 218:=ag Tryz.func218
instance:Bodied Tryz.prog 219:=ag Tryz.func219
instance:Bodied Tryz.prog 220:=ag Tryz.func220
instance:Bodied Tryz.prog 221:=ag Tryz.func221
instance:Bodied Tryz.prog 222:=ag Tryz.func222
instance:Bodied Tryz.prog 223:=ag Tryz.func223
instance:Bodied Tryz.prog 224:=ag Tryz.func224
instance:Bodied Tryz.prog 225:=ag Tryz.func225
instance:Bodied Tryz.prog 226:=ag Tryz.func226
instance:Bodied Tryz.prog 227:=ag Tryz.func227
instance:Bodied Tryz.prog 228:=ag Tryz.func228
instance:Bodied Tryz.prog 229:=ag Tryz.func229
instance:Bodied Tryz.prog 230:=ag Tryz.func230
instance:Bodied Tryz.prog 231:=ag Tryz.func231
instance:Bodied Tryz.prog 232:=ag Tryz.func232
instance:Bodied Tryz.prog 233:=ag Tryz.func233
instance:Bodied Tryz.prog 234:=ag Tryz.func234
instance:Bodied Tryz.prog 235:=ag Tryz.func235
instance:Bodied Tryz.prog 236:=ag Tryz.func236
instance:Bodied Tryz.prog 237:=ag Tryz.func237
instance:Bodied Tryz.prog 238:=ag Tryz.func238
instance:Bodied Tryz.prog 239:=ag Tryz.func239
instance:Bodied Tryz.prog 240:=ag Tryz.func240
instance:Bodied Tryz.prog 241:=ag Tryz.func241
instance:Bodied Tryz.prog 242:=ag Tryz.func242
instance:Bodied Tryz.prog 243:=ag Tryz.func243
instance:Bodied Tryz.prog 244:=ag Tryz.func244
instance:Bodied Tryz.prog 245:=ag Tryz.func245
instance:Bodied Tryz.prog 246:=ag Tryz.func246
instance:Bodied Tryz.prog 247:=ag Tryz.func247
instance:Bodied Tryz.prog 248:=ag Tryz.func248
instance:Bodied Tryz.prog 249:=ag Tryz.func249
instance:Bodied Tryz.prog 250:=ag Tryz.func250
instance:Bodied Tryz.prog 251:=ag Tryz.func251
instance:Bodied Tryz.prog 252:=ag Tryz.func252
instance:Bodied Tryz.prog 253:=ag Tryz.func253
instance:Bodied Tryz.prog 254:=ag Tryz.func254
instance:Bodied Tryz.prog 255:=ag Tryz.func255
instance:Bodied Tryz.prog 259:=ag Tryz.func259
instance:Bodied Tryz.prog 261:=ag Tryz.func261
instance:Bodied Tryz.prog 262:=ag Tryz.func262
instance:Bodied Tryz.prog 263:=ag Tryz.func263
instance:Bodied Tryz.prog 264:=ag Tryz.func264
instance:Bodied Tryz.prog 265:=ag Tryz.func265
instance:Bodied Tryz.prog 266:=ag Tryz.func266
instance:Bodied Tryz.prog 267:=ag Tryz.func267
instance:Bodied Tryz.prog 268:=ag Tryz.func268
instance:Bodied Tryz.prog 269:=ag Tryz.func269
instance:Bodied Tryz.prog 270:=ag Tryz.func270
instance:Bodied Tryz.prog 271:=ag Tryz.func271
instance:Bodied Tryz.prog 276:=ag Tryz.func276
instance:Bodied Tryz.prog 279:=ag Tryz.func279
instance:Bodied Tryz.prog 280:=ag Tryz.func280
instance:Bodied Tryz.prog 281:=ag Tryz.func281
instance:Bodied Tryz.prog 290:=ag Tryz.func290
instance:Bodied Tryz.prog 292:=ag Tryz.func292
instance:Bodied Tryz.prog 293:=ag Tryz.func293
instance:Bodied Tryz.prog 294:=ag Tryz.func294
instance:Bodied Tryz.prog 295:=ag Tryz.func295
instance:Bodied Tryz.prog 298:=ag Tryz.func298
instance:Bodied Tryz.prog 299:=ag Tryz.func299
instance:Bodied Tryz.prog 317:=ag Tryz.func317
instance:Bodied Tryz.prog 318:=ag Tryz.func318
instance:Bodied Tryz.prog 354:=ag Tryz.func354
instance:Bodied Tryz.prog 355:=ag Tryz.func355
instance:Bodied Tryz.prog 356:=ag Tryz.func356
instance:Bodied Tryz.prog 357:=ag Tryz.func357
open Go.RowKit

theorem Kg {α:Type} [DecidableEq α] {xs ys:List α} {k:Nat} (h1:k<xs.length) (h2:k<ys.length) (hl:xs.length=ys.length) (ht:xs.take k=ys.take k) :
  decide (xs[k]=ys[k])=decide (xs.length=ys.length∧xs.take (k+1)=ys.take (k+1)):=by
 have e1:=apz h1;have e2:=apz h2;rw [e1,e2,ht];simp only [List.append_cancel_left_eq,asa,atx,hl,true_and]

theorem vP {va vb:Value} {xs ys:List Int} {w:World} (ha:IL w va xs) (hb:IL w vb ys) :
  Calls Tryz.prog sy #[va,vb] w fun e w'=>e = .returned (.bool (decide (xs=ys)))∧Ext w w':=by
 obtain ⟨A,c,rfl,hnc,hcm,hz,hcell⟩:=ha.op;obtain ⟨A',c',rfl,hnc',hcm',hz',hcell'⟩:=hb.op;refine ub Tryz.func86 Z Z ?_
 repeat (first | refine o_p Z Z Z ?_ | refine on ?_ | refine sr ?_ | refine ss ?_)
 refine k7 (fU (G:=Nat × Bool) (fun g=> [(0,.slice A xs.length c),(1,.slice A' ys.length c'),(5,.bool g.2),(6,ii g.1)])
  (fun g W=>Ext w W∧g.1≤xs.length∧g.2=decide (xs.length=ys.length∧xs.take g.1=ys.take g.1)) (fun g=>xs.length - g.1) ?_ ?_)
 ·exact ⟨(0,decide ((xs.length:Int)=ys.length)),⟨rfl,rfl,rfl,rfl,trivial⟩,Fr.refl _ _,aqc _,by simp;omega⟩
 rintro ⟨k,b⟩ W ⟨hE,hk,hb0⟩;dsimp only at hk hb0 ⊢
 repeat (first | refine o_p Z Z Z ?_ | refine on ?_ | refine sr ?_ | refine ss ?_)
 refine pS 13 Z (fun h1=> ?_) (fun h1=> ?_)
 ·repeat refine o_p Z Z Z ?_
  rw [h1] at hb0;have hb1:=of_decide_eq_true hb0.symm;refine on (zp Z (fun h2=>lu (cn (er (k7 ?_)))) (fun h2=>yo (ls (nl (ku (cn ?_))))))
  ·obtain ⟨bk,off,rfl,hbk,hc⟩:=hcell k (by omega);obtain ⟨bk',off',rfl,hbk',hc'⟩:=hcell' k (by omega);have hck:=hc k (by omega);have hck':=hc' k (by omega);refine sk flo (fun W'=>Ext w W') (by decide) (hE.trans (Fr.drew _)) ?_
   repeat refine d_p Z Z Z Z ?_
   refine n6 k Z Z Z Z Z (by omega) <| iw Z Z (fun W' hW'=>bx Z Z Z (hW'.cell hck)) Z ?_
   repeat refine d_p Z Z Z Z ?_
   refine n6 k Z Z Z Z Z (by omega) <| iw Z Z (fun W' hW'=>bx Z Z Z (hW'.cell hck')) Z ?_
   repeat refine d_p Z Z Z Z ?_
   refine qa <| qo <| cn <| df <| o_p Z Z Z ?_;refine o_c Z Z Z (by unfold I64;omega) ?_
   repeat refine o_p Z Z Z ?_
   refine fk (xm (k+1,decide (xs[k]=ys[k])) ?_ ?_ ?_)
   ·exact ⟨rfl,rfl,rfl,rfl,trivial⟩
   ·exact ⟨hE.trans (Fr.drew _),by simp only;omega,Kg (by omega) (by omega) hb1.1 hb1.2⟩
   ·simp only;omega
  ·repeat (first | refine o_p Z Z Z ?_ | refine on ?_ | refine sr ?_ | refine ss ?_)
   refine ig <| je Z Z ⟨?_,hE⟩;obtain rfl:k=xs.length:=by omega
   have h3:=hb1.2;rw [aqh (aqp _),aqh (by omega)] at h3;rw [h1,ap5 h3]
 ·repeat refine wx Z Z ?_
  repeat refine o_p Z Z Z ?_
  refine on <| xe Z <| yo <| ls <| nl <| ku <| cn ?_
  repeat (first | refine o_p Z Z Z ?_ | refine on ?_ | refine sr ?_ | refine ss ?_)
  refine ig <| je Z Z ⟨?_,hE⟩;rw [h1] at hb0;have h3:=of_decide_eq_false hb0.symm;rw [h1,aqo (fun e=>h3 (by subst e;simp))]

theorem Nv {xs:List Int}:∀ u∈xs.map (Value.int .i64),u.oneCell'=true:=by
 intro u hu;obtain ⟨x,_,rfl⟩:=ap8.1 hu
 rfl


def nn (xs:List Int) (i:Nat):Int:=max (xs.getD i 0) 0
def atL (xs:List Int) (r:Int):Int:=if 1≤r∧r≤xs.length then nn xs (r - 1).toNat else 0

theorem alc {xs:List Int} {i:Nat} (h:i<xs.length):nn xs i=max xs[i] 0:=by
 unfold nn;rw [aqf,apv h]
 rfl
theorem yL {xs:List Int} {i:Nat} (h:xs.length≤i):nn xs i=0:=by
 unfold nn;rw [aqf,as4 h]
 rfl
theorem Bt (xs:List Int) (i:Nat):atL xs ((i:Int)+1)=nn xs i:=by
 unfold atL;by_cases h:i<xs.length
 ·rw [if_pos (by omega)];congr 1;omega
 ·rw [if_neg (by omega),yL (by omega)]

theorem md {v:Value} {xs:List Int} {r:Int} {w:World} (hv:IL w v xs) :
  Calls Tryz.prog Bo #[v,ii r] w fun e w'=>e = .returned (ii (atL xs r))∧w=w':=by
 obtain ⟨A,c,rfl,hnc,hcm,hz,hcell⟩:=hv.op;refine ub Tryz.func163 Z Z <| sr <| o_p Z Z Z <| on <| er <| sr ?_
 repeat refine o_p Z Z Z ?_
 refine Yi 7 Z (fun h1=> ?_) (fun h1=> ?_)
 ·repeat refine wx Z Z ?_
  repeat refine o_p Z Z Z ?_
  refine on <| xd Z <| sr ?_
  repeat refine o_p Z Z Z ?_
  refine on <| ig <| jt <| je Z Z ⟨?_,rfl⟩;rw [atL,if_neg (by omega)]
 ·repeat refine o_p Z Z Z ?_
  refine on (zp Z (fun h2=>sr ?_) (fun h2=>lu (cn (sr ?_))))
  ·repeat refine o_p Z Z Z ?_
   refine on <| ig <| jt <| je Z Z ⟨?_,rfl⟩;rw [atL,if_neg (by omega)]
  ·obtain ⟨b,off,rfl,hb,hc⟩:=hcell 0 (by omega);have hlt:(r - 1).toNat<xs.length:=by omega
   have hck:=hc (r - 1).toNat hlt
   repeat refine o_p Z Z Z ?_
   refine o_c Z Z Z (by unfold I64;omega) ?_;refine xM (r - 1).toNat Z Z Z (by omega) hlt <| fm Z (bx Z Z Z hck) Z ?_
   repeat refine o_p Z Z Z ?_
   refine on <| ig <| je Z Z ⟨?_,rfl⟩;rw [atL,if_pos (by omega),alc hlt]

abbrev kZ (b:Nat):Value:=pp b

theorem lA {l b1 b2:Nat} {va vb:Value} {xs ys:List Int} {We W:World} (J:Nat→World→Prop) (h1:We.cell? ⟨b1,0,none⟩=some va) (h2:We.cell? ⟨b2,0,none⟩=some vb)
  (ha:IL We va xs) (hb:IL We vb ys) (hE:∀ i W,J i W→Ext We W) (hst:∀ i W W',J i W→Ext W W'→J i W')
  (hY:∀ i,i<max xs.length ys.length→∀ W,J i W→Yld Tryz.prog l #[ii (nn xs i),ii (nn ys i)] W fun e W'=>e = .returned (.bool true)∧J (i+1) W') (h0:J 0 W) :
  Calls Tryz.prog nc #[.func (.yield l) #[] #[],kZ b1,kZ b2] W fun e W'=>(∃ v,e = .returned v)∧J (max xs.length ys.length) W':=by
 obtain ⟨A,c,rfl,hnc,hcm,hz,hcell⟩:=ha.op;obtain ⟨A',c',rfl,hnc',hcm',hz',hcell'⟩:=hb.op;refine D3 Tryz.func271 Z Z <| er <| df <| fm Z (bx Z Z Z ((hE _ _ h0).cell h1)) Z ?_
 repeat refine o_p Z Z Z ?_
 refine fm Z (bx Z Z Z ((hE _ _ h0).cell h2)) Z ?_
 repeat refine o_p Z Z Z ?_
 have hmax:max (xs.length:Int) (ys.length:Int)=((max xs.length ys.length:Nat):Int):=by omega
 refine (fk (cn (k7 (fU (G:=Nat) (fun i=> [(0,.func (.yield l) #[] #[]),(1,kZ b1),(2,kZ b2),(9,ii ((max xs.length ys.length:Nat):Int)),(10,ii i)])
  (fun i W=>J i W∧i≤max xs.length ys.length) (fun i=>max xs.length ys.length - i) ?_ ?_))))
 ·exact ⟨0,⟨rfl,rfl,rfl,by rw [← hmax];rfl,rfl,trivial⟩,h0,by omega⟩
 rintro i W ⟨hJ,hi⟩;refine er <| df ?_
 repeat refine o_p Z Z Z ?_
 refine (fk (cn (er (zp Z (fun h=> ?_) (fun h=> ?_)))))
 ·refine lu <| cn <| er <| k7 <| er <| df ?_
  repeat refine o_p Z Z Z ?_
  have hJd:=hst _ _ _ hJ (Fr.drew W);have hEd:=hE _ _ hJd;refine fk <| cn <| er <| sk flo (fun W'=>Ext We W') (by decide) hEd ?_
  repeat refine d_p Z Z Z Z ?_
  refine iw Z Z (fun W' hW'=>bx Z Z Z (hW'.cell h1)) Z ?_
  repeat refine d_p Z Z Z Z ?_
  refine d_c Z Z Z Z (by unfold I64;omega) ?_;refine nq Z Z (fu Z) Z <| (md (ha.ext hEd)).mono ?_;rintro _ w1 ⟨rfl,rfl⟩;refine ⟨_,rfl,hEd,?_⟩;rw [Bt];refine iw Z Z (fun W' hW'=>bx Z Z Z (hW'.cell h2)) Z ?_
  repeat refine d_p Z Z Z Z ?_
  refine d_c Z Z Z Z (by unfold I64;omega) ?_;refine nq Z Z (fu Z) Z <| (md (hb.ext hEd)).mono ?_;rintro _ w1 ⟨rfl,rfl⟩;refine ⟨_,rfl,hEd,?_⟩;rw [Bt];refine Mm Z Z Z Z <| (hY i (by omega) _ hJd).mono ?_;rintro _ w1 ⟨rfl,hJ1⟩;refine ⟨_,rfl,hE _ _ hJ1,?_⟩
  repeat refine d_p Z Z Z Z ?_
  refine qa <| cn <| xe Z <| lu <| qo <| cn <| df ?_;refine o_c Z Z Z (by unfold I64;omega) ?_
  repeat refine o_p Z Z Z ?_
  refine (fk (xm (i+1) ?_ ?_ ?_))
  ·exact ⟨rfl,rfl,rfl,rfl,rfl,trivial⟩
  ·exact ⟨hJ1,by omega⟩
  ·show max xs.length ys.length - (i+1)<max xs.length ys.length - i;omega
 ·obtain rfl:i=max xs.length ys.length:=by omega
  exact yo (ls (nl (ku (G2 Z ⟨⟨_,rfl⟩,hJ⟩))))

theorem sM {va vb:Value} {w:World} :
  Calls Tryz.prog sF #[va,vb] w fun e w'=>e = .returned (.func (.func nc) ⟨[]⟩ ⟨[kZ w.heap.size,kZ (w.heap.size+1)]⟩)∧w'=(w.alloc (.cells va.cells iq)).alloc (.cells vb.cells iq):=by
 refine ub Tryz.func227 Z Z <| er <| df <| fm Z (xp Z) Z <| fm Z (xp Z) Z ?_
 repeat (first | refine o_p Z Z Z ?_ | refine on ?_ | refine sr ?_ | refine ss ?_)
 refine ig <| je Z Z ⟨?_,rfl⟩;simp

theorem sN {b1 b2:Nat} {va vb:Value} {xs ys:List Int} {w:World} (I:Nat→Value→World→Prop) (g:FuncId) (gc:List Value) [Bodied Tryz.prog g] (v0:Value)
  (h1:w.cell? ⟨b1,0,none⟩=some va) (h2:w.cell? ⟨b2,0,none⟩=some vb) (ha:IL w va xs) (hb:IL w vb ys) (hI0:I 0 v0 w) (hone:∀ i v W,I i v W→v.oneCell'=true)
  (hst:∀ i v W W' S,I i v W→Fr S W W'→(∀ k,S k→w.heap.size≤k∧k<w.heap.size+4)→I i v W')
  (hstep:∀ i v W,i<max xs.length ys.length→I i v W→Ext w W→w.heap.size+4≤W.heap.size→Calls Tryz.prog g ([v,ii (nn xs i),ii (nn ys i)]++gc).toArray W fun e W' =>
   ∃ v',e = .returned v'∧I (i+1) v' W'∧Fr (fun k=>w.heap.size+4≤k) W W') :
  Calls Tryz.prog x5 #[.func (.func nc) ⟨[]⟩ ⟨[kZ b1,kZ b2]⟩,v0,.func (.func g) ⟨[]⟩ ⟨gc⟩] w fun e W'=>∃ v,e = .returned v∧I (max xs.length ys.length) v W'∧Ext w W':=by
 have c0:v0.cells = #[v0]:=by have:=hone _ _ _ hI0;cases v0 <;> first | rfl | (simp [Value.oneCell'] at this)
 refine G3 Tryz.func226 Z Z <| er <| df <| fm Z (xp Z) Z <| fm Z (xp Z) Z ?_;rw [c0];obtain ⟨w1,hw1⟩:∃ w1,(w.alloc (.cells #[v0] zi)).alloc (.cells (Value.func (.func g) ⟨[]⟩ ⟨gc⟩).cells jy)=w1:=⟨_,rfl⟩;have B0:Blk w1 w.heap.size zi [v0]:=by rw [← hw1];exact (Blk.new w _ [v0]).ext (Fr.alloc _ _)
 have B1:Blk w1 (w.heap.size+1) jy [.func (.func g) ⟨[]⟩ ⟨gc⟩]:=by
  rw [← hw1];have:=Blk.new (w.alloc (.cells #[v0] zi)) jy [.func (.func g) ⟨[]⟩ ⟨gc⟩];rwa [World.size_alloc] at this
 have e1:Ext w w1:=by rw [← hw1];exact (Fr.alloc _ _).trans (Fr.alloc _ _)
 have z1:w1.heap.size=w.heap.size+2:=by rw [← hw1];simp
 have I1:I 0 v0 w1:=hst _ _ _ _ zQ hI0 e1 (fun k h=>h.elim);rw [World.size_alloc,hw1];clear hw1
 repeat refine o_p Z Z Z ?_
 refine fk <| cn <| er <| er <| df ?_
 repeat refine o_p Z Z Z ?_
 refine fk <| cn <| k7 <| wy Z ?_;intro r hr1 hr2 hr3 hr4 hr5 hr6 hkn;obtain ⟨w2,hw2⟩:∃ w2,(w1.alloc (.deferred (some []))).alloc (.loop r)=w2:=⟨_,rfl⟩;have e2:Ext w1 w2:=by rw [← hw2];exact (Fr.alloc _ _).trans (Fr.alloc _ _)
 have D2:w2.heap[w.heap.size+2]? = some (.deferred (some [])):=by
  rw [← hw2,← z1];exact (Below.heap_alloc _ _ _ (by simp)).trans (World.alloc_heap_new w1 _)
 have L2:w2.heap[w.heap.size+3]? = some (.loop r):=by
  rw [← hw2];have:=World.alloc_heap_new (w1.alloc (.deferred (some []))) (.loop r);rwa [World.size_alloc,z1] at this
 have z2:w2.heap.size=w.heap.size+4:=by rw [← hw2];simp [z1]
 rw [hw2];rw [z1]
 let J:Nat→World→Prop:=fun i W=>∃ v,Blk W w.heap.size zi [v]∧Blk W (w.heap.size+1) jy [.func (.func g) ⟨[]⟩ ⟨gc⟩]∧I i v W∧W.heap[w.heap.size+2]? = some (.deferred (some [])) ∧
  W.heap[w.heap.size+3]? = some (.loop r)∧Ext w W∧w.heap.size+4≤W.heap.size
 have hJ0:J 0 w2:=⟨v0,B0.ext e2,B1.ext e2,hst _ _ _ _ zQ I1 e2 (fun k h=>h.elim),D2,L2,e1.trans e2,by omega⟩;refine (lA J h1 h2 ha hb (fun i W ⟨v,_,_,_,_,_,h,_⟩=>h) ?_ ?_ hJ0).mono ?_
 ·rintro i W W' ⟨v,hb0,hb1,hI,hD,hL,hE,hz⟩ hW;exact ⟨v,hb0.ext hW,hb1.ext hW,hst _ _ _ _ zQ hI hW (fun k h=>h.elim),(hW.blk (by omega)).trans hD,(hW.blk (by omega)).trans hL,hE.trans hW,art hz hW.size⟩
 ·rintro i hi W ⟨v,hb0,hb1,hI,hD,hL,hE,hz⟩

  refine kB hL (by rw [hr3];rfl) (by rw [hr3];decide) hkn ?_;rw [hr3,hr4,hr5];refine er <| df ?_
  repeat refine o_p Z Z Z ?_
  refine fk <| cn <| df ?_
  repeat refine o_p Z Z Z ?_
  refine fk <| D6 hL hr1 ?_;obtain ⟨W1,hW1⟩:∃ W1,W.putObj (w.heap.size+3) (.loop {r with state:= .busy})=W1:=⟨_,rfl⟩;have f1:Fr (· = w.heap.size+3) W W1:=by rw [← hW1];exact Fr.putObj _ _ _
  have hL1:W1.heap[w.heap.size+3]? = some (.loop {r with state:= .busy}):=by rw [← hW1];exact World.putObj_heap_same (by omega)
  have hb0':=hb0.fr f1 (by omega);have hb1':=hb1.fr f1 (by omega);have hI':=hst _ _ _ _ _ hI f1 (fun k h=>by omega);have hD':=(f1.keep (w.heap.size+2) (by omega) (by omega)).trans hD;have hE':Ext w W1:=hE.trans' f1 (fun j hj h=>by omega);have hz':w.heap.size+4≤W1.heap.size:=art hz f1.size;rw [hW1];refine k7 <| df <| fm Z (bx Z Z Z (hb1'.cell 0)) Z <| fm Z (bx Z Z Z (hb0'.cell 0)) Z ?_
  repeat refine o_p Z Z Z ?_
  refine jx Z (fu Z) Z <| (hstep i v W1 hi hI' hE' hz').mono ?_;rintro _ W2 ⟨v',rfl,hI2,f2⟩;refine ⟨_,rfl,?_⟩;have hb0'':=hb0'.fr f2 (by omega);have hb1'':=hb1'.fr f2 (by omega);have hD'':=(f2.keep (w.heap.size+2) (by omega) (by omega)).trans hD';have hL'':=(f2.keep (w.heap.size+3) (by omega) (by omega)).trans hL1;have hE'':Ext w W2:=hE'.trans' f2 (fun j hj h=>by omega);have hz'':w.heap.size+4≤W2.heap.size:=art hz' f2.size;refine cI Z (xt Z Z Z Z (hone _ _ _ hI2) (hb0''.cell 0) (hb0''.frozen 0)) ?_;have f3:=Fr.setCell W2 ⟨w.heap.size,0,none⟩ v';have hL3:=(f3.keep (w.heap.size+3) (by omega) (by simp)).trans hL'';have hrr:({r with state:= .ready,pending:=none}:Loop)=r:=by cases r;simp_all
  have hL4:∀ r',r'=r→((W2.setCell ⟨w.heap.size,0,none⟩ v').putObj (w.heap.size+3) (.loop r')).heap[w.heap.size+3]? = some (.loop r):=fun r' e=>by
   rw [World.putObj_heap_same (by simp;omega),e]
  refine fk <| qo <| dN hL3 ⟨rfl,v',?_⟩;have hL5:=hL4 _ hrr;generalize hW4:(W2.setCell ⟨w.heap.size,0,none⟩ v').putObj (w.heap.size+3) _=W4 at hL5;have f4:Fr (· = w.heap.size+3) (W2.setCell ⟨w.heap.size,0,none⟩ v') W4:=by rw [← hW4];exact Fr.putObj _ _ _
  show Blk _ _ _ _∧_;refine ⟨?_,?_,?_,?_,?_,?_,?_⟩
  ·exact ((hb0''.set 0 v').fr f4 (by omega))
  ·exact (hb1''.fr f3 (by simp)).fr f4 (by omega)
  ·exact hst _ _ _ _ _ (hst _ _ _ _ _ hI2 f3 (fun k h=>by simp at h;omega)) f4 (fun k h=>by omega)
  ·exact (f4.keep _ (by simp;omega) (by omega)).trans ((f3.keep _ (by omega) (by simp)).trans hD'')
  ·exact hL5
  ·exact (hE''.trans' f3 (fun j hj h=>by simp at h;omega)).trans' f4 (fun j hj h=>by omega)
  ·have:=f3.size;have:=f4.size;omega
 ·rintro e W ⟨⟨u,rfl⟩,v,hb0,hb1,hI,hD,hL,hE,hz⟩;refine ⟨⟨_,rfl⟩,r,hL,by rw [hr1];decide,?_⟩;rw [hr2]

  dsimp only;generalize hW4:W.putObj (w.heap.size+2+1) _=W4;have f1:Fr (· = w.heap.size+3) W W4:=by rw [← hW4];exact Fr.putObj _ _ _
  refine qo <| cn <| er <| df <| fm Z (bx Z Z Z ((hb0.fr f1 (by omega)).cell 0)) Z ?_
  repeat refine o_p Z Z Z ?_
  have hD1:=(f1.keep (w.heap.size+2) (by omega) (by omega)).trans hD;refine (fk (cn (ig (G4 Z Z hD1 ⟨v,rfl,?_,?_⟩))))
  ·exact hst _ _ _ _ _ (hst _ _ _ _ _ hI f1 (fun k h=>by omega)) (Fr.putObj _ _ _) (fun k h=>by omega)
  ·exact (hE.trans' f1 (fun j hj h=>by omega)).trans' (Fr.putObj _ _ _) (fun j hj h=>by omega)

theorem mX {b1 b2:Nat} {va vb:Value} {xs ys:List Int} {w:World} (I:Nat→Value→World→Prop) (g:FuncId) (gc:List Value) [Bodied Tryz.prog g] (v0:Value)
  (h1:w.cell? ⟨b1,0,none⟩=some va) (h2:w.cell? ⟨b2,0,none⟩=some vb) (ha:IL w va xs) (hb:IL w vb ys) (hI0:I 0 v0 w) (hone:∀ i v W,I i v W→v.oneCell'=true)
  (hst:∀ i v W W' S,I i v W→Fr S W W'→(∀ k,S k→w.heap.size≤k∧k<w.heap.size+4)→I i v W')
  (hstep:∀ i v W,i<max xs.length ys.length→I i v W→Ext w W→w.heap.size+4≤W.heap.size→Calls Tryz.prog g ([v,ii (nn xs i),ii (nn ys i)]++gc).toArray W fun e W' =>
   ∃ v',e = .returned v'∧I (i+1) v' W'∧Fr (fun k=>w.heap.size+4≤k) W W') :
  Calls Tryz.prog eT #[.func (.func nc) ⟨[]⟩ ⟨[kZ b1,kZ b2]⟩,v0,.func (.func g) ⟨[]⟩ ⟨gc⟩] w fun e W'=>∃ v,e = .returned v∧I (max xs.length ys.length) v W'∧Ext w W':=by
 have c0:v0.cells = #[v0]:=by have:=hone _ _ _ hI0;cases v0 <;> first | rfl | (simp [Value.oneCell'] at this)
 refine G3 Tryz.func279 Z Z <| er <| df <| fm Z (xp Z) Z <| fm Z (xp Z) Z ?_;rw [c0];obtain ⟨w1,hw1⟩:∃ w1,(w.alloc (.cells #[v0] iq)).alloc (.cells (Value.func (.func g) ⟨[]⟩ ⟨gc⟩).cells jh)=w1:=⟨_,rfl⟩;have B0:Blk w1 w.heap.size iq [v0]:=by rw [← hw1];exact (Blk.new w _ [v0]).ext (Fr.alloc _ _)
 have B1:Blk w1 (w.heap.size+1) jh [.func (.func g) ⟨[]⟩ ⟨gc⟩]:=by
  rw [← hw1];have:=Blk.new (w.alloc (.cells #[v0] iq)) jh [.func (.func g) ⟨[]⟩ ⟨gc⟩];rwa [World.size_alloc] at this
 have e1:Ext w w1:=by rw [← hw1];exact (Fr.alloc _ _).trans (Fr.alloc _ _)
 have z1:w1.heap.size=w.heap.size+2:=by rw [← hw1];simp
 have I1:I 0 v0 w1:=hst _ _ _ _ zQ hI0 e1 (fun k h=>h.elim);rw [World.size_alloc,hw1];clear hw1
 repeat refine o_p Z Z Z ?_
 refine fk <| cn <| er <| er <| df ?_
 repeat refine o_p Z Z Z ?_
 refine fk <| cn <| k7 <| wy Z ?_;intro r hr1 hr2 hr3 hr4 hr5 hr6 hkn;obtain ⟨w2,hw2⟩:∃ w2,(w1.alloc (.deferred (some []))).alloc (.loop r)=w2:=⟨_,rfl⟩;have e2:Ext w1 w2:=by rw [← hw2];exact (Fr.alloc _ _).trans (Fr.alloc _ _)
 have D2:w2.heap[w.heap.size+2]? = some (.deferred (some [])):=by
  rw [← hw2,← z1];exact (Below.heap_alloc _ _ _ (by simp)).trans (World.alloc_heap_new w1 _)
 have L2:w2.heap[w.heap.size+3]? = some (.loop r):=by
  rw [← hw2];have:=World.alloc_heap_new (w1.alloc (.deferred (some []))) (.loop r);rwa [World.size_alloc,z1] at this
 have z2:w2.heap.size=w.heap.size+4:=by rw [← hw2];simp [z1]
 rw [hw2];rw [z1]
 let J:Nat→World→Prop:=fun i W=>∃ v,Blk W w.heap.size iq [v]∧Blk W (w.heap.size+1) jh [.func (.func g) ⟨[]⟩ ⟨gc⟩]∧I i v W∧W.heap[w.heap.size+2]? = some (.deferred (some [])) ∧
  W.heap[w.heap.size+3]? = some (.loop r)∧Ext w W∧w.heap.size+4≤W.heap.size
 have hJ0:J 0 w2:=⟨v0,B0.ext e2,B1.ext e2,hst _ _ _ _ zQ I1 e2 (fun k h=>h.elim),D2,L2,e1.trans e2,by omega⟩;refine (lA J h1 h2 ha hb (fun i W ⟨v,_,_,_,_,_,h,_⟩=>h) ?_ ?_ hJ0).mono ?_
 ·rintro i W W' ⟨v,hb0,hb1,hI,hD,hL,hE,hz⟩ hW;exact ⟨v,hb0.ext hW,hb1.ext hW,hst _ _ _ _ zQ hI hW (fun k h=>h.elim),(hW.blk (by omega)).trans hD,(hW.blk (by omega)).trans hL,hE.trans hW,art hz hW.size⟩
 ·rintro i hi W ⟨v,hb0,hb1,hI,hD,hL,hE,hz⟩

  refine kB hL (by rw [hr3];rfl) (by rw [hr3];decide) hkn ?_;rw [hr3,hr4,hr5];refine er <| df ?_
  repeat refine o_p Z Z Z ?_
  refine fk <| cn <| df ?_
  repeat refine o_p Z Z Z ?_
  refine fk <| D6 hL hr1 ?_;obtain ⟨W1,hW1⟩:∃ W1,W.putObj (w.heap.size+3) (.loop {r with state:= .busy})=W1:=⟨_,rfl⟩;have f1:Fr (· = w.heap.size+3) W W1:=by rw [← hW1];exact Fr.putObj _ _ _
  have hL1:W1.heap[w.heap.size+3]? = some (.loop {r with state:= .busy}):=by rw [← hW1];exact World.putObj_heap_same (by omega)
  have hb0':=hb0.fr f1 (by omega);have hb1':=hb1.fr f1 (by omega);have hI':=hst _ _ _ _ _ hI f1 (fun k h=>by omega);have hD':=(f1.keep (w.heap.size+2) (by omega) (by omega)).trans hD;have hE':Ext w W1:=hE.trans' f1 (fun j hj h=>by omega);have hz':w.heap.size+4≤W1.heap.size:=art hz f1.size;rw [hW1];refine k7 <| df <| fm Z (bx Z Z Z (hb1'.cell 0)) Z <| fm Z (bx Z Z Z (hb0'.cell 0)) Z ?_
  repeat refine o_p Z Z Z ?_
  refine jx Z (fu Z) Z <| (hstep i v W1 hi hI' hE' hz').mono ?_;rintro _ W2 ⟨v',rfl,hI2,f2⟩;refine ⟨_,rfl,?_⟩;have hb0'':=hb0'.fr f2 (by omega);have hb1'':=hb1'.fr f2 (by omega);have hD'':=(f2.keep (w.heap.size+2) (by omega) (by omega)).trans hD';have hL'':=(f2.keep (w.heap.size+3) (by omega) (by omega)).trans hL1;have hE'':Ext w W2:=hE'.trans' f2 (fun j hj h=>by omega);have hz'':w.heap.size+4≤W2.heap.size:=art hz' f2.size;refine cI Z (xt Z Z Z Z (hone _ _ _ hI2) (hb0''.cell 0) (hb0''.frozen 0)) ?_;have f3:=Fr.setCell W2 ⟨w.heap.size,0,none⟩ v';have hL3:=(f3.keep (w.heap.size+3) (by omega) (by simp)).trans hL'';have hrr:({r with state:= .ready,pending:=none}:Loop)=r:=by cases r;simp_all
  have hL4:∀ r',r'=r→((W2.setCell ⟨w.heap.size,0,none⟩ v').putObj (w.heap.size+3) (.loop r')).heap[w.heap.size+3]? = some (.loop r):=fun r' e=>by
   rw [World.putObj_heap_same (by simp;omega),e]
  refine fk <| qo <| dN hL3 ⟨rfl,v',?_⟩;have hL5:=hL4 _ hrr;generalize hW4:(W2.setCell ⟨w.heap.size,0,none⟩ v').putObj (w.heap.size+3) _=W4 at hL5;have f4:Fr (· = w.heap.size+3) (W2.setCell ⟨w.heap.size,0,none⟩ v') W4:=by rw [← hW4];exact Fr.putObj _ _ _
  show Blk _ _ _ _∧_;refine ⟨?_,?_,?_,?_,?_,?_,?_⟩
  ·exact ((hb0''.set 0 v').fr f4 (by omega))
  ·exact (hb1''.fr f3 (by simp)).fr f4 (by omega)
  ·exact hst _ _ _ _ _ (hst _ _ _ _ _ hI2 f3 (fun k h=>by simp at h;omega)) f4 (fun k h=>by omega)
  ·exact (f4.keep _ (by simp;omega) (by omega)).trans ((f3.keep _ (by omega) (by simp)).trans hD'')
  ·exact hL5
  ·exact (hE''.trans' f3 (fun j hj h=>by simp at h;omega)).trans' f4 (fun j hj h=>by omega)
  ·have:=f3.size;have:=f4.size;omega
 ·rintro e W ⟨⟨u,rfl⟩,v,hb0,hb1,hI,hD,hL,hE,hz⟩;refine ⟨⟨_,rfl⟩,r,hL,by rw [hr1];decide,?_⟩;rw [hr2]

  dsimp only;generalize hW4:W.putObj (w.heap.size+2+1) _=W4;have f1:Fr (· = w.heap.size+3) W W4:=by rw [← hW4];exact Fr.putObj _ _ _
  refine qo <| cn <| er <| df <| fm Z (bx Z Z Z ((hb0.fr f1 (by omega)).cell 0)) Z ?_
  repeat refine o_p Z Z Z ?_
  have hD1:=(f1.keep (w.heap.size+2) (by omega) (by omega)).trans hD;refine (fk (cn (ig (G4 Z Z hD1 ⟨v,rfl,?_,?_⟩))))
  ·exact hst _ _ _ _ _ (hst _ _ _ _ _ hI f1 (fun k h=>by omega)) (Fr.putObj _ _ _) (fun k h=>by omega)
  ·exact (hE.trans' f1 (fun j hj h=>by omega)).trans' (Fr.putObj _ _ _) (fun j hj h=>by omega)


def lB (p:Int→Int→Int) (xs ys:List Int):List Int:=(List.range (max xs.length ys.length)).map fun i=>p (nn xs i) (nn ys i)
abbrev joinL:=lB max
theorem Bu (a b:Int) (w:World):Calls Tryz.prog cN #[ii a,ii b] w fun e w'=>e = .returned (ii (max a b))∧w=w':=by
 refine ub Tryz.func241 Z Z ?_
 repeat (first | refine o_p Z Z Z ?_ | refine on ?_ | refine sr ?_ | refine ss ?_)
 exact ig (je Z Z ⟨rfl,rfl⟩)
theorem Ff (b:Bool) (x y:Int) (w:World):Calls Tryz.prog eP #[.bool b,ii x,ii y] w fun e w'=>e = .returned (.bool (b&&decide (x≤y)))∧w=w':=by
 refine D3 Tryz.func228 Z Z <| er <| df ?_
 repeat refine o_p Z Z Z ?_
 refine fk <| cn <| er <| df ?_
 repeat refine o_p Z Z Z ?_
 cases b
 ·repeat (first | refine wx Z Z ?_ | refine o_p Z Z Z ?_)
  exact (fk (cn (ig (je Z Z ⟨rfl,rfl⟩))))
 ·repeat (first | refine wx Z Z ?_ | refine o_p Z Z Z ?_)
  exact (fk (cn (ig (je Z Z ⟨rfl,rfl⟩))))
def Kh:Int:=4611686018427387904
theorem vQ (p:Int→Int→Int) (g:FuncId) [Bodied Tryz.prog g] (hg:∀ a b w,Calls Tryz.prog g #[ii a,ii b] w fun e w'=>e = .returned (ii (p a b))∧w=w')
  {v:Value} {i base bp:Nat} {cs:List Value} {a b:Int} {w:World} (hv:j5 w base fp 1 v i cs) (hbp:w.cell? ⟨bp,0,none⟩=some (.func (.func g) ⟨[]⟩ ⟨[]⟩)) (hi:i+1≤67108864) (hbase:base≤w.heap.size) :
  Calls Tryz.prog yw #[v,ii a,ii b,kZ bp] w fun e w'=>∃ v',e = .returned v'∧j5 w' base fp 1 v' (i+1) (cs ++ [ii (p a b)])∧Fr (fun k=>base≤k) w w':=by
 refine Yj Tryz.func280 Z Z <| er <| df ?_
 repeat refine o_p Z Z Z ?_
 refine fk <| cn <| er <| df ?_
 repeat refine o_p Z Z Z ?_
 refine fm Z (bx Z Z Z hbp) Z ?_
 repeat refine o_p Z Z Z ?_
 refine jx Z (fu Z) Z <| (hg a b w).mono ?_;rintro _ w1 ⟨rfl,rfl⟩;refine ⟨_,rfl,?_⟩;refine fm Z (kw (vs:= [(0,ii (p a b))]) (cells:= [ii (p a b)]) Z Z Z Z (by decide) (fun z hz=>by
  match z,hz with
  | [y], _ => rfl)) Z ?_
 have B:=Blk.new w fp [ii (p a b)];refine lZ Z Z Z Z Z Z Z Z (j5.ext hv (Fr.alloc _ _)) (B.sl (n:=1) (sz:=1) Z (by decide)) (by simp;rfl) hi (by simp;omega) ?_;intro v' w' own fr
 repeat refine o_p Z Z Z ?_
 refine fk <| cn <| ig <| je Z Z ⟨v',rfl,own,((Fr.alloc _ _).trans' (fr.mono fun k _ hk=> ?_) (fun j hj h=>h))⟩;exact (j5.block hv hk).1

theorem Bv (p:Int→Int→Int) (g:FuncId) [Bodied Tryz.prog g] (hg:∀ a b w,Calls Tryz.prog g #[ii a,ii b] w fun e w'=>e = .returned (ii (p a b))∧w=w')
  {va vb:Value} {xs ys:List Int} {w:World} (ha:IL w va xs) (hb:IL w vb ys) (hx:xs.length≤1048576) (hy:ys.length≤1048576) :
  Calls Tryz.prog pF #[va,vb,.func (.func g) ⟨[]⟩ ⟨[]⟩] w fun e w'=>∃ v,e = .returned v∧j5 w' w.heap.size fp 1 v (lB p xs ys).length ((lB p xs ys).map (Value.int .i64))∧Ext w w':=by
 have ca:va.cells = #[va]:=by obtain ⟨A,c,rfl,_⟩:=ha.op;rfl
 have cb:vb.cells = #[vb]:=by obtain ⟨A,c,rfl,_⟩:=hb.op;rfl
 refine D3 Tryz.func240 Z Z <| er <| df <| fm Z (xp Z) Z ?_
 repeat refine o_p Z Z Z ?_
 refine fk <| cn <| er <| df ?_
 repeat refine o_p Z Z Z ?_
 refine jx Z (fu Z) Z <| sM.mono ?_;rintro _ w1 ⟨rfl,rfl⟩;refine ⟨_,rfl,?_⟩;rw [ca,cb];have B0:Blk (w.alloc (.cells (Value.func (.func g) ⟨[]⟩ ⟨[]⟩).cells nv)) w.heap.size nv [.func (.func g) ⟨[]⟩ ⟨[]⟩]:=Blk.new w _ _;generalize hw0:w.alloc (.cells (Value.func (.func g) ⟨[]⟩ ⟨[]⟩).cells nv)=w0 at *;have e0:Ext w w0:=by rw [← hw0];exact Fr.alloc _ _
 have z0:w0.heap.size=w.heap.size+1:=by rw [← hw0];simp
 have B1:Blk (w0.alloc (.cells #[va] iq)) w0.heap.size iq [va]:=Blk.new w0 _ [va];generalize hw1:w0.alloc (.cells #[va] iq)=w1 at *;have e1:Ext w0 w1:=by rw [← hw1];exact Fr.alloc _ _
 have z1:w1.heap.size=w0.heap.size+1:=by rw [← hw1];simp
 have B2:Blk (w1.alloc (.cells #[vb] iq)) w1.heap.size iq [vb]:=Blk.new w1 _ [vb];generalize hw2:w1.alloc (.cells #[vb] iq)=w2 at *;have e2:Ext w1 w2:=by rw [← hw2];exact Fr.alloc _ _
 have z2:w2.heap.size=w1.heap.size+1:=by rw [← hw2];simp
 have eE:Ext w w2:=(e0.trans e1).trans e2
 repeat refine o_p Z Z Z ?_
 rw [z1] at B2;have hlen:(lB p xs ys).length=max xs.length ys.length:=by simp [lB]
 have Bf:=(B0.ext e1).ext e2;refine jx Z (fu Z) Z ((mX (fun i v W=>Blk W w.heap.size nv [.func (.func g) ⟨[]⟩ ⟨[]⟩]∧j5 W (w2.heap.size+4) fp 1 v i (((lB p xs ys).take i).map (Value.int .i64)))
  yw [kZ w.heap.size] (.slice none 0 0) ((B1.ext e2).cell 0) (B2.cell 0) (ha.ext eE) (hb.ext eE) ⟨Bf,by simpa using j5.nil _ _ _ _⟩ ?_ ?_ ?_).mono ?_)
 ·rintro i v W ⟨_,hI⟩;rcases hI.2 with ⟨rfl,_⟩ | ⟨_,_,_,rfl,_⟩ <;> rfl
 ·rintro i v W W' S ⟨hB,hI⟩ hf hS;refine ⟨hB.fr hf (fun h=>by have:=hS _ h;omega),j5.fr hI hf (fun k hk hs=> ?_)⟩;have h1:=hS k hs;have h2:=(j5.block hI hk).1;omega
 ·rintro i v W hi ⟨hB,hI⟩ hE hz;refine (vQ p g hg hI (hB.cell 0) (by omega) (by omega)).mono ?_;rintro e W' ⟨v',rfl,hI',f⟩;refine ⟨v',rfl,⟨hB.fr f (by omega),?_⟩,f⟩;have hi':i<(lB p xs ys).length:=by omega
  rw [apz hi'];have:(lB p xs ys)[i]=p (nn xs i) (nn ys i):=by simp [lB]
  rw [aqa,List.map_singleton,this];exact hI'
 ·rintro _ w3 ⟨v,rfl,⟨hB,hI⟩,hE⟩;refine ⟨_,rfl,?_⟩
  repeat refine o_p Z Z Z ?_
  refine fk <| cn <| ig <| je Z Z ⟨v,rfl,?_,eE.trans hE⟩;rw [← hlen,aqk] at hI;exact j5.weaken hI (by omega)

theorem wN {va vb:Value} {xs ys:List Int} {w:World} (ha:IL w va xs) (hb:IL w vb ys) (hx:xs.length≤1048576) (hy:ys.length≤1048576) :
  Calls Tryz.prog iS #[va,vb] w fun e w'=>∃ v,e = .returned v∧j5 w' w.heap.size fp 1 v (joinL xs ys).length ((joinL xs ys).map (Value.int .i64))∧Ext w w':=by
 refine ub Tryz.func162 Z Z ?_
 repeat (first | refine o_p Z Z Z ?_ | refine on ?_ | refine sr ?_ | refine ss ?_)
 refine jx Z (fu Z) Z <| (Bv max cN Bu ha hb hx hy).mono ?_;rintro _ w1 ⟨v,rfl,hm,hE⟩;refine ⟨_,rfl,?_⟩
 repeat (first | refine o_p Z Z Z ?_ | refine on ?_ | refine sr ?_ | refine ss ?_)
 exact ig (je Z Z ⟨v,rfl,hm,hE⟩)

theorem wO (xs:List Int) (i:Nat):0≤nn xs i:=by unfold nn;omega
theorem Fh (xs:List Int) (r:Int):0≤atL xs r:=by unfold atL;split <;> first | exact wO _ _ | omega

def jP (xs ys:List Int):Bool:=(List.range (max xs.length ys.length)).all fun i=>decide (nn xs i≤nn ys i)
theorem Bw (xs ys:List Int):jP xs ys=true↔∀ i,nn xs i≤nn ys i:=by
 simp only [jP,aqm,aqr,ar6];refine ⟨fun h i=> ?_,fun h i _=>h i⟩;by_cases hi:i<max xs.length ys.length
 ·exact h i hi
 ·rw [yL (by omega),yL (by omega)];omega
def yM (xs:List Int):Nat→Int
 | 0 => 0
 | i + 1 => yM xs i + min (nn xs i) (Kh - yM xs i)
def pZ (xs:List Int):Int:=yM xs xs.length
theorem Fi (q:Int→Int→Bool) (g:FuncId) [Bodied Tryz.prog g] (hg:∀ b x y w,Calls Tryz.prog g #[.bool b,ii x,ii y] w fun e w'=>e = .returned (.bool (b&&q x y))∧w=w')
  {va vb:Value} {xs ys:List Int} {w:World} (ha:IL w va xs) (hb:IL w vb ys) :
  Calls Tryz.prog x5 #[.func (.func nc) ⟨[]⟩ ⟨[kZ w.heap.size,kZ (w.heap.size+1)]⟩,.bool true,.func (.func g) ⟨[]⟩ ⟨[]⟩] ((w.alloc (.cells va.cells iq)).alloc (.cells vb.cells iq))
   fun e w'=>e = .returned (.bool ((List.range (max xs.length ys.length)).all fun i=>q (nn xs i) (nn ys i)))∧Ext w w':=by
 have ca:va.cells = #[va]:=by obtain ⟨A,c,rfl,_⟩:=ha.op;rfl
 have cb:vb.cells = #[vb]:=by obtain ⟨A,c,rfl,_⟩:=hb.op;rfl
 rw [ca,cb];have B1:Blk (w.alloc (.cells #[va] iq)) w.heap.size iq [va]:=Blk.new w _ [va];have e1:Ext w (w.alloc (.cells #[va] iq)):=Fr.alloc _ _;have z1:(w.alloc (.cells #[va] iq)).heap.size=w.heap.size+1:=by simp
 generalize w.alloc (.cells #[va] iq)=w1 at *;have B2:Blk (w1.alloc (.cells #[vb] iq)) w1.heap.size iq [vb]:=Blk.new w1 _ [vb];have e2:Ext w1 (w1.alloc (.cells #[vb] iq)):=Fr.alloc _ _;generalize w1.alloc (.cells #[vb] iq)=w2 at *;have eE:Ext w w2:=e1.trans e2;rw [z1] at B2;refine (sN (fun i v _=>v = .bool ((List.range i).all fun i=>q (nn xs i) (nn ys i))) g [] (.bool true) ((B1.ext e2).cell 0) (B2.cell 0) (ha.ext eE) (hb.ext eE) Z ?_ ?_ ?_).mono ?_
 ·rintro i v W rfl;rfl
 ·rintro i v W W' S rfl _ _;rfl
 ·rintro i v W hi rfl hE hz;refine (hg _ _ _ _).mono ?_;rintro e W' ⟨rfl,rfl⟩;exact ⟨_,rfl,by simp [List.range_succ],Fr.refl _ _⟩
 ·rintro e w3 ⟨v,rfl,rfl,hE⟩;exact ⟨rfl,eE.trans hE⟩

theorem Nw {va vb:Value} {xs ys:List Int} {w:World} (ha:IL w va xs) (hb:IL w vb ys):Calls Tryz.prog yF #[va,vb] w fun e w'=>e = .returned (.bool (jP xs ys))∧Ext w w':=by
 refine ub Tryz.func149 Z Z <| sr <| o_p Z Z Z <| on <| sr <| o_p Z Z Z <| o_p Z Z Z <| jx Z (fu Z) Z <| sM.mono ?_;rintro _ w1 ⟨rfl,rfl⟩;refine ⟨_,rfl,?_⟩;refine jx Z (fu Z) Z <| (Fi (fun x y=>decide (x≤y)) eP Ff ha hb).mono ?_;rintro _ w1 ⟨rfl,e1⟩;refine ⟨_,rfl,?_⟩;refine o_p Z Z Z <| on ?_;exact ig (je Z Z ⟨rfl,e1⟩)
abbrev qn (r n:Int):Value:= .agg #[ii r,ii n]
def lj (xs:List Int) (r n:Int):Bool:=decide (1≤r)&&decide (1≤n)&&decide (n≤atL xs r)

theorem iJ {va:Value} {xs:List Int} {r n:Int} {w:World} (ha:IL w va xs):Calls Tryz.prog kR #[va,qn r n] w fun e w'=>e = .returned (.bool (lj xs r n))∧Ext w w':=by
 refine ub Tryz.func147 Z Z <| er <| df <| fm Z (xp Z) Z ?_;have B:Blk (w.alloc (.cells (qn r n).cells t_api_Dot)) w.heap.size t_api_Dot [ii r,ii n]:=Blk.new w _ _;have e1:Ext w (w.alloc (.cells (qn r n).cells t_api_Dot)):=Fr.alloc _ _;generalize w.alloc (.cells (qn r n).cells t_api_Dot)=w1 at *;have hR:=B.cell 0;have hN:=B.cell 1;refine o_p Z Z Z <| fk <| cn <| er <| sk flo (fun W'=>Ext w1 W') (by decide) (Fr.drew _) <| d_p Z Z Z Z <| iw Z Z (fun W' hW'=>bx Z Z Z (hW'.cell hR)) Z <| d_p Z Z Z Z <| d_p Z Z Z Z ?_;refine Yn 8 Z (fun h1=> ?_) (fun h1=> ?_)
 ·refine d_p Z Z Z Z <| iw Z Z (fun W' hW'=>bx Z Z Z (hW'.cell hN)) Z <| d_p Z Z Z Z <| d_p Z Z Z Z <| d_p Z Z Z Z ?_;refine Yn 13 Z (fun h2=> ?_) (fun h2=> ?_)
  ·refine d_p Z Z Z Z <| iw Z Z (fun W' hW'=>bx Z Z Z (hW'.cell hN)) Z <| d_p Z Z Z Z <| d_p Z Z Z Z <| iw Z Z (fun W' hW'=>bx Z Z Z (hW'.cell hR)) Z <| nq Z Z (fu Z) Z <| (md (ha.ext (e1.trans (Fr.drew _)))).mono ?_;rintro _ w2 ⟨rfl,rfl⟩;refine ⟨_,rfl,Fr.drew _,?_⟩;refine d_p Z Z Z Z <| d_p Z Z Z Z <| d_p Z Z Z Z <| qa <| cn <| ig <| je Z Z ⟨?_,e1.trans (Fr.drew _)⟩;simp [lj,h1,h2]
  ·(iterate 7 refine pT Z Z ?_)
   refine d_p Z Z Z Z <| d_p Z Z Z Z <| qa <| cn <| ig <| je Z Z ⟨?_,e1.trans (Fr.drew _)⟩;simp [lj,h2]
 ·refine pT Z Z <| pT Z Z <| pT Z Z <| d_p Z Z Z Z <| d_p Z Z Z Z ?_
  (iterate 7 refine pT Z Z ?_)
  refine d_p Z Z Z Z <| d_p Z Z Z Z <| qa <| cn <| ig <| je Z Z ⟨?_,e1.trans (Fr.drew _)⟩;simp [lj,h1]

def Bx (xs:List Int) (r:Int):Int × Int:=if r<1∨Kh≤atL xs r then (0,0) else (r,atL xs r+1)

theorem mY {va:Value} {xs:List Int} {r:Int} {w:World} (ha:IL w va xs):Calls Tryz.prog vJ #[va,ii r] w fun e w'=>e = .returned (qn (Bx xs r).1 (Bx xs r).2)∧Ext w w':=by
 refine ub Tryz.func148 Z Z <| er <| df <| fm Z (xq Z) Z ?_;have B:Blk (w.alloc (.cells (qn 0 0).cells t_api_Dot)) w.heap.size t_api_Dot [ii 0,ii 0]:=Blk.new w _ _;have e1:Ext w (w.alloc (.cells (qn 0 0).cells t_api_Dot)):=Fr.alloc _ _;change OW _ _ _ _ _ _ _ _ (w.alloc (.cells (qn 0 0).cells t_api_Dot));have z1:(w.alloc (.cells (qn 0 0).cells t_api_Dot)).heap.size=w.heap.size+1:=by simp
 generalize w.alloc (.cells (qn 0 0).cells t_api_Dot)=w1 at *;refine on <| sr <| o_p Z Z Z <| o_p Z Z Z <| jx Z (fu Z) Z <| (md (ha.ext e1)).mono ?_;rintro _ w2 ⟨rfl,rfl⟩;refine ⟨_,rfl,?_⟩;refine o_p Z Z Z <| on <| sr <| o_p Z Z Z <| o_p Z Z Z <| o_w Z Z Z <| o_b Z Z Z <| fm Z (xq Z) Z ?_;have B2:Blk (w1.alloc (.cells (qn 0 0).cells t_api_Dot)) w1.heap.size t_api_Dot [ii 0,ii 0]:=Blk.new w1 _ _;have e2:Ext w1 (w1.alloc (.cells (qn 0 0).cells t_api_Dot)):=Fr.alloc _ _;change OW _ _ _ _ _ _ _ _ (w1.alloc (.cells (qn 0 0).cells t_api_Dot));have z2:(w1.alloc (.cells (qn 0 0).cells t_api_Dot)).heap.size=w1.heap.size+1:=by simp
 generalize w1.alloc (.cells (qn 0 0).cells t_api_Dot)=w2 at *;have hone:∀ a b:Int,∀ u∈ [Value.int .i64 a,ii b],u.oneCell'=true:=by intro a b u hu;simp at hu;rcases hu with rfl | rfl <;> rfl
 refine cI Z (uk (vs:= [ii r,ii (IntKind.i64.wrap (atL xs r+1))]) Z Z Z Z Z (hone _ _) B2 Z) ?_;have B3:=B2.setRow (ds:=spl [ii 0,ii 0] 0 [ii r,ii (IntKind.i64.wrap (atL xs r+1))]);have f3:=Fr.setRow w2 w1.heap.size (spl [ii 0,ii 0] 0 [ii r,ii (IntKind.i64.wrap (atL xs r+1))]).toArray;generalize World.setRow w2 _ _=w3 at *;have e3:Ext w w3:=(e1.trans e2).trans' f3 (fun j hj h=>by omega);have B':=(B.ext e2).fr f3 (by omega);refine on <| ss <| sr <| o_p Z Z Z <| o_p Z Z Z <| o_p Z Z Z ?_;refine Yi 16 Z (fun h1=> ?_) (fun h1=> ?_)
 ·refine wx Z Z <| wx Z Z <| o_p Z Z Z <| on <| xd Z <| sr <| o_b Z Z Z <| cI Z (uk (vs:= [ii 0,ii 0]) Z Z Z Z Z (hone _ _) B' Z) ?_;refine (fk (cn (ig (jt (fY Z Z Z Z Z (B'.setRow) ⟨?_,?_⟩)))))
  ·simp [Bx,h1,spl]
  ·exact e3.trans' (Fr.setRow _ _ _) (fun j hj h=>by omega)
 ·refine o_p Z Z Z <| o_p Z Z Z <| o_p Z Z Z ?_;refine on (zp Z (fun h2=> ?_) (fun h2=> ?_))
  ·refine sr <| o_b Z Z Z <| cI Z (uk (vs:= [ii 0,ii 0]) Z Z Z Z Z (hone _ _) B' Z) ?_;refine (fk (cn (ig (jt (fY Z Z Z Z Z (B'.setRow) ⟨?_,?_⟩)))))
   ·have:Kh≤atL xs r:=h2;simp [Bx,this,spl]
   ·exact e3.trans' (Fr.setRow _ _ _) (fun j hj h=>by omega)
  ·refine lu <| cn <| er <| df ?_;refine fm Z (di (cs:= [ii r,ii (IntKind.i64.wrap (atL xs r+1))]) Z Z Z Z (fun j _=>by rw [aqy];exact B3.cell j)) Z ?_;refine cI Z (uk (vs:= [ii r,ii (IntKind.i64.wrap (atL xs r+1))]) Z Z Z Z Z (hone _ _) B' Z) ?_;refine (fk (cn (ig (fY Z Z Z Z Z (B'.setRow) ⟨?_,?_⟩))))
   ·have h3:¬ Kh≤atL xs r:=h2;have h4:IntKind.i64.wrap (atL xs r+1)=atL xs r+1:=I64.wrap (by have:=Fh xs r;unfold Kh at h3;unfold I64;omega);simp [Bx,h1,h3,h4,spl]
   ·exact e3.trans' (Fr.setRow _ _ _) (fun j hj h=>by omega)

end Go.Proofs.YtbfailbgdnpaiaaGreatDoor
