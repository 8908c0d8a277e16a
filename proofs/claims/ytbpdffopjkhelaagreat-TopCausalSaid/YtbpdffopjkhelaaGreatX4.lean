/- The types and the functions of this seat's program, as the engine asks for them: laid by a program (seatgen.py) out of the translation. Conditions: none. -/
import Derived.Test.YtbpdffopjkhelaaGreatChecked
import Derived.Test.YtbpdffopjkhelaaGreatX2
import Derived.KernelRfl
set_option maxRecDepth 20000
set_option maxHeartbeats 8000000
namespace Go.Proofs.YtbpdffopjkhelaaGreat
open Go.Eng
abbrev sG:Value:= .string ⟨⟨[]⟩⟩
def ti1:TI:=⟨.func #[] #[] false,1,8,.nilFunc,[]⟩
def ti2:TI:=⟨.int .i64,1,8,ii 0,[]⟩
def ti3:TI:=ti2
def ti4:TI:=⟨.bool,1,1,.bool false,[]⟩
def ti5:TI:=⟨.int .u8,1,1,.int .u8 0,[]⟩
def ti6:TI:=ti5
def ti7:TI:=⟨.struct #[],4,24,.agg ⟨[ii 0,ii 0,.bool false,.int .u8 0]⟩,[(2,0),(3,1),(4,2),(6,3)]⟩
def ti8:TI:=ti7
def ti9:TI:=⟨.string,1,16,sG,[]⟩
def aky:TI:=ti9
def akz:TI:=ti9
def So:TI:=⟨.int .u64,1,8,.int .u64 0,[]⟩
def aat:TI:=⟨.struct #[],2,24,.agg ⟨[sG,.int .u64 0]⟩,[(9,0),(12,1)]⟩
def ak0:TI:=aat
def ak1:TI:=⟨.pointer 402,1,8,.pointer none,[]⟩
def ak2:TI:=⟨.pointer 405,1,8,.pointer none,[]⟩
def ak3:TI:=⟨.pointer 413,1,8,.pointer none,[]⟩
def aau:TI:=⟨.struct #[],1,8,.agg ⟨[.pointer none]⟩,[(17,0)]⟩
def ak4:TI:=aau
def Sp:TI:=⟨.int .i32,1,4,.int .i32 0,[]⟩
def ak5:TI:=⟨.slice 36,1,24,.slice none 0 0,[]⟩
def ak6:TI:=⟨.slice 37,1,24,.slice none 0 0,[]⟩
def ak7:TI:=⟨.slice 3,1,24,.slice none 0 0,[]⟩
def ak8:TI:=⟨.func #[] #[4] false,1,8,.nilFunc,[]⟩
def ak9:TI:=⟨.func #[22,3] #[4] false,1,8,.nilFunc,[]⟩
def ala:TI:=⟨.func #[23,3,3] #[4] false,1,8,.nilFunc,[]⟩
def alb:TI:=ti2
def alc:TI:=⟨.func #[22,3] #[28] false,1,8,.nilFunc,[]⟩
def aav:TI:=⟨.struct #[],2,16,.agg ⟨[ii 0,ii 0]⟩,[(3,0),(3,1)]⟩
def ald:TI:=aav
def aaw:TI:=⟨.array 32 5,32,32,.agg ⟨List.replicate 32 (.int .u8 0)⟩,[]⟩
def ale:TI:=aaw
def alf:TI:=⟨.slice 33,1,24,.slice none 0 0,[]⟩
def Yi:TI:=⟨.struct #[],39,136,.agg ⟨[ii 0,ii 0,.slice none 0 0,ii 0,sG,sG]++List.replicate 32 (.int .u8 0) ++ [.slice none 0 0]⟩,[(31,0),(24,2),(3,3),(9,4),(9,5),(33,6),(34,38)]⟩
def alg:TI:=Yi
def alh:TI:=⟨.slice 5,1,24,.slice none 0 0,[]⟩
def ali:TI:=⟨.func #[23,33,3] #[37,4] false,1,8,.nilFunc,[]⟩
def alj:TI:=⟨.pointer 85,1,8,.pointer none,[]⟩
def alk:TI:=⟨.func #[3] #[40,28] false,1,8,.nilFunc,[]⟩
def alm:TI:=⟨.pointer 88,1,8,.pointer none,[]⟩
def aln:TI:=⟨.func #[3,3] #[43,28] false,1,8,.nilFunc,[]⟩
def alo:TI:=⟨.pointer 93,1,8,.pointer none,[]⟩
def alp:TI:=⟨.func #[40,43,89] #[46,28] false,1,8,.nilFunc,[]⟩
def alq:TI:=⟨.slice 149,1,24,.slice none 0 0,[]⟩
def aax:TI:=⟨.struct #[],2,48,.agg ⟨[.slice none 0 0,.slice none 0 0]⟩,[(24,0),(49,1)]⟩
def alr:TI:=aax
def als:TI:=⟨.func #[3] #[51,28] false,1,8,.nilFunc,[]⟩
def alt:TI:=⟨.func #[3,3] #[3] false,1,8,.nilFunc,[]⟩
def alu:TI:=⟨.func #[36,3] #[4,28] false,1,8,.nilFunc,[]⟩
def alv:TI:=⟨.func #[31,33,37] #[4,28] false,1,8,.nilFunc,[]⟩
def alw:TI:=⟨.func #[] #[22] false,1,8,.nilFunc,[]⟩
def alx:TI:=⟨.func #[51,36] #[51,28] false,1,8,.nilFunc,[]⟩
def aly:TI:=⟨.func #[22,3] #[51,28] false,1,8,.nilFunc,[]⟩
def alz:TI:=⟨.func #[22,24] #[22] false,1,8,.nilFunc,[]⟩
def al0:TI:=⟨.func #[] #[24] false,1,8,.nilFunc,[]⟩
def al1:TI:=⟨.func #[51,51] #[4] false,1,8,.nilFunc,[]⟩
def al2:TI:=⟨.func #[24,24] #[4] false,1,8,.nilFunc,[]⟩
def al3:TI:=⟨.func #[22,23,3,3,24] #[4] false,1,8,.nilFunc,[]⟩
def al4:TI:=⟨.func #[37] #[33] false,1,8,.nilFunc,[]⟩
def al5:TI:=⟨.func #[51] #[37,28] false,1,8,.nilFunc,[]⟩
def aay:TI:=⟨.struct #[],2,16,.agg ⟨[ii 0,ii 0]⟩,[(28,0),(3,1)]⟩
def al6:TI:=aay
def al7:TI:=⟨.func #[37] #[51,70] false,1,8,.nilFunc,[]⟩
def al8:TI:=⟨.func #[34,34] #[4] false,1,8,.nilFunc,[]⟩
def al9:TI:=⟨.func #[51,9,9] #[34] false,1,8,.nilFunc,[]⟩
def ama:TI:=⟨.func #[36] #[4] false,1,8,.nilFunc,[]⟩
def amb:TI:=⟨.map 31 36,1,8,.map none,[]⟩
def amc:TI:=⟨.func #[36,3] #[28] false,1,8,.nilFunc,[]⟩
def amd:TI:=⟨.func #[37,3] #[33,28] false,1,8,.nilFunc,[]⟩
def ame:TI:=⟨.map 31 191,1,8,.map none,[]⟩
def aaz:TI:=⟨.slice 191,1,24,.slice none 0 0,[]⟩
def amf:TI:=aaz
def aa0:TI:=⟨.struct #[],3,56,.agg ⟨[.slice none 0 0,.slice none 0 0,.map none]⟩,[(24,0),(83,1),(81,2)]⟩
def amg:TI:=aa0
def amh:TI:=⟨.map 33 207,1,8,.map none,[]⟩
def aa1:TI:=⟨.struct #[],4,32,.agg ⟨[ii 0,ii 0,ii 0,.map none]⟩,[(3,0),(3,1),(3,2),(86,3)]⟩
def ami:TI:=aa1
def amj:TI:=⟨.slice 95,1,24,.slice none 0 0,[]⟩
def amk:TI:=⟨.func #[] #[3] false,1,8,.nilFunc,[]⟩
def aml:TI:=⟨.map 31 101,1,8,.map none,[]⟩
def aa2:TI:=⟨.struct #[],3,24,.agg ⟨[.pointer none,.pointer none,.map none]⟩,[(40,0),(43,1),(91,2)]⟩
def amm:TI:=aa2
def aa3:TI:=⟨.struct #[],3,40,.agg ⟨[ii 0,ii 0,.slice none 0 0]⟩,[(31,0),(34,2)]⟩
def amn:TI:=aa3
def aa4:TI:=⟨.struct #[],40,144,.agg ⟨[ii 0,ii 0,.slice none 0 0,ii 0,sG,sG]++List.replicate 32 (.int .u8 0) ++ [.slice none 0 0,ii 0]⟩,[(36,0),(3,39)]⟩
def amo:TI:=aa4
def amp:TI:=⟨.func #[31] #[97,4] false,1,8,.nilFunc,[]⟩
def Vv:TI:=⟨.struct #[],1,24,.agg ⟨[.slice none 0 0]⟩,[(34,0)]⟩
def aa5:TI:=Vv
def aa6:TI:=⟨.func #[34,33] #[4] false,1,8,.nilFunc,[]⟩
def aa7:TI:=⟨.func #[33] #[4] false,1,8,.nilFunc,[]⟩
def aa8:TI:=⟨.func #[33] #[3,4] false,1,8,.nilFunc,[]⟩
def aa9:TI:=⟨.func #[34] #[4] false,1,8,.nilFunc,[]⟩
def aba:TI:=⟨.func #[34,104] #[4] false,1,8,.nilFunc,[]⟩
def abb:TI:=⟨.func #[34] #[34] false,1,8,.nilFunc,[]⟩
def abc:TI:=⟨.func #[36,3,3] #[28] false,1,8,.nilFunc,[]⟩
def abd:TI:=⟨.func #[33,37] #[4,28] false,1,8,.nilFunc,[]⟩
def abe:TI:=⟨.func #[34,33,113] #[3,4] false,1,8,.nilFunc,[]⟩
def abf:TI:=⟨.func #[33,33] #[3] false,1,8,.nilFunc,[]⟩
def abg:TI:=⟨.func #[34,3,34] #[34] true,1,8,.nilFunc,[]⟩
def abh:TI:=⟨.slice 31,1,24,.slice none 0 0,[]⟩
def abi:TI:=⟨.func #[] #[115] false,1,8,.nilFunc,[]⟩
def abj:TI:=⟨.func #[115,118] #[3] false,1,8,.nilFunc,[]⟩
def abk:TI:=⟨.func #[31] #[4] false,1,8,.nilFunc,[]⟩
def abl:TI:=⟨.func #[31] #[36,28] false,1,8,.nilFunc,[]⟩
def abm:TI:=⟨.func #[51] #[28] false,1,8,.nilFunc,[]⟩
def abn:TI:=⟨.func #[51,36] #[28] false,1,8,.nilFunc,[]⟩
def abo:TI:=⟨.pointer 126,1,8,.pointer none,[]⟩
def abp:TI:=⟨.func #[51] #[51] false,1,8,.nilFunc,[]⟩
def Vw:TI:=⟨.struct #[],2,48,.agg ⟨[.slice none 0 0,.slice none 0 0]⟩,[(51,0)]⟩
def abq:TI:=Vw
def abr:TI:=⟨.func #[36] #[] false,1,8,.nilFunc,[]⟩
def abt:TI:=⟨.array 5 127,5,40,.agg ⟨List.replicate 5 (.nilFunc)⟩,[]⟩
def abu:TI:=⟨.func #[24,31] #[24] false,1,8,.nilFunc,[]⟩
def abv:TI:=⟨.map 134 131,1,8,.map none,[]⟩
def abw:TI:=⟨.slice 231,1,24,.slice none 0 0,[]⟩
def abx:TI:=⟨.func #[22,9,9] #[131] false,1,8,.nilFunc,[]⟩
def Vx:TI:=⟨.struct #[],3,40,.agg ⟨[sG,sG,.bool false]⟩,[(9,0),(9,1),(4,2)]⟩
def aby:TI:=Vx
def abz:TI:=⟨.func #[22,9] #[131] false,1,8,.nilFunc,[]⟩
def ab0:TI:=⟨.func #[130,137] #[] false,1,8,.nilFunc,[]⟩
def ab1:TI:=⟨.func #[134,131] #[4] false,1,8,.nilFunc,[]⟩
def ab2:TI:=⟨.func #[22,3] #[24] false,1,8,.nilFunc,[]⟩
def ab3:TI:=⟨.slice 134,1,24,.slice none 0 0,[]⟩
def ab4:TI:=⟨.func #[142,146] #[139] false,1,8,.nilFunc,[]⟩
def Vy:TI:=⟨.func #[247] #[] false,1,8,.nilFunc,[]⟩
def ab5:TI:=Vy
def ab6:TI:=⟨.func #[130] #[142] false,1,8,.nilFunc,[]⟩
def ab7:TI:=⟨.func #[24] #[3] true,1,8,.nilFunc,[]⟩
def ab8:TI:=⟨.func #[9,9] #[3] false,1,8,.nilFunc,[]⟩
def ab9:TI:=⟨.func #[134,134] #[3] false,1,8,.nilFunc,[]⟩
def aca:TI:=⟨.slice 152,1,24,.slice none 0 0,[]⟩
def Vz:TI:=⟨.struct #[],3,64,.agg ⟨[sG,.slice none 0 0,.slice none 0 0]⟩,[(9,0),(147,1),(131,2)]⟩
def acb:TI:=Vz
def acd:TI:=⟨.pointer 149,1,8,.pointer none,[]⟩
def V0:TI:=⟨.struct #[],2,40,.agg ⟨[sG,.slice none 0 0]⟩,[(9,0),(131,1)]⟩
def ace:TI:=V0
def acf:TI:=⟨.func #[22] #[22] false,1,8,.nilFunc,[]⟩
def acg:TI:=⟨.func #[22,75] #[22] false,1,8,.nilFunc,[]⟩
def ach:TI:=⟨.func #[24,31] #[4] false,1,8,.nilFunc,[]⟩
def aci:TI:=⟨.func #[24] #[24] false,1,8,.nilFunc,[]⟩
def acj:TI:=⟨.func #[131,131] #[4] false,1,8,.nilFunc,[]⟩
def ack:TI:=⟨.pointer 260,1,8,.pointer none,[]⟩
def acl:TI:=⟨.func #[] #[158] false,1,8,.nilFunc,[]⟩
def acm:TI:=⟨.func #[37] #[28] false,1,8,.nilFunc,[]⟩
def acn:TI:=⟨.func #[] #[33,28] false,1,8,.nilFunc,[]⟩
def aco:TI:=⟨.pointer 267,1,8,.pointer none,[]⟩
def acp:TI:=⟨.func #[3] #[162,28] false,1,8,.nilFunc,[]⟩
def acq:TI:=⟨.func #[24] #[28] false,1,8,.nilFunc,[]⟩
def acr:TI:=⟨.func #[3] #[28] false,1,8,.nilFunc,[]⟩
def acs:TI:=⟨.func #[9] #[28] false,1,8,.nilFunc,[]⟩
def act:TI:=⟨.func #[162,131] #[] false,1,8,.nilFunc,[]⟩
def acu:TI:=⟨.func #[] #[37,28] false,1,8,.nilFunc,[]⟩
def acv:TI:=⟨.pointer 272,1,8,.pointer none,[]⟩
def acw:TI:=⟨.func #[37] #[170] false,1,8,.nilFunc,[]⟩
def acx:TI:=⟨.pointer 174,1,8,.pointer none,[]⟩
def V3:TI:=⟨.struct #[],4,32,.agg ⟨[.pointer none,ii 0,ii 0,ii 0]⟩,[(170,0),(3,1),(70,2)]⟩
def acy:TI:=V3
def acz:TI:=⟨.func #[3] #[24] false,1,8,.nilFunc,[]⟩
def ac0:TI:=⟨.func #[1] #[] false,1,8,.nilFunc,[]⟩
def ac1:TI:=⟨.func #[3] #[9] false,1,8,.nilFunc,[]⟩
def ac2:TI:=⟨.func #[] #[131] false,1,8,.nilFunc,[]⟩
def ac3:TI:=⟨.func #[] #[70] false,1,8,.nilFunc,[]⟩
def ac4:TI:=⟨.func #[131] #[34] false,1,8,.nilFunc,[]⟩
def ac5:TI:=⟨.func #[51,9,9] #[131] false,1,8,.nilFunc,[]⟩
def ac6:TI:=⟨.func #[3] #[4] false,1,8,.nilFunc,[]⟩
def ac7:TI:=⟨.func #[24,182] #[4] false,1,8,.nilFunc,[]⟩
def ac8:TI:=⟨.func #[9] #[70] false,1,8,.nilFunc,[]⟩
def ac9:TI:=⟨.func #[187,4,189] #[4] false,1,8,.nilFunc,[]⟩
def V4:TI:=⟨.func #[296] #[] false,1,8,.nilFunc,[]⟩
def ada:TI:=V4
def adb:TI:=⟨.func #[24,24] #[187] false,1,8,.nilFunc,[]⟩
def adc:TI:=⟨.func #[4,3,3] #[4] false,1,8,.nilFunc,[]⟩
def ade:TI:=⟨.func #[33,3] #[33,28] false,1,8,.nilFunc,[]⟩
def adf:TI:=⟨.pointer 97,1,8,.pointer none,[]⟩
def adg:TI:=⟨.func #[97] #[97] false,1,8,.nilFunc,[]⟩
def adh:TI:=⟨.func #[34,33] #[3] false,1,8,.nilFunc,[]⟩
def adi:TI:=⟨.func #[33] #[37,4] false,1,8,.nilFunc,[]⟩
def adj:TI:=⟨.func #[34,113] #[4] false,1,8,.nilFunc,[]⟩
def adk:TI:=⟨.func #[34,104] #[3] false,1,8,.nilFunc,[]⟩
def adl:TI:=⟨.func #[36,3] #[4] false,1,8,.nilFunc,[]⟩
def adm:TI:=⟨.func #[33,3] #[28] false,1,8,.nilFunc,[]⟩
def V5:TI:=⟨.struct #[],3,24,.agg ⟨[.nilFunc,.nilFunc,.bool false]⟩,[(167,0),(199,1),(4,2)]⟩
def adn:TI:=V5
def ado:TI:=⟨.array 4 201,12,96,.agg ⟨[.nilFunc,.nilFunc,.bool false,.nilFunc,.nilFunc,.bool false,.nilFunc,.nilFunc,.bool false,.nilFunc,.nilFunc,.bool false]⟩,[]⟩
def adp:TI:=⟨.func #[] #[202] false,1,8,.nilFunc,[]⟩
def adq:TI:=⟨.func #[36,4,3] #[28] false,1,8,.nilFunc,[]⟩
def adr:TI:=⟨.array 3 28,3,24,.agg ⟨[ii 0,ii 0,ii 0]⟩,[]⟩
def ads:TI:=⟨.func #[97] #[] false,1,8,.nilFunc,[]⟩
def adt:TI:=⟨.pointer 213,1,8,.pointer none,[]⟩
def adu:TI:=⟨.func #[4,28] #[28] false,1,8,.nilFunc,[]⟩
def adw:TI:=⟨.func #[] #[28] false,1,8,.nilFunc,[]⟩
def adx:TI:=⟨.func #[37,37] #[4] false,1,8,.nilFunc,[]⟩
def V6:TI:=⟨.struct #[],1,24,.agg ⟨[.slice none 0 0]⟩,[(37,0)]⟩
def ady:TI:=V6
def adz:TI:=⟨.slice 210,1,24,.slice none 0 0,[]⟩
def ad0:TI:=⟨.func #[37] #[37] false,1,8,.nilFunc,[]⟩
def ad1:TI:=So
def ad2:TI:=⟨.func #[37,37] #[3] false,1,8,.nilFunc,[]⟩
def ad3:TI:=⟨.func #[34,3] #[] false,1,8,.nilFunc,[]⟩
def ad4:TI:=⟨.func #[] #[82] false,1,8,.nilFunc,[]⟩
def ad5:TI:=⟨.func #[191] #[4] false,1,8,.nilFunc,[]⟩
def ad6:TI:=⟨.func #[303,3] #[20] false,1,8,.nilFunc,[]⟩
def ad7:TI:=⟨.pointer 83,1,8,.pointer none,[]⟩
def ad8:TI:=⟨.func #[83,191] #[3] false,1,8,.nilFunc,[]⟩
def ad9:TI:=⟨.func #[24] #[3] false,1,8,.nilFunc,[]⟩
def aea:TI:=⟨.func #[152] #[4] false,1,8,.nilFunc,[]⟩
def aeb:TI:=⟨.func #[147,225] #[4] false,1,8,.nilFunc,[]⟩
def aec:TI:=⟨.func #[51] #[4] false,1,8,.nilFunc,[]⟩
def aed:TI:=⟨.func #[24,3] #[31] false,1,8,.nilFunc,[]⟩
def aee:TI:=⟨.func #[131] #[131] false,1,8,.nilFunc,[]⟩
def V7:TI:=⟨.struct #[],34,48,.agg ⟨[ii 0,ii 0]++List.replicate 32 (.int .u8 0)⟩,[(31,0),(33,2)]⟩
def aef:TI:=V7
def aeg:TI:=⟨.func #[9] #[150] false,1,8,.nilFunc,[]⟩
def aeh:TI:=⟨.func #[131,231] #[131] false,1,8,.nilFunc,[]⟩
def aei:TI:=⟨.func #[131,36,235] #[131] false,1,8,.nilFunc,[]⟩
def aej:TI:=⟨.func #[231] #[4] false,1,8,.nilFunc,[]⟩
def aek:TI:=⟨.pointer 152,1,8,.pointer none,[]⟩
def ael:TI:=⟨.func #[9,9] #[236] false,1,8,.nilFunc,[]⟩
def aem:TI:=⟨.func #[147,225] #[147] false,1,8,.nilFunc,[]⟩
def aen:TI:=⟨.func #[49,240] #[49] false,1,8,.nilFunc,[]⟩
def aeo:TI:=⟨.func #[149] #[4] false,1,8,.nilFunc,[]⟩
def aep:TI:=⟨.func #[24,24] #[24] false,1,8,.nilFunc,[]⟩
def aeq:TI:=⟨.func #[24,3] #[3] false,1,8,.nilFunc,[]⟩
def aer:TI:=⟨.func #[22,75,244] #[131] false,1,8,.nilFunc,[]⟩
def aes:TI:=⟨.func #[36,36] #[4] false,1,8,.nilFunc,[]⟩
def aet:TI:=⟨.func #[142] #[139] false,1,8,.nilFunc,[]⟩
def aeu:TI:=⟨.func #[139,146] #[] false,1,8,.nilFunc,[]⟩
def aev:TI:=⟨.func #[134] #[4] false,1,8,.nilFunc,[]⟩
def aew:TI:=⟨.func #[9] #[4] false,1,8,.nilFunc,[]⟩
def aex:TI:=⟨.slice 250,1,24,.slice none 0 0,[]⟩
def aey:TI:=Yi
def aez:TI:=⟨.func #[249,252] #[] false,1,8,.nilFunc,[]⟩
def ae0:TI:=⟨.func #[250,250] #[3] false,1,8,.nilFunc,[]⟩
def ae1:TI:=⟨.func #[250] #[3] false,1,8,.nilFunc,[]⟩
def ae2:TI:=⟨.func #[22,75] #[3] false,1,8,.nilFunc,[]⟩
def ae3:TI:=⟨.int .u32,1,4,.int .u32 0,[]⟩
def V8:TI:=⟨.array 8 255,8,32,.agg ⟨List.replicate 8 (.int .u32 0)⟩,[]⟩
def ae4:TI:=V8
def ae5:TI:=⟨.func #[] #[257] false,1,8,.nilFunc,[]⟩
def V9:TI:=⟨.struct #[],11,72,.agg ⟨List.replicate 8 (.int .u32 0) ++ [.slice none 0 0,ii 0,.bool false]⟩,[(257,0),(37,8),(3,9),(4,10)]⟩
def ae6:TI:=V9
def ae7:TI:=⟨.func #[37] #[] false,1,8,.nilFunc,[]⟩
def ae8:TI:=So
def ae9:TI:=⟨.pointer 265,1,8,.pointer none,[]⟩
def Wa:TI:=⟨.struct #[],2,16,.agg ⟨[ii 0,ii 0]⟩,[(70,0)]⟩
def afa:TI:=Wa
def Wb:TI:=⟨.struct #[],3,40,.agg ⟨[.pointer none,ii 0,.slice none 0 0]⟩,[(263,0),(3,1),(37,2)]⟩
def afb:TI:=Wb
def afc:TI:=⟨.func #[20] #[28] false,1,8,.nilFunc,[]⟩
def afd:TI:=⟨.func #[31] #[28] false,1,8,.nilFunc,[]⟩
def afe:TI:=⟨.func #[33] #[28] false,1,8,.nilFunc,[]⟩
def Wc:TI:=⟨.struct #[],3,40,.agg ⟨[.pointer none,.slice none 0 0,ii 0]⟩,[(263,0),(37,1),(3,2)]⟩
def aff:TI:=Wc
def afg:TI:=⟨.func #[3] #[3] false,1,8,.nilFunc,[]⟩
def afh:TI:=⟨.func #[3] #[37] false,1,8,.nilFunc,[]⟩
def afi:TI:=⟨.func #[] #[31] false,1,8,.nilFunc,[]⟩
def afj:TI:=⟨.func #[] #[33] false,1,8,.nilFunc,[]⟩
def afk:TI:=⟨.map 33 278,1,8,.map none,[]⟩
def afl:TI:=⟨.struct #[],0,0,.agg ⟨[]⟩,[]⟩
def afm:TI:=⟨.func #[34,113] #[] false,1,8,.nilFunc,[]⟩
def afn:TI:=⟨.func #[51,9] #[149] false,1,8,.nilFunc,[]⟩
def afo:TI:=⟨.func #[24,182] #[3] false,1,8,.nilFunc,[]⟩
def afp:TI:=⟨.func #[9,3] #[70,4] false,1,8,.nilFunc,[]⟩
def afq:TI:=⟨.func #[9,286,28] #[70] false,1,8,.nilFunc,[]⟩
def afr:TI:=⟨.pointer 295,1,8,.pointer none,[]⟩
def Wd:TI:=⟨.struct #[],1,8,.agg ⟨[ii 0]⟩,[(3,0)]⟩
def afs:TI:=Wd
def afu:TI:=⟨.func #[] #[286] false,1,8,.nilFunc,[]⟩
def afv:TI:=Sp
def afw:TI:=⟨.func #[292] #[286] false,1,8,.nilFunc,[]⟩
def afx:TI:=⟨.func #[290] #[4] false,1,8,.nilFunc,[]⟩
def afy:TI:=⟨.func #[290] #[286] false,1,8,.nilFunc,[]⟩
def Wf:TI:=⟨.struct #[],2,16,.agg ⟨[.nilFunc,.bool false]⟩,[(293,0),(4,1)]⟩
def afz:TI:=Wf
def af0:TI:=⟨.func #[3,3] #[4] false,1,8,.nilFunc,[]⟩
def af1:TI:=⟨.func #[33,3] #[4] false,1,8,.nilFunc,[]⟩
def af2:TI:=⟨.func #[24,3] #[4] false,1,8,.nilFunc,[]⟩
def af3:TI:=⟨.func #[303,20] #[] false,1,8,.nilFunc,[]⟩
def af4:TI:=⟨.func #[83] #[83] false,1,8,.nilFunc,[]⟩
def af5:TI:=⟨.func #[303] #[20] false,1,8,.nilFunc,[]⟩
def af6:TI:=⟨.func #[3,3] #[] false,1,8,.nilFunc,[]⟩
def af7:TI:=⟨.func #[303,3,3] #[4] false,1,8,.nilFunc,[]⟩
def af8:TI:=⟨.func #[303,3] #[] false,1,8,.nilFunc,[]⟩
def af9:TI:=⟨.func #[] #[20] false,1,8,.nilFunc,[]⟩
def aga:TI:=⟨.func #[147,225] #[3] false,1,8,.nilFunc,[]⟩
def agb:TI:=⟨.func #[149,149] #[3] false,1,8,.nilFunc,[]⟩
def agc:TI:=⟨.func #[152,152] #[3] false,1,8,.nilFunc,[]⟩
def agd:TI:=⟨.func #[49,309] #[4] false,1,8,.nilFunc,[]⟩
def age:TI:=⟨.func #[147,310] #[4] false,1,8,.nilFunc,[]⟩
def agf:TI:=⟨.map 31 278,1,8,.map none,[]⟩
def agh:TI:=⟨.func #[51,317] #[4] false,1,8,.nilFunc,[]⟩
def agi:TI:=⟨.func #[131,316] #[4] false,1,8,.nilFunc,[]⟩
def agj:TI:=⟨.func #[231,231] #[3] false,1,8,.nilFunc,[]⟩
def agk:TI:=⟨.func #[9,9,4,131] #[4] false,1,8,.nilFunc,[]⟩
def agl:TI:=⟨.func #[49,9,319] #[3,4] false,1,8,.nilFunc,[]⟩
def agm:TI:=⟨.func #[149,9] #[3] false,1,8,.nilFunc,[]⟩
def agn:TI:=⟨.func #[49,3,49] #[49] true,1,8,.nilFunc,[]⟩
def ago:TI:=⟨.func #[131,231,316] #[3,4] false,1,8,.nilFunc,[]⟩
def agp:TI:=⟨.func #[131,3,131] #[131] true,1,8,.nilFunc,[]⟩
def agq:TI:=⟨.func #[131,235] #[131] false,1,8,.nilFunc,[]⟩
def agr:TI:=⟨.func #[147,9,325] #[3,4] false,1,8,.nilFunc,[]⟩
def ags:TI:=⟨.func #[152,9] #[3] false,1,8,.nilFunc,[]⟩
def agt:TI:=⟨.func #[147,3,147] #[147] true,1,8,.nilFunc,[]⟩
def agu:TI:=⟨.func #[49,240] #[3] false,1,8,.nilFunc,[]⟩
def agv:TI:=⟨.func #[24,24,54] #[24] false,1,8,.nilFunc,[]⟩
def agw:TI:=⟨.func #[22,75] #[4] false,1,8,.nilFunc,[]⟩
def agx:TI:=⟨.func #[22,332] #[] false,1,8,.nilFunc,[]⟩
def agy:TI:=⟨.func #[31,31] #[3] false,1,8,.nilFunc,[]⟩
def agz:TI:=⟨.func #[36,36] #[3] false,1,8,.nilFunc,[]⟩
def ag0:TI:=⟨.func #[139,142] #[139] false,1,8,.nilFunc,[]⟩
def ag1:TI:=⟨.func #[139,3,3,3,146] #[] false,1,8,.nilFunc,[]⟩
def ag2:TI:=⟨.func #[216] #[3] false,1,8,.nilFunc,[]⟩
def ag3:TI:=⟨.func #[249,3,252] #[] false,1,8,.nilFunc,[]⟩
def ag4:TI:=⟨.pointer 257,1,8,.pointer none,[]⟩
def ag5:TI:=⟨.array 64 255,64,256,.agg ⟨List.replicate 64 (.int .u32 0)⟩,[]⟩
def ag6:TI:=⟨.func #[] #[338] false,1,8,.nilFunc,[]⟩
def ag7:TI:=⟨.func #[37] #[338] false,1,8,.nilFunc,[]⟩
def ag8:TI:=⟨.func #[255,3] #[255] false,1,8,.nilFunc,[]⟩
def ag9:TI:=⟨.func #[37,20] #[37,4] false,1,8,.nilFunc,[]⟩
def aha:TI:=⟨.func #[28,3] #[] false,1,8,.nilFunc,[]⟩
def ahb:TI:=⟨.func #[3,3] #[37] false,1,8,.nilFunc,[]⟩
def ahc:TI:=⟨.func #[34,3,3,3,113] #[] false,1,8,.nilFunc,[]⟩
def ahd:TI:=⟨.func #[20] #[] false,1,8,.nilFunc,[]⟩
def ahe:TI:=⟨.func #[34] #[] false,1,8,.nilFunc,[]⟩
def ahf:TI:=⟨.func #[49,49] #[4] false,1,8,.nilFunc,[]⟩
def ahg:TI:=⟨.func #[49,3] #[] false,1,8,.nilFunc,[]⟩
def ahh:TI:=⟨.func #[131,3] #[] false,1,8,.nilFunc,[]⟩
def ahi:TI:=⟨.func #[131,235] #[3] false,1,8,.nilFunc,[]⟩
def ahj:TI:=⟨.func #[147,147] #[4] false,1,8,.nilFunc,[]⟩
def ahk:TI:=⟨.func #[147,3] #[] false,1,8,.nilFunc,[]⟩
def ahl:TI:=⟨.func #[187,24,355] #[24] false,1,8,.nilFunc,[]⟩
def ahm:TI:=⟨.func #[24,3,3] #[24] false,1,8,.nilFunc,[]⟩
def ahn:TI:=⟨.func #[22,3,3,3,332] #[] false,1,8,.nilFunc,[]⟩
def aho:TI:=⟨.func #[139,3,3,146] #[] false,1,8,.nilFunc,[]⟩
def ahp:TI:=ti2
def ahq:TI:=⟨.func #[139,3,3,146] #[3,358] false,1,8,.nilFunc,[]⟩
def ahr:TI:=⟨.func #[139,3,3,146] #[4] false,1,8,.nilFunc,[]⟩
def ahs:TI:=⟨.func #[139,3,3,3,146] #[3] false,1,8,.nilFunc,[]⟩
def aht:TI:=⟨.func #[139,3,3,3,146] #[3,4] false,1,8,.nilFunc,[]⟩
def ahu:TI:=⟨.func #[255] #[3] false,1,8,.nilFunc,[]⟩
def ahv:TI:=⟨.func #[262] #[3] false,1,8,.nilFunc,[]⟩
def ahw:TI:=⟨.func #[249,3,3,252] #[] false,1,8,.nilFunc,[]⟩
def ahx:TI:=⟨.func #[249,3,3,3,252] #[] false,1,8,.nilFunc,[]⟩
def ahy:TI:=⟨.func #[31,24,31,24] #[4] false,1,8,.nilFunc,[]⟩
def ahz:TI:=⟨.func #[34,3,3,113] #[] false,1,8,.nilFunc,[]⟩
def ah0:TI:=⟨.func #[34,3,3,113] #[3,358] false,1,8,.nilFunc,[]⟩
def ah1:TI:=⟨.func #[34,3,3,113] #[4] false,1,8,.nilFunc,[]⟩
def ah2:TI:=⟨.func #[34,3,3,3,113] #[3] false,1,8,.nilFunc,[]⟩
def ah3:TI:=⟨.func #[34,3,3,3,113] #[3,4] false,1,8,.nilFunc,[]⟩
def ah4:TI:=⟨.func #[22,3,3,332] #[] false,1,8,.nilFunc,[]⟩
def ah5:TI:=⟨.func #[22,3,3,332] #[3,358] false,1,8,.nilFunc,[]⟩
def ah6:TI:=⟨.func #[22,3,3,332] #[4] false,1,8,.nilFunc,[]⟩
def ah7:TI:=⟨.func #[22,3,3,3,332] #[3] false,1,8,.nilFunc,[]⟩
def ah8:TI:=⟨.func #[22,3,3,3,332] #[3,4] false,1,8,.nilFunc,[]⟩
def ah9:TI:=So
def aia:TI:=⟨.func #[3] #[216] false,1,8,.nilFunc,[]⟩
def aib:TI:=⟨.func #[] #[262] false,1,8,.nilFunc,[]⟩
def aic:TI:=⟨.func #[139,3,383,146] #[3] false,1,8,.nilFunc,[]⟩
def aid:TI:=⟨.pointer 3,1,8,.pointer none,[]⟩
def aie:TI:=⟨.func #[139,3,3,3,383,146] #[3] false,1,8,.nilFunc,[]⟩
def aif:TI:=⟨.func #[24,24,54] #[3] false,1,8,.nilFunc,[]⟩
def aig:TI:=⟨.func #[34,3,383,113] #[3] false,1,8,.nilFunc,[]⟩
def aih:TI:=⟨.func #[34,3,3,3,383,113] #[3] false,1,8,.nilFunc,[]⟩
def aii:TI:=⟨.func #[49] #[] false,1,8,.nilFunc,[]⟩
def aij:TI:=⟨.func #[131] #[] false,1,8,.nilFunc,[]⟩
def aik:TI:=⟨.func #[147] #[] false,1,8,.nilFunc,[]⟩
def ail:TI:=⟨.func #[22,3,383,332] #[3] false,1,8,.nilFunc,[]⟩
def aim:TI:=⟨.func #[22,3,3,3,383,332] #[3] false,1,8,.nilFunc,[]⟩
def ain:TI:=⟨.pointer 379,1,8,.pointer none,[]⟩
def aio:TI:=⟨.func #[139,3,3,383,146] #[3,3] false,1,8,.nilFunc,[]⟩
def aip:TI:=⟨.func #[187,3,397] #[3] false,1,8,.nilFunc,[]⟩
def aiq:TI:=⟨.func #[3,3,3] #[3] false,1,8,.nilFunc,[]⟩
def air:TI:=⟨.func #[34,3,3,383,113] #[3,3] false,1,8,.nilFunc,[]⟩
def ais:TI:=⟨.func #[22,3,3,383,332] #[3,3] false,1,8,.nilFunc,[]⟩
def ait:TI:=⟨.func #[] #[9] false,1,8,.nilFunc,[]⟩
def Wg:TI:=⟨.struct #[],4,40,.agg ⟨[.pointer none,.pointer none,.pointer none,sG]⟩,[(17,0),(17,1),(17,2),(9,3)]⟩
def aiu:TI:=Wg
def aiv:TI:=⟨.array 0 16,0,0,.agg ⟨[]⟩,[]⟩
def Wh:TI:=⟨.struct #[],0,0,.agg ⟨[]⟩,[(403,0)]⟩
def aiw:TI:=Wh
def aix:TI:=ti5
def aiy:TI:=ti5
def aiz:TI:=⟨.func #[414,414] #[4] false,1,8,.nilFunc,[]⟩
def ai0:TI:=⟨.pointer 5,1,8,.pointer none,[]⟩
def ai1:TI:=Sp
def ai2:TI:=Sp
def Wi:TI:=⟨.struct #[],11,48,.agg ⟨[.int .u64 0,.int .u64 0,.int .u32 0,.int .u8 0,.int .u8 0,.int .u8 0,.int .u8 0,.nilFunc,.pointer none,.int .i32 0,.int .i32 0]⟩,[(12,0),(12,1),(255,2),(406,3),(5,4),(5,5),(407,6),(408,7),(409,8),(410,9),(411,10)]⟩
def ai3:TI:=Wi
def tts:List (Nat × TI):= [(1,ti1),(2,ti2),(3,ti3),(4,ti4),(5,ti5),(6,ti6),(7,ti7),(8,ti8),(9,ti9),(10,aky),(11,akz),(12,So),(13,aat),(14,ak0),(15,ak1),(16,ak2),(17,ak3),(18,aau),(19,ak4),(21,Sp),(22,ak5),(23,ak6),(24,ak7),(25,ak8),(26,ak9),(27,ala),(28,alb),(29,alc),(30,aav),(31,ald),(32,aaw),(33,ale),(34,alf),(35,Yi),(36,alg),(37,alh),(39,ali),(40,alj),(42,alk),(43,alm),(45,aln),(46,alo),(48,alp),(49,alq),(50,aax),(51,alr),(53,als),(54,alt),(56,alu),(57,alv),(58,alw),(59,alx),(60,aly),(61,alz),(62,al0),(63,al1),(64,al2),(65,al3),(66,al4),(68,al5),(69,aay),(70,al6),(72,al7),(73,al8),(74,al9),(75,ama),(76,amb),(77,amc),(80,amd),(81,ame),(82,aaz),(83,amf),(84,aa0),(85,amg),(86,amh),(87,aa1),(88,ami),(89,amj),(90,amk),(91,aml),(92,aa2),(93,amm),(94,aa3),(95,amn),(96,aa4),(97,amo),(99,amp),(100,Vv),(101,aa5),(103,aa6),(104,aa7),(106,aa8),(107,aa9),(108,aba),(109,abb),(110,abc),(111,abd),(112,abe),(113,abf),(114,abg),(115,abh),(116,abi),(117,abj),(118,abk),(120,abl),(121,abm),(122,abn),(123,abo),(124,abp),(125,Vw),(126,abq),(127,abr),(128,abt),(129,abu),(130,abv),(131,abw),(132,abx),(133,Vx),(134,aby),(135,abz),(136,ab0),(137,ab1),(138,ab2),(139,ab3),(140,ab4),(141,Vy),(142,ab5),(143,ab6),(144,ab7),(145,ab8),(146,ab9),(147,aca),(148,Vz),(149,acb),(150,acd),(151,V0),(152,ace),(153,acf),(154,acg),(155,ach),(156,aci),(157,acj),(158,ack),(159,acl),(160,acm),(161,acn),(162,aco),(164,acp),(165,acq),(166,acr),(167,acs),(168,act),(169,acu),(170,acv),(171,acw),(172,acx),(173,V3),(174,acy),(175,acz),(176,ac0),(177,ac1),(178,ac2),(179,ac3),(180,ac4),(181,ac5),(182,ac6),(183,ac7),(184,ac8),(185,ac9),(186,V4),(187,ada),(188,adb),(189,adc),(190,ade),(191,adf),(193,adg),(194,adh),(195,adi),(196,adj),(197,adk),(198,adl),(199,adm),(200,V5),(201,adn),(202,ado),(203,adp),(204,adq),(205,adr),(206,ads),(207,adt),(209,adu),(210,adw),(211,adx),(212,V6),(213,ady),(214,adz),(215,ad0),(216,ad1),(217,ad2),(218,ad3),(219,ad4),(220,ad5),(221,ad6),(222,ad7),(223,ad8),(224,ad9),(225,aea),(226,aeb),(227,aec),(228,aed),(229,aee),(230,V7),(231,aef),(232,aeg),(233,aeh),(234,aei),(235,aej),(236,aek),(237,ael),(238,aem),(239,aen),(240,aeo),(241,aep),(242,aeq),(243,aer),(244,aes),(245,aet),(246,aeu),(247,aev),(248,aew),(249,aex),(250,aey),(251,aez),(252,ae0),(253,ae1),(254,ae2),(255,ae3),(256,V8),(257,ae4),(258,ae5),(259,V9),(260,ae6),(261,ae7),(262,ae8),(263,ae9),(264,Wa),(265,afa),(266,Wb),(267,afb),(268,afc),(269,afd),(270,afe),(271,Wc),(272,aff),(273,afg),(274,afh),(275,afi),(276,afj),(277,afk),(278,afl),(280,afm),(281,afn),(282,afo),(284,afp),(285,afq),(286,afr),(287,Wd),(288,afs),(289,afu),(290,afv),(291,afw),(292,afx),(293,afy),(294,Wf),(295,afz),(296,af0),(297,af1),(298,af2),(299,af3),(300,af4),(301,af5),(304,af6),(305,af7),(306,af8),(307,af9),(308,aga),(309,agb),(310,agc),(311,agd),(312,age),(313,agf),(314,agh),(315,agi),(316,agj),(317,agk),(318,agl),(319,agm),(320,agn),(321,ago),(322,agp),(323,agq),(324,agr),(325,ags),(326,agt),(327,agu),(328,agv),(329,agw),(330,agx),(331,agy),(332,agz),(333,ag0),(334,ag1),(335,ag2),(336,ag3),(337,ag4),(338,ag5),(339,ag6),(340,ag7),(341,ag8),(342,ag9),(343,aha),(344,ahb),(345,ahc),(346,ahd),(347,ahe),(348,ahf),(349,ahg),(350,ahh),(351,ahi),(352,ahj),(353,ahk),(354,ahl),(355,ahm),(356,ahn),(357,aho),(358,ahp),(360,ahq),(361,ahr),(362,ahs),(363,aht),(364,ahu),(365,ahv),(366,ahw),(367,ahx),(368,ahy),(369,ahz),(370,ah0),(371,ah1),(372,ah2),(373,ah3),(374,ah4),(375,ah5),(376,ah6),(377,ah7),(378,ah8),(379,ah9),(380,aia),(381,aib),(382,aic),(383,aid),(384,aie),(385,aif),(386,aig),(387,aih),(388,aii),(389,aij),(390,aik),(391,ail),(392,aim),(393,ain),(395,aio),(396,aip),(397,aiq),(398,air),(399,ais),(400,ait),(401,Wg),(402,aiu),(403,aiv),(404,Wh),(405,aiw),(406,aix),(407,aiy),(408,aiz),(409,ai0),(410,ai1),(411,ai2),(412,Wi),(413,ai3)]
theorem Nt:∀ p∈tts,Ff Tryz.prog p:=Ke (by kernel_rfl)
set_option maxRecDepth 100000 in
theorem Nu:∀ p∈tts,p.2.flds≠ [(0,99999)]:=by decide
instance:TT Tryz.prog (aJ tts):=TT.of_list Nt Nu
instance:Mixed Tryz.prog:=⟨by kernel_rfl⟩
abbrev aQ:Nat:=3
abbrev iG:Nat:=4
abbrev aB:Nat:=5
abbrev aR:Nat:=6
abbrev vL:Nat:=7
abbrev iH:Nat:=8
abbrev sH:Nat:=9
abbrev sI:Nat:=10
abbrev Ge:Nat:=11
abbrev Cn:Nat:=12
abbrev jT:Nat:=13
abbrev lO:Nat:=14
abbrev jU:Nat:=15
abbrev dR:Nat:=16
abbrev jB:Nat:=17
abbrev vN:Nat:=18
abbrev Co:Nat:=19
abbrev uf:Nat:=20
abbrev aS:Nat:=21
abbrev s7:Nat:=22
abbrev xK:Nat:=23
abbrev sJ:Nat:=24
abbrev sK:Nat:=25
abbrev dS:Nat:=26
abbrev pL:Nat:=27
abbrev aT:Nat:=28
abbrev zI:Nat:=29
abbrev lP:Nat:=30
abbrev Cp:Nat:=31
abbrev vy:Nat:=32
abbrev pz:Nat:=33
abbrev ru:Nat:=35
abbrev p5:Nat:=39
abbrev t6:Nat:=40
abbrev yr:Nat:=41
abbrev vO:Nat:=42
abbrev jV:Nat:=43
abbrev ry:Nat:=44
abbrev lu:Nat:=45
abbrev jC:Nat:=46
abbrev s8:Nat:=47
abbrev xb:Nat:=48
abbrev qe:Nat:=49
abbrev xc:Nat:=50
abbrev n4:Nat:=51
abbrev vP:Nat:=52
abbrev Cq:Nat:=53
abbrev Cr:Nat:=54
abbrev iI:Nat:=55
abbrev iJ:Nat:=56
abbrev eP:Nat:=57
abbrev eQ:Nat:=58
abbrev iK:Nat:=59
abbrev vQ:Nat:=60
abbrev nY:Nat:=61
abbrev lQ:Nat:=62
abbrev jg:Nat:=63
abbrev wq:Nat:=64
abbrev sL:Nat:=65
abbrev uy:Nat:=66
abbrev jo:Nat:=67
abbrev ws:Nat:=68
abbrev zJ:Nat:=69
abbrev eR:Nat:=70
abbrev lR:Nat:=71
abbrev n5:Nat:=72
abbrev qf:Nat:=73
abbrev jD:Nat:=74
abbrev lS:Nat:=75
abbrev xe:Nat:=76
abbrev zj:Nat:=77
abbrev aU:Nat:=78
abbrev xL:Nat:=79
abbrev jW:Nat:=80
abbrev nZ:Nat:=81
abbrev oC:Nat:=82
abbrev cL:Nat:=83
abbrev iL:Nat:=84
abbrev eS:Nat:=85
abbrev vR:Nat:=86
abbrev eT:Nat:=87
abbrev oE:Nat:=88
abbrev cN:Nat:=89
abbrev cO:Nat:=90
abbrev aV:Nat:=91
abbrev eU:Nat:=92
abbrev yt:Nat:=93
abbrev cP:Nat:=94
abbrev iM:Nat:=95
abbrev pX:Nat:=96
abbrev zK:Nat:=97
abbrev sM:Nat:=98
abbrev mf:Nat:=99
abbrev Cs:Nat:=100
abbrev sN:Nat:=101
abbrev Gg:Nat:=102
abbrev yu:Nat:=103
abbrev sO:Nat:=104
abbrev eV:Nat:=105
abbrev K4:Nat:=106
abbrev qm:Nat:=107
abbrev Gh:Nat:=108
abbrev t8:Nat:=109
abbrev qs:Nat:=113
abbrev sP:Nat:=114
abbrev vS:Nat:=115
abbrev zL:Nat:=116
abbrev iN:Nat:=117
abbrev iO:Nat:=118
abbrev f0:Nat:=119
abbrev pO:Nat:=120
abbrev ge:Nat:=121
abbrev fk:Nat:=122
abbrev vT:Nat:=123
abbrev fm:Nat:=124
abbrev vU:Nat:=125
abbrev pY:Nat:=126
abbrev vV:Nat:=127
abbrev cQ:Nat:=129
abbrev iP:Nat:=130
abbrev aW:Nat:=131
abbrev og:Nat:=132
abbrev aX:Nat:=133
abbrev aY:Nat:=134
abbrev dN:Nat:=135
abbrev lj:Nat:=136
abbrev sQ:Nat:=137
abbrev vW:Nat:=138
abbrev qt:Nat:=139
abbrev iQ:Nat:=140
abbrev Ct:Nat:=141
abbrev zM:Nat:=142
abbrev ug:Nat:=143
abbrev jX:Nat:=144
abbrev cR:Nat:=145
abbrev lz:Nat:=146
abbrev uh:Nat:=147
abbrev lk:Nat:=148
abbrev uj:Nat:=149
abbrev jE:Nat:=150
abbrev Cu:Nat:=151
abbrev yv:Nat:=152
abbrev zN:Nat:=153
abbrev yw:Nat:=154
abbrev yx:Nat:=155
abbrev xf:Nat:=156
abbrev xg:Nat:=157
abbrev xw:Nat:=158
abbrev n6:Nat:=159
abbrev dq:Nat:=160
abbrev jY:Nat:=161
abbrev iv:Nat:=162
abbrev uk:Nat:=163
abbrev oh:Nat:=164
abbrev Cv:Nat:=165
abbrev lT:Nat:=166
abbrev qn:Nat:=167
abbrev iR:Nat:=168
abbrev iS:Nat:=169
abbrev jZ:Nat:=170
abbrev eW:Nat:=171
abbrev dU:Nat:=172
abbrev xx:Nat:=173
abbrev eX:Nat:=174
abbrev eY:Nat:=175
abbrev iT:Nat:=176
abbrev aZ:Nat:=177
abbrev eZ:Nat:=178
abbrev dV:Nat:=179
abbrev qu:Nat:=180
abbrev iU:Nat:=181
abbrev kA:Nat:=182
abbrev rz:Nat:=183
abbrev zO:Nat:=184
abbrev nv:Nat:=185
abbrev Cw:Nat:=186
abbrev sR:Nat:=187
abbrev oF:Nat:=188
abbrev lU:Nat:=189
abbrev zq:Nat:=190
abbrev Gi:Nat:=191
abbrev lc:Nat:=192
abbrev oG:Nat:=193
abbrev qv:Nat:=194
abbrev mw:Nat:=195
abbrev p6:Nat:=196
abbrev cS:Nat:=197
abbrev fC:Nat:=198
abbrev K5:Nat:=199
abbrev sS:Nat:=200
abbrev dW:Nat:=201
abbrev sU:Nat:=202
abbrev oj:Nat:=204
abbrev n_hold_waiting_Len:Nat:=205
abbrev fD:Nat:=206
abbrev dX:Nat:=207
abbrev iV:Nat:=208
abbrev mg:Nat:=209
abbrev bB:Nat:=210
abbrev lV:Nat:=211
abbrev uz:Nat:=212
abbrev wt:Nat:=213
abbrev xy:Nat:=214
abbrev bC:Nat:=215
abbrev Cx:Nat:=216
abbrev bD:Nat:=217
abbrev bE:Nat:=218
abbrev aC:Nat:=219
abbrev jj:Nat:=220
abbrev um:Nat:=221
abbrev mx:Nat:=222
abbrev kd:Nat:=223
abbrev qo:Nat:=224
abbrev ox:Nat:=225
abbrev fE:Nat:=226
abbrev jp:Nat:=227
abbrev vz:Nat:=228
abbrev nf:Nat:=229
abbrev iw:Nat:=230
abbrev pZ:Nat:=231
abbrev dO:Nat:=232
abbrev fF:Nat:=233
abbrev ng:Nat:=234
abbrev bF:Nat:=235
abbrev oz:Nat:=236
abbrev fG:Nat:=237
abbrev zP:Nat:=238
abbrev nl:Nat:=239
abbrev r6:Nat:=240
abbrev qA:Nat:=241
abbrev r7:Nat:=242
abbrev lW:Nat:=243
abbrev Gj:Nat:=244
abbrev zQ:Nat:=245
abbrev zR:Nat:=246
abbrev p7:Nat:=247
abbrev fH:Nat:=248
abbrev Cy:Nat:=249
abbrev dY:Nat:=250
abbrev fI:Nat:=251
abbrev u3:Nat:=252
abbrev sV:Nat:=253
abbrev bG:Nat:=254
abbrev kB:Nat:=255
abbrev lX:Nat:=256
abbrev qg:Nat:=257
abbrev s9:Nat:=259
abbrev pb:Nat:=260
abbrev nJ:Nat:=261
abbrev sW:Nat:=263
abbrev pj:Nat:=265
abbrev oH:Nat:=266
abbrev fJ:Nat:=268
abbrev zr:Nat:=269
abbrev sg:Nat:=270
abbrev o3:Nat:=271
abbrev lY:Nat:=280
abbrev om:Nat:=281
abbrev vX:Nat:=283
abbrev aD:Nat:=284
abbrev vY:Nat:=285
abbrev qp:Nat:=286
abbrev yy:Nat:=294
abbrev cB:Nat:=295
abbrev qB:Nat:=296
abbrev pk:Nat:=300
abbrev qC:Nat:=314
abbrev n7:Nat:=315
abbrev yz:Nat:=319
abbrev y0:Nat:=320
abbrev lZ:Nat:=329
abbrev zt:Nat:=330
abbrev n_hold_waiting_Less:Nat:=351
abbrev n_hold_waiting_Swap:Nat:=352
abbrev n_p_hold_waiting_Pop:Nat:=356
abbrev n_p_hold_waiting_Push:Nat:=357
abbrev fd:Nat:=3
abbrev tb:Nat:=4
abbrev m8:Nat:=5
abbrev jv:Nat:=9
abbrev p8:Nat:=22
abbrev ez:Nat:=24
abbrev wa:Nat:=28
abbrev t_api_Dot:Nat:=31
abbrev t_api_ID:Nat:=33
abbrev Cz:Nat:=34
abbrev ba:Nat:=36
abbrev u4:Nat:=37
abbrev j7:Nat:=43
abbrev kC:Nat:=49
abbrev bj:Nat:=51
abbrev n8:Nat:=54
abbrev t_api_Fault:Nat:=70
abbrev ja:Nat:=75
abbrev sX:Nat:=83
abbrev ml:Nat:=85
abbrev tc:Nat:=88
abbrev iz:Nat:=93
abbrev gu:Nat:=97
abbrev mA:Nat:=101
abbrev il:Nat:=126
abbrev ee:Nat:=130
abbrev ou:Nat:=131
abbrev dw:Nat:=134
abbrev wu:Nat:=139
abbrev mB:Nat:=147
abbrev bi:Nat:=149
abbrev dx:Nat:=152
abbrev rc:Nat:=170
abbrev im:Nat:=172
abbrev qE:Nat:=174
abbrev jy:Nat:=189
abbrev fp:Nat:=191
abbrev mC:Nat:=201
abbrev jF:Nat:=207
abbrev ld:Nat:=210
abbrev fK:Nat:=213
abbrev fy:Nat:=222
abbrev t_api_Held:Nat:=231
abbrev p9:Nat:=235
abbrev gy:Nat:=244
abbrev qw:Nat:=250
abbrev jq:Nat:=257
abbrev kg:Nat:=260
abbrev qh:Nat:=265
abbrev vZ:Nat:=267
abbrev wA:Nat:=272
abbrev sY:Nat:=286
abbrev bH:Nat:=292
abbrev cU:Nat:=295
abbrev fL:Nat:=313
abbrev i9:Nat:=338
abbrev jh:Nat:=355
abbrev km:Nat:=397
instance:Bodied Tryz.prog 4:=ah Tryz.func4
instance:Bodied Tryz.prog 5:=ah Tryz.func5
instance:Bodied Tryz.prog 6:=ah Tryz.func6
instance:Bodied Tryz.prog 7:=ah Tryz.func7
instance:Bodied Tryz.prog 8:=ah Tryz.func8
instance:Bodied Tryz.prog 9:=ah Tryz.func9
instance:Bodied Tryz.prog 10:=ah Tryz.func10
instance:Bodied Tryz.prog 11:=ah Tryz.func11
instance:Bodied Tryz.prog 12:=ah Tryz.func12
instance:Bodied Tryz.prog 13:=ah Tryz.func13
instance:Bodied Tryz.prog 14:=ah Tryz.func14
instance:Bodied Tryz.prog 15:=ah Tryz.func15
instance:Bodied Tryz.prog 16:=ah Tryz.func16
instance:Bodied Tryz.prog 17:=ah Tryz.func17
instance:Bodied Tryz.prog 18:=ah Tryz.func18
instance:Bodied Tryz.prog 19:=ah Tryz.func19
instance:Bodied Tryz.prog 20:=ah Tryz.func20
instance:Bodied Tryz.prog 21:=ah Tryz.func21
instance:Bodied Tryz.prog 22:=ah Tryz.func22
instance:Bodied Tryz.prog 23:=ah Tryz.func23
instance:Bodied Tryz.prog 24:=ah Tryz.func24
instance:Bodied Tryz.prog 25:=ah Tryz.func25
instance:Bodied Tryz.prog 26:=ah Tryz.func26
instance:Bodied Tryz.prog 27:=ah Tryz.func27
instance:Bodied Tryz.prog 28:=ah Tryz.func28
instance:Bodied Tryz.prog 29:=ah Tryz.func29
instance:Bodied Tryz.prog 30:=ah Tryz.func30
instance:Bodied Tryz.prog 31:=ah Tryz.func31
instance:Bodied Tryz.prog 32:=ah Tryz.func32
instance:Bodied Tryz.prog 33:=ah Tryz.func33
instance:Bodied Tryz.prog 35:=ah Tryz.func35
instance:Bodied Tryz.prog 39:=ah Tryz.func39
instance:Bodied Tryz.prog 40:=ah Tryz.func40
instance:Bodied Tryz.prog 41:=ah Tryz.func41
instance:Bodied Tryz.prog 42:=ah Tryz.func42
instance:Bodied Tryz.prog 43:=ah Tryz.func43
instance:Bodied Tryz.prog 44:=ah Tryz.func44
instance:Bodied Tryz.prog 45:=ah Tryz.func45
instance:Bodied Tryz.prog 46:=ah Tryz.func46
instance:Bodied Tryz.prog 47:=ah Tryz.func47
instance:Bodied Tryz.prog 48:=ah Tryz.func48
instance:Bodied Tryz.prog 49:=ah Tryz.func49
instance:Bodied Tryz.prog 50:=ah Tryz.func50
instance:Bodied Tryz.prog 51:=ah Tryz.func51
instance:Bodied Tryz.prog 52:=ah Tryz.func52
instance:Bodied Tryz.prog 53:=ah Tryz.func53
instance:Bodied Tryz.prog 54:=ah Tryz.func54
instance:Bodied Tryz.prog 55:=ah Tryz.func55
instance:Bodied Tryz.prog 56:=ah Tryz.func56
instance:Bodied Tryz.prog 57:=ah Tryz.func57
instance:Bodied Tryz.prog 58:=ah Tryz.func58
instance:Bodied Tryz.prog 59:=ah Tryz.func59
instance:Bodied Tryz.prog 60:=ah Tryz.func60
instance:Bodied Tryz.prog 61:=ah Tryz.func61
instance:Bodied Tryz.prog 62:=ah Tryz.func62
instance:Bodied Tryz.prog 63:=ah Tryz.func63
instance:Bodied Tryz.prog 64:=ah Tryz.func64
instance:Bodied Tryz.prog 65:=ah Tryz.func65
instance:Bodied Tryz.prog 66:=ah Tryz.func66
instance:Bodied Tryz.prog 67:=ah Tryz.func67
instance:Bodied Tryz.prog 68:=ah Tryz.func68
instance:Bodied Tryz.prog 69:=ah Tryz.func69
instance:Bodied Tryz.prog 70:=ah Tryz.func70
instance:Bodied Tryz.prog 71:=ah Tryz.func71
instance:Bodied Tryz.prog 72:=ah Tryz.func72
instance:Bodied Tryz.prog 73:=ah Tryz.func73
instance:Bodied Tryz.prog 74:=ah Tryz.func74
instance:Bodied Tryz.prog 75:=ah Tryz.func75
instance:Bodied Tryz.prog 76:=ah Tryz.func76
instance:Bodied Tryz.prog 77:=ah Tryz.func77
instance:Bodied Tryz.prog 78:=ah Tryz.func78
instance:Bodied Tryz.prog 79:=ah Tryz.func79
instance:Bodied Tryz.prog 80:=ah Tryz.func80
instance:Bodied Tryz.prog 81:=ah Tryz.func81
instance:Bodied Tryz.prog 82:=ah Tryz.func82
instance:Bodied Tryz.prog 83:=ah Tryz.func83
instance:Bodied Tryz.prog 84:=ah Tryz.func84
instance:Bodied Tryz.prog 85:=ah Tryz.func85
instance:Bodied Tryz.prog 86:=ah Tryz.func86
instance:Bodied Tryz.prog 87:=ah Tryz.func87
instance:Bodied Tryz.prog 88:=ah Tryz.func88
instance:Bodied Tryz.prog 89:=ah Tryz.func89
instance:Bodied Tryz.prog 90:=ah Tryz.func90
instance:Bodied Tryz.prog 91:=ah Tryz.func91
instance:Bodied Tryz.prog 92:=ah Tryz.func92
instance:Bodied Tryz.prog 93:=ah Tryz.func93
instance:Bodied Tryz.prog 94:=ah Tryz.func94
instance:Bodied Tryz.prog 95:=ah Tryz.func95
instance:Bodied Tryz.prog 96:=ah Tryz.func96
instance:Bodied Tryz.prog 97:=ah Tryz.func97
instance:Bodied Tryz.prog 98:=ah Tryz.func98
instance:Bodied Tryz.prog 99:=ah Tryz.func99
instance:Bodied Tryz.prog 100:=ah Tryz.func100
instance:Bodied Tryz.prog 101:=ah Tryz.func101
instance:Bodied Tryz.prog 102:=ah Tryz.func102
instance:Bodied Tryz.prog 103:=ah Tryz.func103
instance:Bodied Tryz.prog 104:=ah Tryz.func104
instance:Bodied Tryz.prog 105:=ah Tryz.func105
instance:Bodied Tryz.prog 106:=ah Tryz.func106
instance:Bodied Tryz.prog 107:=ah Tryz.func107
instance:Bodied Tryz.prog 108:=ah Tryz.func108
instance:Bodied Tryz.prog 109:=ah Tryz.func109
instance:Bodied Tryz.prog 113:=ah Tryz.func113
instance:Bodied Tryz.prog 114:=ah Tryz.func114
instance:Bodied Tryz.prog 115:=ah Tryz.func115
instance:Bodied Tryz.prog 116:=ah Tryz.func116
instance:Bodied Tryz.prog 117:=ah Tryz.func117
instance:Bodied Tryz.prog 118:=ah Tryz.func118
instance:Bodied Tryz.prog 119:=ah Tryz.func119
instance:Bodied Tryz.prog 120:=ah Tryz.func120
instance:Bodied Tryz.prog 121:=ah Tryz.func121
instance:Bodied Tryz.prog 122:=ah Tryz.func122
instance:Bodied Tryz.prog 123:=ah Tryz.func123
instance:Bodied Tryz.prog 124:=ah Tryz.func124
instance:Bodied Tryz.prog 125:=ah Tryz.func125
instance:Bodied Tryz.prog 126:=ah Tryz.func126
instance:Bodied Tryz.prog 129:=ah Tryz.func129
instance:Bodied Tryz.prog 130:=ah Tryz.func130
instance:Bodied Tryz.prog 131:=ah Tryz.func131
instance:Bodied Tryz.prog 132:=ah Tryz.func132
instance:Bodied Tryz.prog 133:=ah Tryz.func133
instance:Bodied Tryz.prog 134:=ah Tryz.func134
instance:Bodied Tryz.prog 135:=ah Tryz.func135
instance:Bodied Tryz.prog 136:=ah Tryz.func136
instance:Bodied Tryz.prog 137:=ah Tryz.func137
instance:Bodied Tryz.prog 138:=ah Tryz.func138
instance:Bodied Tryz.prog 139:=ah Tryz.func139
instance:Bodied Tryz.prog 140:=ah Tryz.func140
instance:Bodied Tryz.prog 141:=ah Tryz.func141
instance:Bodied Tryz.prog 142:=ah Tryz.func142
instance:Bodied Tryz.prog 143:=ah Tryz.func143
instance:Bodied Tryz.prog 144:=ah Tryz.func144
instance:Bodied Tryz.prog 145:=ah Tryz.func145
instance:Bodied Tryz.prog 146:=ah Tryz.func146
instance:Bodied Tryz.prog 147:=ah Tryz.func147
instance:Bodied Tryz.prog 148:=ah Tryz.func148
instance:Bodied Tryz.prog 149:=ah Tryz.func149
instance:Bodied Tryz.prog 150:=ah Tryz.func150
instance:Bodied Tryz.prog 151:=ah Tryz.func151
instance:Bodied Tryz.prog 152:=ah Tryz.func152
instance:Bodied Tryz.prog 153:=ah Tryz.func153
instance:Bodied Tryz.prog 154:=ah Tryz.func154
instance:Bodied Tryz.prog 155:=ah Tryz.func155
instance:Bodied Tryz.prog 156:=ah Tryz.func156
instance:Bodied Tryz.prog 157:=ah Tryz.func157
instance:Bodied Tryz.prog 158:=ah Tryz.func158
instance:Bodied Tryz.prog 159:=ah Tryz.func159
instance:Bodied Tryz.prog 160:=ah Tryz.func160
instance:Bodied Tryz.prog 161:=ah Tryz.func161
instance:Bodied Tryz.prog 162:=ah Tryz.func162
instance:Bodied Tryz.prog 163:=ah Tryz.func163
instance:Bodied Tryz.prog 164:=ah Tryz.func164
instance:Bodied Tryz.prog 165:=ah Tryz.func165
instance:Bodied Tryz.prog 166:=ah Tryz.func166
instance:Bodied Tryz.prog 167:=ah Tryz.func167
instance:Bodied Tryz.prog 168:=ah Tryz.func168
instance:Bodied Tryz.prog 169:=ah Tryz.func169
instance:Bodied Tryz.prog 170:=ah Tryz.func170
instance:Bodied Tryz.prog 171:=ah Tryz.func171
instance:Bodied Tryz.prog 172:=ah Tryz.func172
instance:Bodied Tryz.prog 173:=ah Tryz.func173
instance:Bodied Tryz.prog 174:=ah Tryz.func174
instance:Bodied Tryz.prog 175:=ah Tryz.func175
instance:Bodied Tryz.prog 176:=ah Tryz.func176
instance:Bodied Tryz.prog 177:=ah Tryz.func177
instance:Bodied Tryz.prog 178:=ah Tryz.func178
instance:Bodied Tryz.prog 179:=ah Tryz.func179
instance:Bodied Tryz.prog 180:=ah Tryz.func180
instance:Bodied Tryz.prog 181:=ah Tryz.func181
instance:Bodied Tryz.prog 182:=ah Tryz.func182
instance:Bodied Tryz.prog 183:=ah Tryz.func183
instance:Bodied Tryz.prog 184:=ah Tryz.func184
instance:Bodied Tryz.prog 185:=ah Tryz.func185
instance:Bodied Tryz.prog 186:=ah Tryz.func186
instance:Bodied Tryz.prog 187:=ah Tryz.func187
instance:Bodied Tryz.prog 188:=ah Tryz.func188
instance:Bodied Tryz.prog 189:=ah Tryz.func189
instance:Bodied Tryz.prog 190:=ah Tryz.func190
instance:Bodied Tryz.prog 191:=ah Tryz.func191
instance:Bodied Tryz.prog 192:=ah Tryz.func192
instance:Bodied Tryz.prog 193:=ah Tryz.func193
instance:Bodied Tryz.prog 194:=ah Tryz.func194
instance:Bodied Tryz.prog 195:=ah Tryz.func195
instance:Bodied Tryz.prog 196:=ah Tryz.func196
instance:Bodied Tryz.prog 197:=ah Tryz.func197
instance:Bodied Tryz.prog 198:=ah Tryz.func198
instance:Bodied Tryz.prog 199:=ah Tryz.func199
instance:Bodied Tryz.prog 200:=ah Tryz.func200
instance:Bodied Tryz.prog 201:=ah Tryz.func201
instance:Bodied Tryz.prog 204:=ah Tryz.func204
instance:Bodied Tryz.prog 205:=ah Tryz.func205
instance:Bodied Tryz.prog 206:=ah Tryz.func206
instance:Bodied Tryz.prog 207:=ah Tryz.func207
instance:Bodied Tryz.prog 208:=ah Tryz.func208
instance:Bodied Tryz.prog 209:=ah Tryz.func209
instance:Bodied Tryz.prog 210:=ah Tryz.func210
instance:Bodied Tryz.prog 211:=ah Tryz.func211
instance:Bodied Tryz.prog 212:=ah Tryz.func212
instance:Bodied Tryz.prog 213:=ah Tryz.func213
instance:Bodied Tryz.prog 214:=ah Tryz.func214
instance:Bodied Tryz.prog 215:=ah Tryz.func215
instance:Bodied Tryz.prog 216:=ah Tryz.func216
instance:Bodied Tryz.prog 217:=ah Tryz.func217
instance:Bodied Tryz.prog 218:=ah Tryz.func218
instance:Bodied Tryz.prog 219:=ah Tryz.func219
instance:Bodied Tryz.prog 220:=ah Tryz.func220
instance:Bodied Tryz.prog 221:=ah Tryz.func221
instance:Bodied Tryz.prog 222:=ah Tryz.func222
instance:Bodied Tryz.prog 223:=ah Tryz.func223
instance:Bodied Tryz.prog 224:=ah Tryz.func224
instance:Bodied Tryz.prog 225:=ah Tryz.func225
instance:Bodied Tryz.prog 226:=ah Tryz.func226
instance:Bodied Tryz.prog 227:=ah Tryz.func227
instance:Bodied Tryz.prog 228:=ah Tryz.func228
instance:Bodied Tryz.prog 229:=ah Tryz.func229
instance:Bodied Tryz.prog 230:=ah Tryz.func230
instance:Bodied Tryz.prog 231:=ah Tryz.func231
instance:Bodied Tryz.prog 232:=ah Tryz.func232
instance:Bodied Tryz.prog 233:=ah Tryz.func233
instance:Bodied Tryz.prog 234:=ah Tryz.func234
instance:Bodied Tryz.prog 235:=ah Tryz.func235
instance:Bodied Tryz.prog 236:=ah Tryz.func236
instance:Bodied Tryz.prog 237:=ah Tryz.func237
instance:Bodied Tryz.prog 238:=ah Tryz.func238
instance:Bodied Tryz.prog 239:=ah Tryz.func239
instance:Bodied Tryz.prog 240:=ah Tryz.func240
instance:Bodied Tryz.prog 241:=ah Tryz.func241
instance:Bodied Tryz.prog 242:=ah Tryz.func242
instance:Bodied Tryz.prog 243:=ah Tryz.func243
instance:Bodied Tryz.prog 244:=ah Tryz.func244
instance:Bodied Tryz.prog 245:=ah Tryz.func245
instance:Bodied Tryz.prog 246:=ah Tryz.func246
instance:Bodied Tryz.prog 247:=ah Tryz.func247
instance:Bodied Tryz.prog 248:=ah Tryz.func248
instance:Bodied Tryz.prog 249:=ah Tryz.func249
instance:Bodied Tryz.prog 250:=ah Tryz.func250
instance:Bodied Tryz.prog 251:=ah Tryz.func251
instance:Bodied Tryz.prog 252:=ah Tryz.func252
instance:Bodied Tryz.prog 253:=ah Tryz.func253
instance:Bodied Tryz.prog 254:=ah Tryz.func254
instance:Bodied Tryz.prog 255:=ah Tryz.func255
instance:Bodied Tryz.prog 256:=ah Tryz.func256
instance:Bodied Tryz.prog 257:=ah Tryz.func257
instance:Bodied Tryz.prog 259:=ah Tryz.func259
instance:Bodied Tryz.prog 260:=ah Tryz.func260
instance:Bodied Tryz.prog 265:=ah Tryz.func265
instance:Bodied Tryz.prog 268:=ah Tryz.func268
instance:Bodied Tryz.prog 269:=ah Tryz.func269
instance:Bodied Tryz.prog 270:=ah Tryz.func270
instance:Bodied Tryz.prog 271:=ah Tryz.func271
instance:Bodied Tryz.prog 280:=ah Tryz.func280
instance:Bodied Tryz.prog 281:=ah Tryz.func281
instance:Bodied Tryz.prog 283:=ah Tryz.func283
instance:Bodied Tryz.prog 284:=ah Tryz.func284
instance:Bodied Tryz.prog 285:=ah Tryz.func285
instance:Bodied Tryz.prog 286:=ah Tryz.func286
instance:Bodied Tryz.prog 294:=ah Tryz.func294
instance:Bodied Tryz.prog 296:=ah Tryz.func296
instance:Bodied Tryz.prog 300:=ah Tryz.func300
instance:Bodied Tryz.prog 314:=ah Tryz.func314
instance:Bodied Tryz.prog 315:=ah Tryz.func315
instance:Bodied Tryz.prog 319:=ah Tryz.func319
instance:Bodied Tryz.prog 320:=ah Tryz.func320
instance:Bodied Tryz.prog 329:=ah Tryz.func329
instance:Bodied Tryz.prog 330:=ah Tryz.func330
instance:Bodied Tryz.prog 351:=ah Tryz.func351
instance:Bodied Tryz.prog 352:=ah Tryz.func352
instance:Bodied Tryz.prog 356:=ah Tryz.func356
instance:Bodied Tryz.prog 357:=ah Tryz.func357
open Go.RowKit

theorem K6 {α:Type} [DecidableEq α] {xs ys:List α} {k:Nat} (h1:k<xs.length) (h2:k<ys.length) (hl:xs.length=ys.length) (ht:xs.take k=ys.take k) :
  decide (xs[k]=ys[k])=decide (xs.length=ys.length∧xs.take (k+1)=ys.take (k+1)):=by
 have e1:=ang h1;have e2:=ang h2;rw [e1,e2,ht];simp only [List.append_cancel_left_eq,apf,aq7,hl,true_and]

theorem wB {va vb:Value} {xs ys:List Int} {w:World} (ha:IL w va xs) (hb:IL w vb ys) :
  Calls Tryz.prog s7 #[va,vb] w fun e w'=>e = .returned (.bool (decide (xs=ys)))∧Ext w w':=by
 obtain ⟨A,c,rfl,hnc,hcm,hz,hcell⟩:=ha.op;obtain ⟨A',c',rfl,hnc',hcm',hz',hcell'⟩:=hb.op;refine ut Tryz.func22 Z Z ?_
 repeat (first | refine o_p Z Z Z ?_ | refine on ?_ | refine sr ?_ | refine ss ?_)
 refine jk (cC (G:=Nat × Bool) (fun g=> [(0,.slice A xs.length c),(1,.slice A' ys.length c'),(5,.bool g.2),(6,ii g.1)])
  (fun g W=>Ext w W∧g.1≤xs.length∧g.2=decide (xs.length=ys.length∧xs.take g.1=ys.take g.1)) (fun g=>xs.length - g.1) ?_ ?_)
 ·exact ⟨(0,decide ((xs.length:Int)=ys.length)),⟨rfl,rfl,rfl,rfl,trivial⟩,Fr.refl _ _,anq _,by simp;omega⟩
 rintro ⟨k,b⟩ W ⟨hE,hk,hb0⟩;dsimp only at hk hb0 ⊢
 repeat (first | refine o_p Z Z Z ?_ | refine on ?_ | refine sr ?_ | refine ss ?_)
 refine gN 13 Z (fun h1=> ?_) (fun h1=> ?_)
 ·repeat refine o_p Z Z Z ?_
  rw [h1] at hb0;have hb1:=of_decide_eq_true hb0.symm;refine on (wy Z (fun h2=>jx (b8 (dz (jk ?_)))) (fun h2=>xq (kj (ma (jw (b8 ?_))))))
  ·obtain ⟨bk,off,rfl,hbk,hc⟩:=hcell k (by omega);obtain ⟨bk',off',rfl,hbk',hc'⟩:=hcell' k (by omega);have hck:=hc k (by omega);have hck':=hc' k (by omega);refine qc flo (fun W'=>Ext w W') (by decide) (hE.trans (Fr.drew _)) ?_
   repeat refine d_p Z Z Z Z ?_
   refine od k Z Z Z Z Z (by omega) <| ie Z Z (fun W' hW'=>br Z Z Z (hW'.cell hck)) Z ?_
   repeat refine d_p Z Z Z Z ?_
   refine od k Z Z Z Z Z (by omega) <| ie Z Z (fun W' hW'=>br Z Z Z (hW'.cell hck')) Z ?_
   repeat refine d_p Z Z Z Z ?_
   refine ov <| nc <| b8 <| cu <| o_p Z Z Z ?_;refine o_c Z Z Z (by unfold I64;omega) ?_
   repeat refine o_p Z Z Z ?_
   refine ec (vk (k+1,decide (xs[k]=ys[k])) ?_ ?_ ?_)
   ·exact ⟨rfl,rfl,rfl,rfl,trivial⟩
   ·exact ⟨hE.trans (Fr.drew _),by simp only;omega,K6 (by omega) (by omega) hb1.1 hb1.2⟩
   ·simp only;omega
  ·repeat (first | refine o_p Z Z Z ?_ | refine on ?_ | refine sr ?_ | refine ss ?_)
   refine fj <| ic Z Z ⟨?_,hE⟩;obtain rfl:k=xs.length:=by omega
   have h3:=hb1.2;rw [an1 (aoc _),an1 (by omega)] at h3;rw [h1,ani h3]
 ·repeat refine q6 Z Z ?_
  repeat refine o_p Z Z Z ?_
  refine on <| x5 Z <| xq <| kj <| ma <| jw <| b8 ?_
  repeat (first | refine o_p Z Z Z ?_ | refine on ?_ | refine sr ?_ | refine ss ?_)
  refine fj <| ic Z Z ⟨?_,hE⟩;rw [h1] at hb0;have h3:=of_decide_eq_false hb0.symm;rw [h1,ans (fun e=>h3 (by subst e;simp))]

theorem Nv {xs:List Int}:∀ u∈xs.map (Value.int .i64),u.oneCell'=true:=by
 intro u hu;obtain ⟨x,_,rfl⟩:=anb.1 hu
 rfl


def nn (xs:List Int) (i:Nat):Int:=max (xs.getD i 0) 0
def atL (xs:List Int) (r:Int):Int:=if 1≤r∧r≤xs.length then nn xs (r - 1).toNat else 0

theorem Wj {xs:List Int} {i:Nat} (h:i<xs.length):nn xs i=max xs[i] 0:=by
 unfold nn;rw [ano,am8 h]
 rfl
theorem sZ {xs:List Int} {i:Nat} (h:xs.length≤i):nn xs i=0:=by
 unfold nn;rw [ano,aps h]
 rfl
theorem C0 (xs:List Int) (i:Nat):atL xs ((i:Int)+1)=nn xs i:=by
 unfold atL;by_cases h:i<xs.length
 ·rw [if_pos (by omega)];congr 1;omega
 ·rw [if_neg (by omega),sZ (by omega)]

theorem mm {v:Value} {xs:List Int} {r:Int} {w:World} (hv:IL w v xs) :
  Calls Tryz.prog Cu #[v,ii r] w fun e w'=>e = .returned (ii (atL xs r))∧w=w':=by
 obtain ⟨A,c,rfl,hnc,hcm,hz,hcell⟩:=hv.op;refine ut Tryz.func151 Z Z <| sr <| o_p Z Z Z <| on <| dz <| sr ?_
 repeat refine o_p Z Z Z ?_
 refine Xr 7 Z (fun h1=> ?_) (fun h1=> ?_)
 ·repeat refine q6 Z Z ?_
  repeat refine o_p Z Z Z ?_
  refine on <| x4 Z <| sr ?_
  repeat refine o_p Z Z Z ?_
  refine on <| fj <| ia <| ic Z Z ⟨?_,rfl⟩;rw [atL,if_neg (by omega)]
 ·repeat refine o_p Z Z Z ?_
  refine on (wy Z (fun h2=>sr ?_) (fun h2=>jx (b8 (sr ?_))))
  ·repeat refine o_p Z Z Z ?_
   refine on <| fj <| ia <| ic Z Z ⟨?_,rfl⟩;rw [atL,if_neg (by omega)]
  ·obtain ⟨b,off,rfl,hb,hc⟩:=hcell 0 (by omega);have hlt:(r - 1).toNat<xs.length:=by omega
   have hck:=hc (r - 1).toNat hlt
   repeat refine o_p Z Z Z ?_
   refine o_c Z Z Z (by unfold I64;omega) ?_;refine rA (r - 1).toNat Z Z Z (by omega) hlt <| ek Z (br Z Z Z hck) Z ?_
   repeat refine o_p Z Z Z ?_
   refine on <| fj <| ic Z Z ⟨?_,rfl⟩;rw [atL,if_pos (by omega),Wj hlt]

abbrev iW (b:Nat):Value:=pp b

theorem cV {l b1 b2:Nat} {va vb:Value} {xs ys:List Int} {We W:World} (J:Nat→World→Prop) (h1:We.cell? ⟨b1,0,none⟩=some va) (h2:We.cell? ⟨b2,0,none⟩=some vb)
  (ha:IL We va xs) (hb:IL We vb ys) (hE:∀ i W,J i W→Ext We W) (hst:∀ i W W',J i W→Ext W W'→J i W')
  (hY:∀ i,i<max xs.length ys.length→∀ W,J i W→Yld Tryz.prog l #[ii (nn xs i),ii (nn ys i)] W fun e W'=>e = .returned (.bool true)∧J (i+1) W') (h0:J 0 W) :
  Calls Tryz.prog lc #[.func (.yield l) #[] #[],iW b1,iW b2] W fun e W'=>(∃ v,e = .returned v)∧J (max xs.length ys.length) W':=by
 obtain ⟨A,c,rfl,hnc,hcm,hz,hcell⟩:=ha.op;obtain ⟨A',c',rfl,hnc',hcm',hz',hcell'⟩:=hb.op;refine qY Tryz.func192 Z Z <| dz <| cu <| ek Z (br Z Z Z ((hE _ _ h0).cell h1)) Z ?_
 repeat refine o_p Z Z Z ?_
 refine ek Z (br Z Z Z ((hE _ _ h0).cell h2)) Z ?_
 repeat refine o_p Z Z Z ?_
 have hmax:max (xs.length:Int) (ys.length:Int)=((max xs.length ys.length:Nat):Int):=by omega
 refine (ec (b8 (jk (cC (G:=Nat) (fun i=> [(0,.func (.yield l) #[] #[]),(1,iW b1),(2,iW b2),(9,ii ((max xs.length ys.length:Nat):Int)),(10,ii i)])
  (fun i W=>J i W∧i≤max xs.length ys.length) (fun i=>max xs.length ys.length - i) ?_ ?_))))
 ·exact ⟨0,⟨rfl,rfl,rfl,by rw [← hmax];rfl,rfl,trivial⟩,h0,by omega⟩
 rintro i W ⟨hJ,hi⟩;refine dz <| cu ?_
 repeat refine o_p Z Z Z ?_
 refine (ec (b8 (dz (wy Z (fun h=> ?_) (fun h=> ?_)))))
 ·refine jx <| b8 <| dz <| jk <| dz <| cu ?_
  repeat refine o_p Z Z Z ?_
  have hJd:=hst _ _ _ hJ (Fr.drew W);have hEd:=hE _ _ hJd;refine ec <| b8 <| dz <| qc flo (fun W'=>Ext We W') (by decide) hEd ?_
  repeat refine d_p Z Z Z Z ?_
  refine ie Z Z (fun W' hW'=>br Z Z Z (hW'.cell h1)) Z ?_
  repeat refine d_p Z Z Z Z ?_
  refine d_c Z Z Z Z (by unfold I64;omega) ?_;refine mc Z Z (eh Z) Z <| (mm (ha.ext hEd)).mono ?_;rintro _ w1 ⟨rfl,rfl⟩;refine ⟨_,rfl,hEd,?_⟩;rw [C0];refine ie Z Z (fun W' hW'=>br Z Z Z (hW'.cell h2)) Z ?_
  repeat refine d_p Z Z Z Z ?_
  refine d_c Z Z Z Z (by unfold I64;omega) ?_;refine mc Z Z (eh Z) Z <| (mm (hb.ext hEd)).mono ?_;rintro _ w1 ⟨rfl,rfl⟩;refine ⟨_,rfl,hEd,?_⟩;rw [C0];refine Mw Z Z Z Z <| (hY i (by omega) _ hJd).mono ?_;rintro _ w1 ⟨rfl,hJ1⟩;refine ⟨_,rfl,hE _ _ hJ1,?_⟩
  repeat refine d_p Z Z Z Z ?_
  refine ov <| b8 <| x5 Z <| jx <| nc <| b8 <| cu ?_;refine o_c Z Z Z (by unfold I64;omega) ?_
  repeat refine o_p Z Z Z ?_
  refine (ec (vk (i+1) ?_ ?_ ?_))
  ·exact ⟨rfl,rfl,rfl,rfl,rfl,trivial⟩
  ·exact ⟨hJ1,by omega⟩
  ·show max xs.length ys.length - (i+1)<max xs.length ys.length - i;omega
 ·obtain rfl:i=max xs.length ys.length:=by omega
  exact xq (kj (ma (jw (Ij Z ⟨⟨_,rfl⟩,hJ⟩))))

theorem kD {va vb:Value} {w:World} :
  Calls Tryz.prog sO #[va,vb] w fun e w'=>e = .returned (.func (.func lc) ⟨[]⟩ ⟨[iW w.heap.size,iW (w.heap.size+1)]⟩)∧w'=(w.alloc (.cells va.cells ez)).alloc (.cells vb.cells ez):=by
 refine ut Tryz.func104 Z Z <| dz <| cu <| ek Z (rk Z) Z <| ek Z (rk Z) Z ?_
 repeat (first | refine o_p Z Z Z ?_ | refine on ?_ | refine sr ?_ | refine ss ?_)
 refine fj <| ic Z Z ⟨?_,rfl⟩;simp

theorem tA {b1 b2:Nat} {va vb:Value} {xs ys:List Int} {w:World} (I:Nat→Value→World→Prop) (g:FuncId) (gc:List Value) [Bodied Tryz.prog g] (v0:Value)
  (h1:w.cell? ⟨b1,0,none⟩=some va) (h2:w.cell? ⟨b2,0,none⟩=some vb) (ha:IL w va xs) (hb:IL w vb ys) (hI0:I 0 v0 w) (hone:∀ i v W,I i v W→v.oneCell'=true)
  (hst:∀ i v W W' S,I i v W→Fr S W W'→(∀ k,S k→w.heap.size≤k∧k<w.heap.size+4)→I i v W')
  (hstep:∀ i v W,i<max xs.length ys.length→I i v W→Ext w W→w.heap.size+4≤W.heap.size→Calls Tryz.prog g ([v,ii (nn xs i),ii (nn ys i)]++gc).toArray W fun e W' =>
   ∃ v',e = .returned v'∧I (i+1) v' W'∧Fr (fun k=>w.heap.size+4≤k) W W') :
  Calls Tryz.prog yu #[.func (.func lc) ⟨[]⟩ ⟨[iW b1,iW b2]⟩,v0,.func (.func g) ⟨[]⟩ ⟨gc⟩] w fun e W'=>∃ v,e = .returned v∧I (max xs.length ys.length) v W'∧Ext w W':=by
 have c0:v0.cells = #[v0]:=by have:=hone _ _ _ hI0;cases v0 <;> first | rfl | (simp [Value.oneCell'] at this)
 refine yU Tryz.func103 Z Z <| dz <| cu <| ek Z (rk Z) Z <| ek Z (rk Z) Z ?_;rw [c0];obtain ⟨w1,hw1⟩:∃ w1,(w.alloc (.cells #[v0] tb)).alloc (.cells (Value.func (.func g) ⟨[]⟩ ⟨gc⟩).cells jy)=w1:=⟨_,rfl⟩;have B0:Blk w1 w.heap.size tb [v0]:=by rw [← hw1];exact (Blk.new w _ [v0]).ext (Fr.alloc _ _)
 have B1:Blk w1 (w.heap.size+1) jy [.func (.func g) ⟨[]⟩ ⟨gc⟩]:=by
  rw [← hw1];have:=Blk.new (w.alloc (.cells #[v0] tb)) jy [.func (.func g) ⟨[]⟩ ⟨gc⟩];rwa [World.size_alloc] at this
 have e1:Ext w w1:=by rw [← hw1];exact (Fr.alloc _ _).trans (Fr.alloc _ _)
 have z1:w1.heap.size=w.heap.size+2:=by rw [← hw1];simp
 have I1:I 0 v0 w1:=hst _ _ _ _ rC hI0 e1 (fun k h=>h.elim);rw [World.size_alloc,hw1];clear hw1
 repeat refine o_p Z Z Z ?_
 refine ec <| b8 <| dz <| dz <| cu ?_
 repeat refine o_p Z Z Z ?_
 refine ec <| b8 <| jk <| xu Z ?_;intro r hr1 hr2 hr3 hr4 hr5 hr6 hkn;obtain ⟨w2,hw2⟩:∃ w2,(w1.alloc (.deferred (some []))).alloc (.loop r)=w2:=⟨_,rfl⟩;have e2:Ext w1 w2:=by rw [← hw2];exact (Fr.alloc _ _).trans (Fr.alloc _ _)
 have D2:w2.heap[w.heap.size+2]? = some (.deferred (some [])):=by
  rw [← hw2,← z1];exact (Below.heap_alloc _ _ _ (by simp)).trans (World.alloc_heap_new w1 _)
 have L2:w2.heap[w.heap.size+3]? = some (.loop r):=by
  rw [← hw2];have:=World.alloc_heap_new (w1.alloc (.deferred (some []))) (.loop r);rwa [World.size_alloc,z1] at this
 have z2:w2.heap.size=w.heap.size+4:=by rw [← hw2];simp [z1]
 rw [hw2];rw [z1]
 let J:Nat→World→Prop:=fun i W=>∃ v,Blk W w.heap.size tb [v]∧Blk W (w.heap.size+1) jy [.func (.func g) ⟨[]⟩ ⟨gc⟩]∧I i v W∧W.heap[w.heap.size+2]? = some (.deferred (some [])) ∧
  W.heap[w.heap.size+3]? = some (.loop r)∧Ext w W∧w.heap.size+4≤W.heap.size
 have hJ0:J 0 w2:=⟨v0,B0.ext e2,B1.ext e2,hst _ _ _ _ rC I1 e2 (fun k h=>h.elim),D2,L2,e1.trans e2,by omega⟩;refine (cV J h1 h2 ha hb (fun i W ⟨v,_,_,_,_,_,h,_⟩=>h) ?_ ?_ hJ0).mono ?_
 ·rintro i W W' ⟨v,hb0,hb1,hI,hD,hL,hE,hz⟩ hW;exact ⟨v,hb0.ext hW,hb1.ext hW,hst _ _ _ _ rC hI hW (fun k h=>h.elim),(hW.blk (by omega)).trans hD,(hW.blk (by omega)).trans hL,hE.trans hW,aoz hz hW.size⟩
 ·rintro i hi W ⟨v,hb0,hb1,hI,hD,hL,hE,hz⟩

  refine kY hL (by rw [hr3];rfl) (by rw [hr3];decide) hkn ?_;rw [hr3,hr4,hr5];refine dz <| cu ?_
  repeat refine o_p Z Z Z ?_
  refine ec <| b8 <| cu ?_
  repeat refine o_p Z Z Z ?_
  refine ec <| yT hL hr1 ?_;obtain ⟨W1,hW1⟩:∃ W1,W.putObj (w.heap.size+3) (.loop {r with state:= .busy})=W1:=⟨_,rfl⟩;have f1:Fr (· = w.heap.size+3) W W1:=by rw [← hW1];exact Fr.putObj _ _ _
  have hL1:W1.heap[w.heap.size+3]? = some (.loop {r with state:= .busy}):=by rw [← hW1];exact World.putObj_heap_same (by omega)
  have hb0':=hb0.fr f1 (by omega);have hb1':=hb1.fr f1 (by omega);have hI':=hst _ _ _ _ _ hI f1 (fun k h=>by omega);have hD':=(f1.keep (w.heap.size+2) (by omega) (by omega)).trans hD;have hE':Ext w W1:=hE.trans' f1 (fun j hj h=>by omega);have hz':w.heap.size+4≤W1.heap.size:=aoz hz f1.size;rw [hW1];refine jk <| cu <| ek Z (br Z Z Z (hb1'.cell 0)) Z <| ek Z (br Z Z Z (hb0'.cell 0)) Z ?_
  repeat refine o_p Z Z Z ?_
  refine iq Z (eh Z) Z <| (hstep i v W1 hi hI' hE' hz').mono ?_;rintro _ W2 ⟨v',rfl,hI2,f2⟩;refine ⟨_,rfl,?_⟩;have hb0'':=hb0'.fr f2 (by omega);have hb1'':=hb1'.fr f2 (by omega);have hD'':=(f2.keep (w.heap.size+2) (by omega) (by omega)).trans hD';have hL'':=(f2.keep (w.heap.size+3) (by omega) (by omega)).trans hL1;have hE'':Ext w W2:=hE'.trans' f2 (fun j hj h=>by omega);have hz'':w.heap.size+4≤W2.heap.size:=aoz hz' f2.size;refine aK Z (vp Z Z Z Z (hone _ _ _ hI2) (hb0''.cell 0) (hb0''.frozen 0)) ?_;have f3:=Fr.setCell W2 ⟨w.heap.size,0,none⟩ v';have hL3:=(f3.keep (w.heap.size+3) (by omega) (by simp)).trans hL'';have hrr:({r with state:= .ready,pending:=none}:Loop)=r:=by cases r;simp_all
  have hL4:∀ r',r'=r→((W2.setCell ⟨w.heap.size,0,none⟩ v').putObj (w.heap.size+3) (.loop r')).heap[w.heap.size+3]? = some (.loop r):=fun r' e=>by
   rw [World.putObj_heap_same (by simp;omega),e]
  refine ec <| nc <| zo hL3 ⟨rfl,v',?_⟩;have hL5:=hL4 _ hrr;generalize hW4:(W2.setCell ⟨w.heap.size,0,none⟩ v').putObj (w.heap.size+3) _=W4 at hL5;have f4:Fr (· = w.heap.size+3) (W2.setCell ⟨w.heap.size,0,none⟩ v') W4:=by rw [← hW4];exact Fr.putObj _ _ _
  show Blk _ _ _ _∧_;refine ⟨?_,?_,?_,?_,?_,?_,?_⟩
  ·exact ((hb0''.set 0 v').fr f4 (by omega))
  ·exact (hb1''.fr f3 (by simp)).fr f4 (by omega)
  ·exact hst _ _ _ _ _ (hst _ _ _ _ _ hI2 f3 (fun k h=>by simp at h;omega)) f4 (fun k h=>by omega)
  ·exact (f4.keep _ (by simp;omega) (by omega)).trans ((f3.keep _ (by omega) (by simp)).trans hD'')
  ·exact hL5
  ·exact (hE''.trans' f3 (fun j hj h=>by simp at h;omega)).trans' f4 (fun j hj h=>by omega)
  ·have:=f3.size;have:=f4.size;omega
 ·rintro e W ⟨⟨u,rfl⟩,v,hb0,hb1,hI,hD,hL,hE,hz⟩;refine ⟨⟨_,rfl⟩,r,hL,by rw [hr1];decide,?_⟩;rw [hr2]

  dsimp only;generalize hW4:W.putObj (w.heap.size+2+1) _=W4;have f1:Fr (· = w.heap.size+3) W W4:=by rw [← hW4];exact Fr.putObj _ _ _
  refine nc <| b8 <| dz <| cu <| ek Z (br Z Z Z ((hb0.fr f1 (by omega)).cell 0)) Z ?_
  repeat refine o_p Z Z Z ?_
  have hD1:=(f1.keep (w.heap.size+2) (by omega) (by omega)).trans hD;refine (ec (b8 (fj (yV Z Z hD1 ⟨v,rfl,?_,?_⟩))))
  ·exact hst _ _ _ _ _ (hst _ _ _ _ _ hI f1 (fun k h=>by omega)) (Fr.putObj _ _ _) (fun k h=>by omega)
  ·exact (hE.trans' f1 (fun j hj h=>by omega)).trans' (Fr.putObj _ _ _) (fun j hj h=>by omega)

theorem wC {b1 b2:Nat} {va vb:Value} {xs ys:List Int} {w:World} (I:Nat→Value→World→Prop) (g:FuncId) (gc:List Value) [Bodied Tryz.prog g] (v0:Value)
  (h1:w.cell? ⟨b1,0,none⟩=some va) (h2:w.cell? ⟨b2,0,none⟩=some vb) (ha:IL w va xs) (hb:IL w vb ys) (hI0:I 0 v0 w) (hone:∀ i v W,I i v W→v.oneCell'=true)
  (hst:∀ i v W W' S,I i v W→Fr S W W'→(∀ k,S k→w.heap.size≤k∧k<w.heap.size+4)→I i v W')
  (hstep:∀ i v W,i<max xs.length ys.length→I i v W→Ext w W→w.heap.size+4≤W.heap.size→Calls Tryz.prog g ([v,ii (nn xs i),ii (nn ys i)]++gc).toArray W fun e W' =>
   ∃ v',e = .returned v'∧I (i+1) v' W'∧Fr (fun k=>w.heap.size+4≤k) W W') :
  Calls Tryz.prog lZ #[.func (.func lc) ⟨[]⟩ ⟨[iW b1,iW b2]⟩,v0,.func (.func g) ⟨[]⟩ ⟨gc⟩] w fun e W'=>∃ v,e = .returned v∧I (max xs.length ys.length) v W'∧Ext w W':=by
 have c0:v0.cells = #[v0]:=by have:=hone _ _ _ hI0;cases v0 <;> first | rfl | (simp [Value.oneCell'] at this)
 refine yU Tryz.func329 Z Z <| dz <| cu <| ek Z (rk Z) Z <| ek Z (rk Z) Z ?_;rw [c0];obtain ⟨w1,hw1⟩:∃ w1,(w.alloc (.cells #[v0] fd)).alloc (.cells (Value.func (.func g) ⟨[]⟩ ⟨gc⟩).cells km)=w1:=⟨_,rfl⟩;have B0:Blk w1 w.heap.size fd [v0]:=by rw [← hw1];exact (Blk.new w _ [v0]).ext (Fr.alloc _ _)
 have B1:Blk w1 (w.heap.size+1) km [.func (.func g) ⟨[]⟩ ⟨gc⟩]:=by
  rw [← hw1];have:=Blk.new (w.alloc (.cells #[v0] fd)) km [.func (.func g) ⟨[]⟩ ⟨gc⟩];rwa [World.size_alloc] at this
 have e1:Ext w w1:=by rw [← hw1];exact (Fr.alloc _ _).trans (Fr.alloc _ _)
 have z1:w1.heap.size=w.heap.size+2:=by rw [← hw1];simp
 have I1:I 0 v0 w1:=hst _ _ _ _ rC hI0 e1 (fun k h=>h.elim);rw [World.size_alloc,hw1];clear hw1
 repeat refine o_p Z Z Z ?_
 refine ec <| b8 <| dz <| dz <| cu ?_
 repeat refine o_p Z Z Z ?_
 refine ec <| b8 <| jk <| xu Z ?_;intro r hr1 hr2 hr3 hr4 hr5 hr6 hkn;obtain ⟨w2,hw2⟩:∃ w2,(w1.alloc (.deferred (some []))).alloc (.loop r)=w2:=⟨_,rfl⟩;have e2:Ext w1 w2:=by rw [← hw2];exact (Fr.alloc _ _).trans (Fr.alloc _ _)
 have D2:w2.heap[w.heap.size+2]? = some (.deferred (some [])):=by
  rw [← hw2,← z1];exact (Below.heap_alloc _ _ _ (by simp)).trans (World.alloc_heap_new w1 _)
 have L2:w2.heap[w.heap.size+3]? = some (.loop r):=by
  rw [← hw2];have:=World.alloc_heap_new (w1.alloc (.deferred (some []))) (.loop r);rwa [World.size_alloc,z1] at this
 have z2:w2.heap.size=w.heap.size+4:=by rw [← hw2];simp [z1]
 rw [hw2];rw [z1]
 let J:Nat→World→Prop:=fun i W=>∃ v,Blk W w.heap.size fd [v]∧Blk W (w.heap.size+1) km [.func (.func g) ⟨[]⟩ ⟨gc⟩]∧I i v W∧W.heap[w.heap.size+2]? = some (.deferred (some [])) ∧
  W.heap[w.heap.size+3]? = some (.loop r)∧Ext w W∧w.heap.size+4≤W.heap.size
 have hJ0:J 0 w2:=⟨v0,B0.ext e2,B1.ext e2,hst _ _ _ _ rC I1 e2 (fun k h=>h.elim),D2,L2,e1.trans e2,by omega⟩;refine (cV J h1 h2 ha hb (fun i W ⟨v,_,_,_,_,_,h,_⟩=>h) ?_ ?_ hJ0).mono ?_
 ·rintro i W W' ⟨v,hb0,hb1,hI,hD,hL,hE,hz⟩ hW;exact ⟨v,hb0.ext hW,hb1.ext hW,hst _ _ _ _ rC hI hW (fun k h=>h.elim),(hW.blk (by omega)).trans hD,(hW.blk (by omega)).trans hL,hE.trans hW,aoz hz hW.size⟩
 ·rintro i hi W ⟨v,hb0,hb1,hI,hD,hL,hE,hz⟩

  refine kY hL (by rw [hr3];rfl) (by rw [hr3];decide) hkn ?_;rw [hr3,hr4,hr5];refine dz <| cu ?_
  repeat refine o_p Z Z Z ?_
  refine ec <| b8 <| cu ?_
  repeat refine o_p Z Z Z ?_
  refine ec <| yT hL hr1 ?_;obtain ⟨W1,hW1⟩:∃ W1,W.putObj (w.heap.size+3) (.loop {r with state:= .busy})=W1:=⟨_,rfl⟩;have f1:Fr (· = w.heap.size+3) W W1:=by rw [← hW1];exact Fr.putObj _ _ _
  have hL1:W1.heap[w.heap.size+3]? = some (.loop {r with state:= .busy}):=by rw [← hW1];exact World.putObj_heap_same (by omega)
  have hb0':=hb0.fr f1 (by omega);have hb1':=hb1.fr f1 (by omega);have hI':=hst _ _ _ _ _ hI f1 (fun k h=>by omega);have hD':=(f1.keep (w.heap.size+2) (by omega) (by omega)).trans hD;have hE':Ext w W1:=hE.trans' f1 (fun j hj h=>by omega);have hz':w.heap.size+4≤W1.heap.size:=aoz hz f1.size;rw [hW1];refine jk <| cu <| ek Z (br Z Z Z (hb1'.cell 0)) Z <| ek Z (br Z Z Z (hb0'.cell 0)) Z ?_
  repeat refine o_p Z Z Z ?_
  refine iq Z (eh Z) Z <| (hstep i v W1 hi hI' hE' hz').mono ?_;rintro _ W2 ⟨v',rfl,hI2,f2⟩;refine ⟨_,rfl,?_⟩;have hb0'':=hb0'.fr f2 (by omega);have hb1'':=hb1'.fr f2 (by omega);have hD'':=(f2.keep (w.heap.size+2) (by omega) (by omega)).trans hD';have hL'':=(f2.keep (w.heap.size+3) (by omega) (by omega)).trans hL1;have hE'':Ext w W2:=hE'.trans' f2 (fun j hj h=>by omega);have hz'':w.heap.size+4≤W2.heap.size:=aoz hz' f2.size;refine aK Z (vp Z Z Z Z (hone _ _ _ hI2) (hb0''.cell 0) (hb0''.frozen 0)) ?_;have f3:=Fr.setCell W2 ⟨w.heap.size,0,none⟩ v';have hL3:=(f3.keep (w.heap.size+3) (by omega) (by simp)).trans hL'';have hrr:({r with state:= .ready,pending:=none}:Loop)=r:=by cases r;simp_all
  have hL4:∀ r',r'=r→((W2.setCell ⟨w.heap.size,0,none⟩ v').putObj (w.heap.size+3) (.loop r')).heap[w.heap.size+3]? = some (.loop r):=fun r' e=>by
   rw [World.putObj_heap_same (by simp;omega),e]
  refine ec <| nc <| zo hL3 ⟨rfl,v',?_⟩;have hL5:=hL4 _ hrr;generalize hW4:(W2.setCell ⟨w.heap.size,0,none⟩ v').putObj (w.heap.size+3) _=W4 at hL5;have f4:Fr (· = w.heap.size+3) (W2.setCell ⟨w.heap.size,0,none⟩ v') W4:=by rw [← hW4];exact Fr.putObj _ _ _
  show Blk _ _ _ _∧_;refine ⟨?_,?_,?_,?_,?_,?_,?_⟩
  ·exact ((hb0''.set 0 v').fr f4 (by omega))
  ·exact (hb1''.fr f3 (by simp)).fr f4 (by omega)
  ·exact hst _ _ _ _ _ (hst _ _ _ _ _ hI2 f3 (fun k h=>by simp at h;omega)) f4 (fun k h=>by omega)
  ·exact (f4.keep _ (by simp;omega) (by omega)).trans ((f3.keep _ (by omega) (by simp)).trans hD'')
  ·exact hL5
  ·exact (hE''.trans' f3 (fun j hj h=>by simp at h;omega)).trans' f4 (fun j hj h=>by omega)
  ·have:=f3.size;have:=f4.size;omega
 ·rintro e W ⟨⟨u,rfl⟩,v,hb0,hb1,hI,hD,hL,hE,hz⟩;refine ⟨⟨_,rfl⟩,r,hL,by rw [hr1];decide,?_⟩;rw [hr2]

  dsimp only;generalize hW4:W.putObj (w.heap.size+2+1) _=W4;have f1:Fr (· = w.heap.size+3) W W4:=by rw [← hW4];exact Fr.putObj _ _ _
  refine nc <| b8 <| dz <| cu <| ek Z (br Z Z Z ((hb0.fr f1 (by omega)).cell 0)) Z ?_
  repeat refine o_p Z Z Z ?_
  have hD1:=(f1.keep (w.heap.size+2) (by omega) (by omega)).trans hD;refine (ec (b8 (fj (yV Z Z hD1 ⟨v,rfl,?_,?_⟩))))
  ·exact hst _ _ _ _ _ (hst _ _ _ _ _ hI f1 (fun k h=>by omega)) (Fr.putObj _ _ _) (fun k h=>by omega)
  ·exact (hE.trans' f1 (fun j hj h=>by omega)).trans' (Fr.putObj _ _ _) (fun j hj h=>by omega)

theorem oI {b1 b2:Nat} {va vb:Value} {xs ys:List Int} {w:World} (I:Nat→Value→World→Prop) (g:FuncId) (gc:List Value) [Bodied Tryz.prog g] (v0:Value)
  (h1:w.cell? ⟨b1,0,none⟩=some va) (h2:w.cell? ⟨b2,0,none⟩=some vb) (ha:IL w va xs) (hb:IL w vb ys) (hI0:I 0 v0 w) (hone:∀ i v W,I i v W→v.oneCell'=true)
  (hst:∀ i v W W' S,I i v W→Fr S W W'→(∀ k,S k→w.heap.size≤k∧k<w.heap.size+4)→I i v W')
  (hstep:∀ i v W,i<max xs.length ys.length→I i v W→Ext w W→w.heap.size+4≤W.heap.size→Calls Tryz.prog g ([v,ii (nn xs i),ii (nn ys i)]++gc).toArray W fun e W' =>
   ∃ v',e = .returned v'∧I (i+1) v' W'∧Fr (fun k=>w.heap.size+4≤k) W W') :
  Calls Tryz.prog fJ #[.func (.func lc) ⟨[]⟩ ⟨[iW b1,iW b2]⟩,v0,.func (.func g) ⟨[]⟩ ⟨gc⟩] w fun e W'=>∃ v,e = .returned v∧I (max xs.length ys.length) v W'∧Ext w W':=by
 have c0:v0.cells = #[v0]:=by have:=hone _ _ _ hI0;cases v0 <;> first | rfl | (simp [Value.oneCell'] at this)
 refine yU Tryz.func268 Z Z <| dz <| cu <| ek Z (rk Z) Z <| ek Z (rk Z) Z ?_;rw [c0];obtain ⟨w1,hw1⟩:∃ w1,(w.alloc (.cells #[v0] ez)).alloc (.cells (Value.func (.func g) ⟨[]⟩ ⟨gc⟩).cells jh)=w1:=⟨_,rfl⟩;have B0:Blk w1 w.heap.size ez [v0]:=by rw [← hw1];exact (Blk.new w _ [v0]).ext (Fr.alloc _ _)
 have B1:Blk w1 (w.heap.size+1) jh [.func (.func g) ⟨[]⟩ ⟨gc⟩]:=by
  rw [← hw1];have:=Blk.new (w.alloc (.cells #[v0] ez)) jh [.func (.func g) ⟨[]⟩ ⟨gc⟩];rwa [World.size_alloc] at this
 have e1:Ext w w1:=by rw [← hw1];exact (Fr.alloc _ _).trans (Fr.alloc _ _)
 have z1:w1.heap.size=w.heap.size+2:=by rw [← hw1];simp
 have I1:I 0 v0 w1:=hst _ _ _ _ rC hI0 e1 (fun k h=>h.elim);rw [World.size_alloc,hw1];clear hw1
 repeat refine o_p Z Z Z ?_
 refine ec <| b8 <| dz <| dz <| cu ?_
 repeat refine o_p Z Z Z ?_
 refine ec <| b8 <| jk <| xu Z ?_;intro r hr1 hr2 hr3 hr4 hr5 hr6 hkn;obtain ⟨w2,hw2⟩:∃ w2,(w1.alloc (.deferred (some []))).alloc (.loop r)=w2:=⟨_,rfl⟩;have e2:Ext w1 w2:=by rw [← hw2];exact (Fr.alloc _ _).trans (Fr.alloc _ _)
 have D2:w2.heap[w.heap.size+2]? = some (.deferred (some [])):=by
  rw [← hw2,← z1];exact (Below.heap_alloc _ _ _ (by simp)).trans (World.alloc_heap_new w1 _)
 have L2:w2.heap[w.heap.size+3]? = some (.loop r):=by
  rw [← hw2];have:=World.alloc_heap_new (w1.alloc (.deferred (some []))) (.loop r);rwa [World.size_alloc,z1] at this
 have z2:w2.heap.size=w.heap.size+4:=by rw [← hw2];simp [z1]
 rw [hw2];rw [z1]
 let J:Nat→World→Prop:=fun i W=>∃ v,Blk W w.heap.size ez [v]∧Blk W (w.heap.size+1) jh [.func (.func g) ⟨[]⟩ ⟨gc⟩]∧I i v W∧W.heap[w.heap.size+2]? = some (.deferred (some [])) ∧
  W.heap[w.heap.size+3]? = some (.loop r)∧Ext w W∧w.heap.size+4≤W.heap.size
 have hJ0:J 0 w2:=⟨v0,B0.ext e2,B1.ext e2,hst _ _ _ _ rC I1 e2 (fun k h=>h.elim),D2,L2,e1.trans e2,by omega⟩;refine (cV J h1 h2 ha hb (fun i W ⟨v,_,_,_,_,_,h,_⟩=>h) ?_ ?_ hJ0).mono ?_
 ·rintro i W W' ⟨v,hb0,hb1,hI,hD,hL,hE,hz⟩ hW;exact ⟨v,hb0.ext hW,hb1.ext hW,hst _ _ _ _ rC hI hW (fun k h=>h.elim),(hW.blk (by omega)).trans hD,(hW.blk (by omega)).trans hL,hE.trans hW,aoz hz hW.size⟩
 ·rintro i hi W ⟨v,hb0,hb1,hI,hD,hL,hE,hz⟩

  refine kY hL (by rw [hr3];rfl) (by rw [hr3];decide) hkn ?_;rw [hr3,hr4,hr5];refine dz <| cu ?_
  repeat refine o_p Z Z Z ?_
  refine ec <| b8 <| cu ?_
  repeat refine o_p Z Z Z ?_
  refine ec <| yT hL hr1 ?_;obtain ⟨W1,hW1⟩:∃ W1,W.putObj (w.heap.size+3) (.loop {r with state:= .busy})=W1:=⟨_,rfl⟩;have f1:Fr (· = w.heap.size+3) W W1:=by rw [← hW1];exact Fr.putObj _ _ _
  have hL1:W1.heap[w.heap.size+3]? = some (.loop {r with state:= .busy}):=by rw [← hW1];exact World.putObj_heap_same (by omega)
  have hb0':=hb0.fr f1 (by omega);have hb1':=hb1.fr f1 (by omega);have hI':=hst _ _ _ _ _ hI f1 (fun k h=>by omega);have hD':=(f1.keep (w.heap.size+2) (by omega) (by omega)).trans hD;have hE':Ext w W1:=hE.trans' f1 (fun j hj h=>by omega);have hz':w.heap.size+4≤W1.heap.size:=aoz hz f1.size;rw [hW1];refine jk <| cu <| ek Z (br Z Z Z (hb1'.cell 0)) Z <| ek Z (br Z Z Z (hb0'.cell 0)) Z ?_
  repeat refine o_p Z Z Z ?_
  refine iq Z (eh Z) Z <| (hstep i v W1 hi hI' hE' hz').mono ?_;rintro _ W2 ⟨v',rfl,hI2,f2⟩;refine ⟨_,rfl,?_⟩;have hb0'':=hb0'.fr f2 (by omega);have hb1'':=hb1'.fr f2 (by omega);have hD'':=(f2.keep (w.heap.size+2) (by omega) (by omega)).trans hD';have hL'':=(f2.keep (w.heap.size+3) (by omega) (by omega)).trans hL1;have hE'':Ext w W2:=hE'.trans' f2 (fun j hj h=>by omega);have hz'':w.heap.size+4≤W2.heap.size:=aoz hz' f2.size;refine aK Z (vp Z Z Z Z (hone _ _ _ hI2) (hb0''.cell 0) (hb0''.frozen 0)) ?_;have f3:=Fr.setCell W2 ⟨w.heap.size,0,none⟩ v';have hL3:=(f3.keep (w.heap.size+3) (by omega) (by simp)).trans hL'';have hrr:({r with state:= .ready,pending:=none}:Loop)=r:=by cases r;simp_all
  have hL4:∀ r',r'=r→((W2.setCell ⟨w.heap.size,0,none⟩ v').putObj (w.heap.size+3) (.loop r')).heap[w.heap.size+3]? = some (.loop r):=fun r' e=>by
   rw [World.putObj_heap_same (by simp;omega),e]
  refine ec <| nc <| zo hL3 ⟨rfl,v',?_⟩;have hL5:=hL4 _ hrr;generalize hW4:(W2.setCell ⟨w.heap.size,0,none⟩ v').putObj (w.heap.size+3) _=W4 at hL5;have f4:Fr (· = w.heap.size+3) (W2.setCell ⟨w.heap.size,0,none⟩ v') W4:=by rw [← hW4];exact Fr.putObj _ _ _
  show Blk _ _ _ _∧_;refine ⟨?_,?_,?_,?_,?_,?_,?_⟩
  ·exact ((hb0''.set 0 v').fr f4 (by omega))
  ·exact (hb1''.fr f3 (by simp)).fr f4 (by omega)
  ·exact hst _ _ _ _ _ (hst _ _ _ _ _ hI2 f3 (fun k h=>by simp at h;omega)) f4 (fun k h=>by omega)
  ·exact (f4.keep _ (by simp;omega) (by omega)).trans ((f3.keep _ (by omega) (by simp)).trans hD'')
  ·exact hL5
  ·exact (hE''.trans' f3 (fun j hj h=>by simp at h;omega)).trans' f4 (fun j hj h=>by omega)
  ·have:=f3.size;have:=f4.size;omega
 ·rintro e W ⟨⟨u,rfl⟩,v,hb0,hb1,hI,hD,hL,hE,hz⟩;refine ⟨⟨_,rfl⟩,r,hL,by rw [hr1];decide,?_⟩;rw [hr2]

  dsimp only;generalize hW4:W.putObj (w.heap.size+2+1) _=W4;have f1:Fr (· = w.heap.size+3) W W4:=by rw [← hW4];exact Fr.putObj _ _ _
  refine nc <| b8 <| dz <| cu <| ek Z (br Z Z Z ((hb0.fr f1 (by omega)).cell 0)) Z ?_
  repeat refine o_p Z Z Z ?_
  have hD1:=(f1.keep (w.heap.size+2) (by omega) (by omega)).trans hD;refine (ec (b8 (fj (yV Z Z hD1 ⟨v,rfl,?_,?_⟩))))
  ·exact hst _ _ _ _ _ (hst _ _ _ _ _ hI f1 (fun k h=>by omega)) (Fr.putObj _ _ _) (fun k h=>by omega)
  ·exact (hE.trans' f1 (fun j hj h=>by omega)).trans' (Fr.putObj _ _ _) (fun j hj h=>by omega)


def fM (p:Int→Int→Int) (xs ys:List Int):List Int:=(List.range (max xs.length ys.length)).map fun i=>p (nn xs i) (nn ys i)
abbrev joinL:=fM max
theorem C3 (a b:Int) (w:World):Calls Tryz.prog dO #[ii a,ii b] w fun e w'=>e = .returned (ii (max a b))∧w=w':=by
 refine ut Tryz.func232 Z Z ?_
 repeat (first | refine o_p Z Z Z ?_ | refine on ?_ | refine sr ?_ | refine ss ?_)
 exact fj (ic Z Z ⟨rfl,rfl⟩)
theorem Gk (b:Bool) (x y:Int) (w:World):Calls Tryz.prog eV #[.bool b,ii x,ii y] w fun e w'=>e = .returned (.bool (b&&decide (x≤y)))∧w=w':=by
 refine qY Tryz.func105 Z Z <| dz <| cu ?_
 repeat refine o_p Z Z Z ?_
 refine ec <| b8 <| dz <| cu ?_
 repeat refine o_p Z Z Z ?_
 cases b
 ·repeat (first | refine q6 Z Z ?_ | refine o_p Z Z Z ?_)
  exact (ec (b8 (fj (ic Z Z ⟨rfl,rfl⟩))))
 ·repeat (first | refine q6 Z Z ?_ | refine o_p Z Z Z ?_)
  exact (ec (b8 (fj (ic Z Z ⟨rfl,rfl⟩))))
def capI:Int:=4611686018427387904
theorem wD (n a y:Int) (w:World) (hn:0≤n∧n≤capI) (ha:0≤a):Calls Tryz.prog zt #[ii n,ii a,ii y] w fun e w'=>e = .returned (ii (n+min a (capI - n)))∧w=w':=by
 unfold capI at *;refine qY Tryz.func330 Z Z <| dz <| cu ?_
 repeat refine o_p Z Z Z ?_
 refine ec <| b8 <| dz <| cu ?_
 repeat refine o_p Z Z Z ?_
 refine o_c Z Z Z (by unfold I64;omega) ?_
 repeat refine o_p Z Z Z ?_
 refine o_c Z Z Z (by unfold I64;omega) ?_
 repeat refine o_p Z Z Z ?_
 exact (ec (b8 (fj (ic Z Z ⟨rfl,rfl⟩))))

theorem wE (p:Int→Int→Int) (g:FuncId) [Bodied Tryz.prog g] (hg:∀ a b w,Calls Tryz.prog g #[ii a,ii b] w fun e w'=>e = .returned (ii (p a b))∧w=w')
  {v:Value} {i base bp:Nat} {cs:List Value} {a b:Int} {w:World} (hv:j9 w base fd 1 v i cs) (hbp:w.cell? ⟨bp,0,none⟩=some (.func (.func g) ⟨[]⟩ ⟨[]⟩)) (hi:i+1≤67108864) (hbase:base≤w.heap.size) :
  Calls Tryz.prog zr #[v,ii a,ii b,iW bp] w fun e w'=>∃ v',e = .returned v'∧j9 w' base fd 1 v' (i+1) (cs ++ [ii (p a b)])∧Fr (fun k=>base≤k) w w':=by
 refine Mq Tryz.func269 Z Z <| dz <| cu ?_
 repeat refine o_p Z Z Z ?_
 refine ec <| b8 <| dz <| cu ?_
 repeat refine o_p Z Z Z ?_
 refine ek Z (br Z Z Z hbp) Z ?_
 repeat refine o_p Z Z Z ?_
 refine iq Z (eh Z) Z <| (hg a b w).mono ?_;rintro _ w1 ⟨rfl,rfl⟩;refine ⟨_,rfl,?_⟩;refine ek Z (kr (vs:= [(0,ii (p a b))]) (cells:= [ii (p a b)]) Z Z Z Z (by decide) (fun z hz=>by
  match z,hz with
  | [y], _ => rfl)) Z ?_
 have B:=Blk.new w fd [ii (p a b)];refine wT Z Z Z Z Z Z Z Z (j9.ext hv (Fr.alloc _ _)) (B.sl (n:=1) (sz:=1) Z (by decide)) (by simp;rfl) hi (by simp;omega) ?_;intro v' w' own fr
 repeat refine o_p Z Z Z ?_
 refine ec <| b8 <| fj <| ic Z Z ⟨v',rfl,own,((Fr.alloc _ _).trans' (fr.mono fun k _ hk=> ?_) (fun j hj h=>h))⟩;exact (j9.block hv hk).1

theorem C4 (p:Int→Int→Int) (g:FuncId) [Bodied Tryz.prog g] (hg:∀ a b w,Calls Tryz.prog g #[ii a,ii b] w fun e w'=>e = .returned (ii (p a b))∧w=w')
  {va vb:Value} {xs ys:List Int} {w:World} (ha:IL w va xs) (hb:IL w vb ys) (hx:xs.length≤1048576) (hy:ys.length≤1048576) :
  Calls Tryz.prog pZ #[va,vb,.func (.func g) ⟨[]⟩ ⟨[]⟩] w fun e w'=>∃ v,e = .returned v∧j9 w' w.heap.size fd 1 v (fM p xs ys).length ((fM p xs ys).map (Value.int .i64))∧Ext w w':=by
 have ca:va.cells = #[va]:=by obtain ⟨A,c,rfl,_⟩:=ha.op;rfl
 have cb:vb.cells = #[vb]:=by obtain ⟨A,c,rfl,_⟩:=hb.op;rfl
 refine qY Tryz.func231 Z Z <| dz <| cu <| ek Z (rk Z) Z ?_
 repeat refine o_p Z Z Z ?_
 refine ec <| b8 <| dz <| cu ?_
 repeat refine o_p Z Z Z ?_
 refine iq Z (eh Z) Z <| kD.mono ?_;rintro _ w1 ⟨rfl,rfl⟩;refine ⟨_,rfl,?_⟩;rw [ca,cb];have B0:Blk (w.alloc (.cells (Value.func (.func g) ⟨[]⟩ ⟨[]⟩).cells n8)) w.heap.size n8 [.func (.func g) ⟨[]⟩ ⟨[]⟩]:=Blk.new w _ _;generalize hw0:w.alloc (.cells (Value.func (.func g) ⟨[]⟩ ⟨[]⟩).cells n8)=w0 at *;have e0:Ext w w0:=by rw [← hw0];exact Fr.alloc _ _
 have z0:w0.heap.size=w.heap.size+1:=by rw [← hw0];simp
 have B1:Blk (w0.alloc (.cells #[va] ez)) w0.heap.size ez [va]:=Blk.new w0 _ [va];generalize hw1:w0.alloc (.cells #[va] ez)=w1 at *;have e1:Ext w0 w1:=by rw [← hw1];exact Fr.alloc _ _
 have z1:w1.heap.size=w0.heap.size+1:=by rw [← hw1];simp
 have B2:Blk (w1.alloc (.cells #[vb] ez)) w1.heap.size ez [vb]:=Blk.new w1 _ [vb];generalize hw2:w1.alloc (.cells #[vb] ez)=w2 at *;have e2:Ext w1 w2:=by rw [← hw2];exact Fr.alloc _ _
 have z2:w2.heap.size=w1.heap.size+1:=by rw [← hw2];simp
 have eE:Ext w w2:=(e0.trans e1).trans e2
 repeat refine o_p Z Z Z ?_
 rw [z1] at B2;have hlen:(fM p xs ys).length=max xs.length ys.length:=by simp [fM]
 have Bf:=(B0.ext e1).ext e2;refine iq Z (eh Z) Z ((oI (fun i v W=>Blk W w.heap.size n8 [.func (.func g) ⟨[]⟩ ⟨[]⟩]∧j9 W (w2.heap.size+4) fd 1 v i (((fM p xs ys).take i).map (Value.int .i64)))
  zr [iW w.heap.size] (.slice none 0 0) ((B1.ext e2).cell 0) (B2.cell 0) (ha.ext eE) (hb.ext eE) ⟨Bf,by simpa using j9.nil _ _ _ _⟩ ?_ ?_ ?_).mono ?_)
 ·rintro i v W ⟨_,hI⟩;rcases hI.2 with ⟨rfl,_⟩ | ⟨_,_,_,rfl,_⟩ <;> rfl
 ·rintro i v W W' S ⟨hB,hI⟩ hf hS;refine ⟨hB.fr hf (fun h=>by have:=hS _ h;omega),j9.fr hI hf (fun k hk hs=> ?_)⟩;have h1:=hS k hs;have h2:=(j9.block hI hk).1;omega
 ·rintro i v W hi ⟨hB,hI⟩ hE hz;refine (wE p g hg hI (hB.cell 0) (by omega) (by omega)).mono ?_;rintro e W' ⟨v',rfl,hI',f⟩;refine ⟨v',rfl,⟨hB.fr f (by omega),?_⟩,f⟩;have hi':i<(fM p xs ys).length:=by omega
  rw [ang hi'];have:(fM p xs ys)[i]=p (nn xs i) (nn ys i):=by simp [fM]
  rw [anu,List.map_singleton,this];exact hI'
 ·rintro _ w3 ⟨v,rfl,⟨hB,hI⟩,hE⟩;refine ⟨_,rfl,?_⟩
  repeat refine o_p Z Z Z ?_
  refine ec <| b8 <| fj <| ic Z Z ⟨v,rfl,?_,eE.trans hE⟩;rw [← hlen,an7] at hI;exact j9.weaken hI (by omega)

theorem xM {va vb:Value} {xs ys:List Int} {w:World} (ha:IL w va xs) (hb:IL w vb ys) (hx:xs.length≤1048576) (hy:ys.length≤1048576) :
  Calls Tryz.prog jE #[va,vb] w fun e w'=>∃ v,e = .returned v∧j9 w' w.heap.size fd 1 v (joinL xs ys).length ((joinL xs ys).map (Value.int .i64))∧Ext w w':=by
 refine ut Tryz.func150 Z Z ?_
 repeat (first | refine o_p Z Z Z ?_ | refine on ?_ | refine sr ?_ | refine ss ?_)
 refine iq Z (eh Z) Z <| (C4 max dO C3 ha hb hx hy).mono ?_;rintro _ w1 ⟨v,rfl,hm,hE⟩;refine ⟨_,rfl,?_⟩
 repeat (first | refine o_p Z Z Z ?_ | refine on ?_ | refine sr ?_ | refine ss ?_)
 exact fj (ic Z Z ⟨v,rfl,hm,hE⟩)

theorem bI (xs:List Int) (i:Nat):0≤nn xs i:=by unfold nn;omega
theorem Gl (xs:List Int) (r:Int):0≤atL xs r:=by unfold atL;split <;> first | exact bI _ _ | omega

def lf (xs ys:List Int):Bool:=(List.range (max xs.length ys.length)).all fun i=>decide (nn xs i≤nn ys i)
theorem qx (xs ys:List Int):lf xs ys=true↔∀ i,nn xs i≤nn ys i:=by
 simp only [lf,an4,aoa,aoy];refine ⟨fun h i=> ?_,fun h i _=>h i⟩;by_cases hi:i<max xs.length ys.length
 ·exact h i hi
 ·rw [sZ (by omega),sZ (by omega)];omega
def zu (xs:List Int):Nat→Int
 | 0 => 0
 | i + 1 => zu xs i + min (nn xs i) (capI - zu xs i)
def ko (xs:List Int):Int:=zu xs xs.length
theorem wG (xs:List Int) (i:Nat):0≤zu xs i∧zu xs i≤capI:=by
 induction i with
 | zero => simp [zu, capI]
 | succ i ih => have := bI xs i; simp only [zu]; omega
theorem Gm (q:Int→Int→Bool) (g:FuncId) [Bodied Tryz.prog g] (hg:∀ b x y w,Calls Tryz.prog g #[.bool b,ii x,ii y] w fun e w'=>e = .returned (.bool (b&&q x y))∧w=w')
  {va vb:Value} {xs ys:List Int} {w:World} (ha:IL w va xs) (hb:IL w vb ys) :
  Calls Tryz.prog yu #[.func (.func lc) ⟨[]⟩ ⟨[iW w.heap.size,iW (w.heap.size+1)]⟩,.bool true,.func (.func g) ⟨[]⟩ ⟨[]⟩] ((w.alloc (.cells va.cells ez)).alloc (.cells vb.cells ez))
   fun e w'=>e = .returned (.bool ((List.range (max xs.length ys.length)).all fun i=>q (nn xs i) (nn ys i)))∧Ext w w':=by
 have ca:va.cells = #[va]:=by obtain ⟨A,c,rfl,_⟩:=ha.op;rfl
 have cb:vb.cells = #[vb]:=by obtain ⟨A,c,rfl,_⟩:=hb.op;rfl
 rw [ca,cb];have B1:Blk (w.alloc (.cells #[va] ez)) w.heap.size ez [va]:=Blk.new w _ [va];have e1:Ext w (w.alloc (.cells #[va] ez)):=Fr.alloc _ _;have z1:(w.alloc (.cells #[va] ez)).heap.size=w.heap.size+1:=by simp
 generalize w.alloc (.cells #[va] ez)=w1 at *;have B2:Blk (w1.alloc (.cells #[vb] ez)) w1.heap.size ez [vb]:=Blk.new w1 _ [vb];have e2:Ext w1 (w1.alloc (.cells #[vb] ez)):=Fr.alloc _ _;generalize w1.alloc (.cells #[vb] ez)=w2 at *;have eE:Ext w w2:=e1.trans e2;rw [z1] at B2;refine (tA (fun i v _=>v = .bool ((List.range i).all fun i=>q (nn xs i) (nn ys i))) g [] (.bool true) ((B1.ext e2).cell 0) (B2.cell 0) (ha.ext eE) (hb.ext eE) Z ?_ ?_ ?_).mono ?_
 ·rintro i v W rfl;rfl
 ·rintro i v W W' S rfl _ _;rfl
 ·rintro i v W hi rfl hE hz;refine (hg _ _ _ _).mono ?_;rintro e W' ⟨rfl,rfl⟩;exact ⟨_,rfl,by simp [List.range_succ],Fr.refl _ _⟩
 ·rintro e w3 ⟨v,rfl,rfl,hE⟩;exact ⟨rfl,eE.trans hE⟩

theorem tB {va vb:Value} {xs ys:List Int} {w:World} (ha:IL w va xs) (hb:IL w vb ys):Calls Tryz.prog lP #[va,vb] w fun e w'=>e = .returned (.bool (lf xs ys))∧Ext w w':=by
 refine ut Tryz.func30 Z Z <| sr <| o_p Z Z Z <| on <| sr <| o_p Z Z Z <| o_p Z Z Z <| iq Z (eh Z) Z <| kD.mono ?_;rintro _ w1 ⟨rfl,rfl⟩;refine ⟨_,rfl,?_⟩;refine iq Z (eh Z) Z <| (Gm (fun x y=>decide (x≤y)) eV Gk ha hb).mono ?_;rintro _ w1 ⟨rfl,e1⟩;refine ⟨_,rfl,?_⟩;refine o_p Z Z Z <| on ?_;exact fj (ic Z Z ⟨rfl,e1⟩)
theorem zv {va:Value} {xs:List Int} {w:World} (ha:IL w va xs):Calls Tryz.prog qC #[va] w fun e w'=>e = .returned (ii (ko xs))∧Ext w w':=by
 have ca:va.cells = #[va]:=by obtain ⟨A,c,rfl,_⟩:=ha.op;rfl
 have hb:IL w (.slice none 0 0) ([]:List Int):=VL.nil _ _;have cb:(Value.slice none 0 0).cells = #[.slice none 0 0]:=rfl;refine qX Tryz.func314 Z Z <| sr <| o_p Z Z Z <| on <| sr <| o_p Z Z Z <| iq Z (eh Z) Z <| kD.mono ?_;rintro _ w1 ⟨rfl,rfl⟩;refine ⟨_,rfl,?_⟩;rw [ca,cb];have B1:Blk (w.alloc (.cells #[va] ez)) w.heap.size ez [va]:=Blk.new w _ [va];have e1:Ext w (w.alloc (.cells #[va] ez)):=Fr.alloc _ _;have z1:(w.alloc (.cells #[va] ez)).heap.size=w.heap.size+1:=by simp
 generalize w.alloc (.cells #[va] ez)=w1 at *;have B2:Blk (w1.alloc (.cells #[.slice none 0 0] ez)) w1.heap.size ez [.slice none 0 0]:=Blk.new w1 _ _;have e2:Ext w1 (w1.alloc (.cells #[.slice none 0 0] ez)):=Fr.alloc _ _;generalize w1.alloc (.cells #[.slice none 0 0] ez)=w2 at *;have eE:Ext w w2:=e1.trans e2;rw [z1] at B2;refine iq Z (eh Z) Z ((wC (fun i v _=>v=ii (zu xs i)) zt [] (ii 0) ((B1.ext e2).cell 0) (B2.cell 0) (ha.ext eE) (hb.ext eE) Z ?_ ?_ ?_).mono ?_)
 ·rintro i v W rfl;rfl
 ·rintro i v W W' S rfl _ _;rfl
 ·rintro i v W hi rfl hE hz;refine (wD _ _ _ _ (wG xs i) (bI xs i)).mono ?_;rintro e W' ⟨rfl,rfl⟩;exact ⟨_,rfl,rfl,Fr.refl _ _⟩
 ·rintro e w3 ⟨v,rfl,rfl,hE⟩;refine ⟨_,rfl,(o_p Z Z Z <| on ?_)⟩;have hm:max xs.length ([]:List Int).length=xs.length:=by simp
  rw [hm];exact fj (ic Z Z ⟨rfl,eE.trans hE⟩)

abbrev nh (r n:Int):Value:= .agg #[ii r,ii n]
def fq (xs:List Int) (r n:Int):Bool:=decide (1≤r)&&decide (1≤n)&&decide (n≤atL xs r)

theorem xh {va:Value} {xs:List Int} {r n:Int} {w:World} (ha:IL w va xs):Calls Tryz.prog lS #[va,nh r n] w fun e w'=>e = .returned (.bool (fq xs r n))∧Ext w w':=by
 refine ut Tryz.func75 Z Z <| dz <| cu <| ek Z (rk Z) Z ?_;have B:Blk (w.alloc (.cells (nh r n).cells t_api_Dot)) w.heap.size t_api_Dot [ii r,ii n]:=Blk.new w _ _;have e1:Ext w (w.alloc (.cells (nh r n).cells t_api_Dot)):=Fr.alloc _ _;generalize w.alloc (.cells (nh r n).cells t_api_Dot)=w1 at *;have hR:=B.cell 0;have hN:=B.cell 1;refine o_p Z Z Z <| ec <| b8 <| dz <| qc flo (fun W'=>Ext w1 W') (by decide) (Fr.drew _) <| d_p Z Z Z Z <| ie Z Z (fun W' hW'=>br Z Z Z (hW'.cell hR)) Z <| d_p Z Z Z Z <| d_p Z Z Z Z ?_;refine Xv 8 Z (fun h1=> ?_) (fun h1=> ?_)
 ·refine d_p Z Z Z Z <| ie Z Z (fun W' hW'=>br Z Z Z (hW'.cell hN)) Z <| d_p Z Z Z Z <| d_p Z Z Z Z <| d_p Z Z Z Z ?_;refine Xv 13 Z (fun h2=> ?_) (fun h2=> ?_)
  ·refine d_p Z Z Z Z <| ie Z Z (fun W' hW'=>br Z Z Z (hW'.cell hN)) Z <| d_p Z Z Z Z <| d_p Z Z Z Z <| ie Z Z (fun W' hW'=>br Z Z Z (hW'.cell hR)) Z <| mc Z Z (eh Z) Z <| (mm (ha.ext (e1.trans (Fr.drew _)))).mono ?_;rintro _ w2 ⟨rfl,rfl⟩;refine ⟨_,rfl,Fr.drew _,?_⟩;refine d_p Z Z Z Z <| d_p Z Z Z Z <| d_p Z Z Z Z <| ov <| b8 <| fj <| ic Z Z ⟨?_,e1.trans (Fr.drew _)⟩;simp [fq,h1,h2]
  ·(iterate 7 refine qN Z Z ?_)
   refine d_p Z Z Z Z <| d_p Z Z Z Z <| ov <| b8 <| fj <| ic Z Z ⟨?_,e1.trans (Fr.drew _)⟩;simp [fq,h2]
 ·refine qN Z Z <| qN Z Z <| qN Z Z <| d_p Z Z Z Z <| d_p Z Z Z Z ?_
  (iterate 7 refine qN Z Z ?_)
  refine d_p Z Z Z Z <| d_p Z Z Z Z <| ov <| b8 <| fj <| ic Z Z ⟨?_,e1.trans (Fr.drew _)⟩;simp [fq,h1]

def C5 (xs:List Int) (r:Int):Int × Int:=if r<1∨capI≤atL xs r then (0,0) else (r,atL xs r+1)

theorem oJ {va:Value} {xs:List Int} {r:Int} {w:World} (ha:IL w va xs):Calls Tryz.prog vW #[va,ii r] w fun e w'=>e = .returned (nh (C5 xs r).1 (C5 xs r).2)∧Ext w w':=by
 refine ut Tryz.func138 Z Z <| dz <| cu <| ek Z (yc Z) Z ?_;have B:Blk (w.alloc (.cells (nh 0 0).cells t_api_Dot)) w.heap.size t_api_Dot [ii 0,ii 0]:=Blk.new w _ _;have e1:Ext w (w.alloc (.cells (nh 0 0).cells t_api_Dot)):=Fr.alloc _ _;change OW _ _ _ _ _ _ _ _ (w.alloc (.cells (nh 0 0).cells t_api_Dot));have z1:(w.alloc (.cells (nh 0 0).cells t_api_Dot)).heap.size=w.heap.size+1:=by simp
 generalize w.alloc (.cells (nh 0 0).cells t_api_Dot)=w1 at *;refine on <| sr <| o_p Z Z Z <| o_p Z Z Z <| iq Z (eh Z) Z <| (mm (ha.ext e1)).mono ?_;rintro _ w2 ⟨rfl,rfl⟩;refine ⟨_,rfl,?_⟩;refine o_p Z Z Z <| on <| sr <| o_p Z Z Z <| o_p Z Z Z <| o_w Z Z Z <| o_b Z Z Z <| ek Z (yc Z) Z ?_;have B2:Blk (w1.alloc (.cells (nh 0 0).cells t_api_Dot)) w1.heap.size t_api_Dot [ii 0,ii 0]:=Blk.new w1 _ _;have e2:Ext w1 (w1.alloc (.cells (nh 0 0).cells t_api_Dot)):=Fr.alloc _ _;change OW _ _ _ _ _ _ _ _ (w1.alloc (.cells (nh 0 0).cells t_api_Dot));have z2:(w1.alloc (.cells (nh 0 0).cells t_api_Dot)).heap.size=w1.heap.size+1:=by simp
 generalize w1.alloc (.cells (nh 0 0).cells t_api_Dot)=w2 at *;have hone:∀ a b:Int,∀ u∈ [Value.int .i64 a,ii b],u.oneCell'=true:=by intro a b u hu;simp at hu;rcases hu with rfl | rfl <;> rfl
 refine aK Z (ux (vs:= [ii r,ii (IntKind.i64.wrap (atL xs r+1))]) Z Z Z Z Z (hone _ _) B2 Z) ?_;have B3:=B2.setRow (ds:=spl [ii 0,ii 0] 0 [ii r,ii (IntKind.i64.wrap (atL xs r+1))]);have f3:=Fr.setRow w2 w1.heap.size (spl [ii 0,ii 0] 0 [ii r,ii (IntKind.i64.wrap (atL xs r+1))]).toArray;generalize World.setRow w2 _ _=w3 at *;have e3:Ext w w3:=(e1.trans e2).trans' f3 (fun j hj h=>by omega);have B':=(B.ext e2).fr f3 (by omega);refine on <| ss <| sr <| o_p Z Z Z <| o_p Z Z Z <| o_p Z Z Z ?_;refine Xr 16 Z (fun h1=> ?_) (fun h1=> ?_)
 ·refine q6 Z Z <| q6 Z Z <| o_p Z Z Z <| on <| x4 Z <| sr <| o_b Z Z Z <| aK Z (ux (vs:= [ii 0,ii 0]) Z Z Z Z Z (hone _ _) B' Z) ?_;refine (ec (b8 (fj (ia (gO Z Z Z Z Z (B'.setRow) ⟨?_,?_⟩)))))
  ·simp [C5,h1,spl]
  ·exact e3.trans' (Fr.setRow _ _ _) (fun j hj h=>by omega)
 ·refine o_p Z Z Z <| o_p Z Z Z <| o_p Z Z Z ?_;refine on (wy Z (fun h2=> ?_) (fun h2=> ?_))
  ·refine sr <| o_b Z Z Z <| aK Z (ux (vs:= [ii 0,ii 0]) Z Z Z Z Z (hone _ _) B' Z) ?_;refine (ec (b8 (fj (ia (gO Z Z Z Z Z (B'.setRow) ⟨?_,?_⟩)))))
   ·have:capI≤atL xs r:=h2;simp [C5,this,spl]
   ·exact e3.trans' (Fr.setRow _ _ _) (fun j hj h=>by omega)
  ·refine jx <| b8 <| dz <| cu ?_;refine ek Z (cg (cs:= [ii r,ii (IntKind.i64.wrap (atL xs r+1))]) Z Z Z Z (fun j _=>by rw [aob];exact B3.cell j)) Z ?_;refine aK Z (ux (vs:= [ii r,ii (IntKind.i64.wrap (atL xs r+1))]) Z Z Z Z Z (hone _ _) B' Z) ?_;refine (ec (b8 (fj (gO Z Z Z Z Z (B'.setRow) ⟨?_,?_⟩))))
   ·have h3:¬ capI≤atL xs r:=h2;have h4:IntKind.i64.wrap (atL xs r+1)=atL xs r+1:=I64.wrap (by have:=Gl xs r;unfold capI at h3;unfold I64;omega);simp [C5,h1,h3,h4,spl]
   ·exact e3.trans' (Fr.setRow _ _ _) (fun j hj h=>by omega)


abbrev MI (w:World) (base:Nat) (v:Value) (xs:List Int):Prop:=j9 w base fd 1 v xs.length (xs.map (Value.int .i64))
theorem wH (v:Value) (n:Nat):(madeCells #[v] n).toList=List.replicate n v:=by
 apply aqr
 ·simp [madeCells]
 ·intro i h1 h2;simp [madeCells,Nat.mod_one]

def oK (r n:Int):List Int:=(List.replicate r.toNat 0).set (r - 1).toNat n
def wc (xs:List Int) (r n:Int):List Int:=if r<1∨16<r∨n<1∨n≤atL xs r then joinL xs [] else joinL xs (oK r n)

theorem bJ {va:Value} {xs:List Int} {r n:Int} {w:World} (ha:IL w va xs) (hx:xs.length≤1048576) :
  Calls Tryz.prog vQ #[va,nh r n] w fun e w'=>∃ v,e = .returned v∧MI w' w.heap.size v (wc xs r n)∧Ext w w':=by
 refine ut Tryz.func60 Z Z <| dz <| cu <| ek Z (rk Z) Z ?_;have B:Blk (w.alloc (.cells (nh r n).cells t_api_Dot)) w.heap.size t_api_Dot [ii r,ii n]:=Blk.new w _ _;have e1:Ext w (w.alloc (.cells (nh r n).cells t_api_Dot)):=Fr.alloc _ _;generalize w.alloc (.cells (nh r n).cells t_api_Dot)=w1 at *;have hR:=B.cell 0;have hN:=B.cell 1;refine o_p Z Z Z <| on <| ss <| sr <| o_p Z Z Z <| ek Z (br Z Z Z hR) Z <| o_p Z Z Z <| o_p Z Z Z ?_;have out:∀ W,Ext w1 W→(r<1∨16<r∨n<1∨n≤atL xs r)→Calls Tryz.prog jE #[va,.slice none 0 0] W fun e w'=>∃ v,e = .returned v∧MI w' w.heap.size v (wc xs r n)∧Ext w w':=by
  intro W hW hc;refine (xM (ha.ext (e1.trans hW)) (VL.nil _ _) hx (by simp)).mono ?_;rintro e w2 ⟨v,rfl,hM,hE⟩;refine ⟨v,rfl,?_,(e1.trans hW).trans hE⟩;rw [wc,if_pos hc];exact hM.weaken (e1.trans hW).size
 refine gN 9 Z (fun h1=> ?_) (fun h1=> ?_)
 ·have h1:=of_decide_eq_true h1;refine q6 Z Z <| q6 Z Z <| q6 Z Z <| o_p Z Z Z <| o_p Z Z Z <| q6 Z Z <| q6 Z Z <| q6 Z Z <| o_p Z Z Z <| on <| x4 Z <| sr <| o_p Z Z Z <| iq Z (eh Z) Z <| (out w1 (Fr.refl _ _) (.inl h1)).mono ?_;rintro _ w2 ⟨v,rfl,hM,hE⟩;refine ⟨_,rfl,?_⟩;refine o_p Z Z Z ?_;exact (ec (b8 (fj (ia (ic Z Z ⟨v,rfl,hM,hE⟩)))))
 ·have h1:=of_decide_eq_false h1;refine o_p Z Z Z <| ek Z (br Z Z Z hR) Z <| o_p Z Z Z <| o_p Z Z Z <| o_p Z Z Z ?_;refine gN 14 Z (fun h2=> ?_) (fun h2=> ?_)
  ·have h2:=of_decide_eq_true h2;refine q6 Z Z <| q6 Z Z <| q6 Z Z <| o_p Z Z Z <| on <| x4 Z <| sr <| o_p Z Z Z <| iq Z (eh Z) Z <| (out w1 (Fr.refl _ _) (.inr (.inl h2))).mono ?_;rintro _ w2 ⟨v,rfl,hM,hE⟩;refine ⟨_,rfl,?_⟩;refine o_p Z Z Z ?_;exact (ec (b8 (fj (ia (ic Z Z ⟨v,rfl,hM,hE⟩)))))
  ·have h2:=of_decide_eq_false h2;refine o_p Z Z Z <| ek Z (br Z Z Z hN) Z <| o_p Z Z Z <| o_p Z Z Z ?_;refine on (wy Z (fun h3=> ?_) (fun h3=> ?_))
   ·refine sr <| o_p Z Z Z <| iq Z (eh Z) Z <| (out w1 (Fr.refl _ _) (.inr (.inr (.inl h3)))).mono ?_;rintro _ w2 ⟨v,rfl,hM,hE⟩;refine ⟨_,rfl,?_⟩;refine o_p Z Z Z ?_;exact (ec (b8 (fj (ia (ic Z Z ⟨v,rfl,hM,hE⟩)))))
   ·refine jx <| b8 <| dz <| dz <| qc flo (fun W'=>Ext w1 W') (by decide) (Fr.drew _) <| d_p Z Z Z Z <| ie Z Z (fun W' hW'=>br Z Z Z (hW'.cell hN)) Z <| d_p Z Z Z Z <| d_p Z Z Z Z <| ie Z Z (fun W' hW'=>br Z Z Z (hW'.cell hR)) Z <| mc Z Z (eh Z) Z <| (mm (ha.ext (e1.trans (Fr.drew _)))).mono ?_;rintro _ w2 ⟨rfl,rfl⟩;refine ⟨_,rfl,Fr.drew _,?_⟩;refine d_p Z Z Z Z ?_;refine (ov (b8 (wy Z (fun h4=> ?_) (fun h4=> ?_))))
    ·refine sr <| o_p Z Z Z <| iq Z (eh Z) Z <| (out _ (Fr.drew _) (.inr (.inr (.inr h4)))).mono ?_;rintro _ w2 ⟨v,rfl,hM,hE⟩;refine ⟨_,rfl,?_⟩;refine o_p Z Z Z ?_;exact (ec (b8 (fj (ia (ic Z Z ⟨v,rfl,hM,hE⟩)))))
    ·have e2:Ext w1 w1.drew:=Fr.drew _;generalize w1.drew=w2 at *;refine jx <| b8 <| dz <| cu <| o_p Z Z Z <| ek Z (br Z Z Z (e2.cell hR)) Z <| Il (n:=r.toNat) (base:=w2.heap.size) (sz:=1) Z Z Z Z Z Z Z Z (by omega) (by omega) (aoc _) ?_;intro w3 own e3;have hz3:=j9.block own Z;rw [aop] at own;change j9 w3 _ _ _ _ _ (madeCells #[ii 0] r.toNat).toList at own;rw [wH] at own;refine o_p Z Z Z <| on <| sr <| o_p Z Z Z <| o_p Z Z Z <| ek Z (br Z Z Z (Ext.cell (e2.trans e3) hR)) Z ?_;refine o_c Z Z Z (by unfold I64;omega) ?_;refine o_p Z Z Z <| ek Z (br Z Z Z (Ext.cell (e2.trans e3) hN)) Z <| rA (r - 1).toNat Z Z Z (by omega) (by omega) ?_;obtain ⟨g,cap,cur,hv,hbg,hg3,hh,hcl,htk⟩:=j9.row own (by omega);simp only [Value.slice.injEq,ane,Addr.mk.injEq,aq7,true_and] at hv;obtain ⟨rfl,rfl⟩:=hv;have hcell:=cell_of_row w3 _ (r - 1).toNat cur _ (0,0) hh;have hlt:(r - 1).toNat<cur.size:=by simp at hcl;omega
     obtain ⟨x0,hx0⟩:∃ u,cur[(r - 1).toNat]? = some u:=⟨_,Array.getElem?_eq_getElem hlt⟩;rw [hx0] at hcell;have h0:0+(r - 1).toNat=(r - 1).toNat:=aob _;have hfr:=frozen_of_row w3 w2.heap.size (r - 1).toNat cur fd hh;rw [← h0] at hcell hfr;refine aK Z (vp Z Z Z Z Z hcell hfr) ?_;have st:=(World.ownsRow.stored (w:=w3) own (r - 1).toNat (ii n)).1;have f4:=Fr.setCell w3 ⟨w2.heap.size,(r - 1).toNat,none⟩ (ii n);have e4:Ext w1 (w3.setCell ⟨w2.heap.size,(r - 1).toNat,none⟩ (ii n)):=(e2.trans e3).trans' f4 (fun j hj h=>by have:=e2.size;simp at h;omega);change OW _ _ _ _ _ _ _ _ (w3.setCell ⟨w2.heap.size,0+(r - 1).toNat,none⟩ (ii n));rw [h0];generalize w3.setCell ⟨w2.heap.size,(r - 1).toNat,none⟩ (ii n)=w4 at *;have hone:IL w4 (.slice (some ⟨w2.heap.size,0,none⟩) r.toNat r.toNat) (oK r n):=by
      have:=j9.sl st;unfold IL VL oK;simp only [app,apr,List.map_set,List.map_replicate];exact this
     refine on <| sr <| o_p Z Z Z <| o_p Z Z Z ?_;refine iq Z (eh Z) Z ((xM (ha.ext (e1.trans e4)) hone hx (by simp [oK];omega)).mono ?_);rintro _ w5 ⟨v,rfl,hM,hE⟩;refine ⟨_,rfl,?_⟩;refine o_p Z Z Z <| ec <| b8 <| fj <| ic Z Z ⟨v,rfl,?_,(e1.trans e4).trans hE⟩;rw [wc,if_neg (by omega)];exact hM.weaken (e1.trans e4).size


instance:EqT Tryz.prog t_api_Dot:=⟨by kernel_rfl⟩
set_option maxRecDepth 100000 in
theorem zS (a b c d:Int) (w:World):(Op.equalIn 10000 t_api_Dot (nh a b) (nh c d)).run Tryz.prog w = .ok (decide (a=c∧b=d)) w:=by
 have hS:Tryz.prog.underlying t_api_Dot=some (.struct (Tryz.prog.fieldsOf t_api_Dot)):=by kernel_rfl
 have hp:Tryz.prog.stoodInHeld t_api_Dot=false:=by kernel_rfl
 have hf : ∃ f g : Field, (Tryz.prog.fieldsOf t_api_Dot).toList = [f, g] ∧ f.name ≠ "_" ∧ g.name ≠ "_" ∧ f.type = fd ∧ g.type = fd ∧ f.offset = 0 ∧ g.offset = 1 :=
  ⟨_,_,rfl,by decide,by decide,rfl,rfl,rfl,rfl⟩
 obtain ⟨f,g,h1,h2,h3,h4,h5,h6,h7⟩:=hf;have ui:Tryz.prog.underlying fd=some (.int .i64):=by kernel_rfl
 rw [show (10000:Nat)=9998+1+1 from rfl,run_equalIn_struct w 9999 t_api_Dot _ _ hS hp,h1];have p0:∀ (x y:Int),(part fd #[ii x,ii y] 0).run Tryz.prog w = .ok (ii x) w:=fun x y=>by simp [part,isAgg,run_underlying ui]
 have p1:∀ (x y:Int),(part fd #[ii x,ii y] 1).run Tryz.prog w = .ok (ii y) w:=fun x y=>by simp [part,isAgg,run_underlying ui]
 have q:∀ x y:Int,(Op.equalIn 9999 fd (ii x) (ii y)).run Tryz.prog w = .ok (x == y) w:=fun x y=>run_equalIn_int w 9998 fd .i64 .i64 x y ui
 simp only [Op.eqFields,h2,h3,h4,h5,h6,h7,ne_eq,not_false_eq_true,aq6,Sem.run_bind,p0,p1,q,Result.andThen_ok];by_cases e1:a=c <;> by_cases e2:b=d <;> simp [e1,e2,p1,q]

def mD (a b:Int):Int:=if a<b then -1 else if b<a then 1 else 0
def pP:List Int→List Int→Int
 | [], [] => 0
 | [], _ :: _ => -1
 | _ :: _, [] => 1
 | x :: xs, y :: ys => if mD x y ≠ 0 then mD x y else pP xs ys

theorem tC (a:Int) (w:World):Calls Tryz.prog qB #[ii a] w fun e w'=>e = .returned (.bool false)∧w=w':=by
 refine qX Tryz.func296 Z Z <| sr <| o_p Z Z Z <| on <| sr <| o_p Z Z Z <| o_p Z Z Z <| o_p Z Z Z <| o_p Z Z Z <| on ?_;exact fj (ic Z Z ⟨by simp,rfl⟩)

theorem mE (a b:Int) (w:World):Calls Tryz.prog pb #[ii a,ii b] w fun e w'=>e = .returned (ii (mD a b))∧w=w':=by
 refine ut Tryz.func260 Z Z <| sr <| o_p Z Z Z <| on <| sr <| o_p Z Z Z <| iq Z (eh Z) Z <| (tC a w).mono ?_;rintro _ w1 ⟨rfl,rfl⟩;refine ⟨_,rfl,?_⟩;refine o_p Z Z Z <| on <| sr <| o_p Z Z Z <| iq Z (eh Z) Z <| (tC b w).mono ?_;rintro _ w1 ⟨rfl,rfl⟩;refine ⟨_,rfl,?_⟩;refine o_p Z Z Z <| on <| ss <| sr <| o_p Z Z Z <| on <| x5 Z <| jx <| b8 <| ss <| sr <| o_p Z Z Z <| on <| x5 Z <| jx <| b8 <| ss <| sr <| o_p Z Z Z <| o_p Z Z Z <| o_p Z Z Z <| on ?_;refine wy Z (fun h1=>sr ?_) (fun h1=>jx (b8 (ss (sr ?_))))
 ·refine o_p Z Z Z <| on ?_;exact fj (ia (ic Z Z ⟨by simp [mD,h1],rfl⟩))
 ·refine o_p Z Z Z <| o_p Z Z Z <| o_p Z Z Z <| on ?_;refine wy Z (fun h2=>sr ?_) (fun h2=>jx (b8 (sr ?_)))
  ·refine o_p Z Z Z <| on ?_;exact fj (ia (ic Z Z ⟨by simp [mD,h1,h2],rfl⟩))
  ·refine o_p Z Z Z <| on ?_;exact fj (ic Z Z ⟨by simp [mD,h1,h2],rfl⟩)

theorem oL {va vb:Value} {xs ys:List Int} {w:World} (ha:IL w va xs) (hb:IL w vb ys) (hx:xs.length≤1048576) :
  Calls Tryz.prog n7 #[va,vb,.func (.func pb) ⟨[]⟩ ⟨[]⟩] w fun e w'=>e = .returned (ii (pP xs ys))∧w=w':=by
 obtain ⟨A,c,rfl,hnc,hcm,hz,hcell⟩:=ha.op;obtain ⟨A',c',rfl,hnc',hcm',hz',hcell'⟩:=hb.op;refine qY Tryz.func315 Z Z <| sr <| o_p Z Z Z <| on <| ss <| sr <| o_p Z Z Z <| o_p Z Z Z <| o_p Z Z Z <| on ?_;refine jk (cC (G:=Nat) (fun k=> [(0,.slice A xs.length c),(1,.slice A' ys.length c'),(2,.func (.func pb) ⟨[]⟩ ⟨[]⟩),(11,.slice A xs.length c),(12,ii xs.length),(13,ii k)])
  (fun k W=>w=W∧k≤xs.length∧k≤ys.length∧pP xs ys=pP (xs.drop k) (ys.drop k)) (fun k=>xs.length - k) ?_ ?_)
 ·exact ⟨0,⟨rfl,rfl,rfl,rfl,rfl,rfl,trivial⟩,rfl,anq _,anq _,by simp⟩
 rintro k W ⟨rfl,hk,hk',hJ⟩
 try dsimp only
 refine sr <| o_p Z Z Z <| on ?_;refine dz (wy Z (fun h=> ?_) (fun h=> ?_))
 ·refine jx <| b8 <| dz <| jk <| sr ?_;obtain ⟨bk,off,rfl,hbk,hc⟩:=hcell k (by omega);have hck:=hc k (by omega);refine o_p Z Z Z <| rA k Z Z Z (by omega) (by omega) <| ek Z (br Z Z Z hck) Z <| o_p Z Z Z <| o_p Z Z Z <| on <| ss <| sr <| o_p Z Z Z <| o_p Z Z Z <| o_p Z Z Z <| o_p Z Z Z <| on ?_;refine wy Z (fun h1=> ?_) (fun h1=> ?_)
  ·refine sr <| o_p Z Z Z <| ec <| b8 <| fj <| ia <| si <| ia <| eA <| si <| ia <| ic Z Z ⟨?_,rfl⟩;rw [hJ,an8 (by omega),aqo (show ys.length≤_ by omega)]
   rfl
  ·obtain ⟨bk',off',rfl,hbk',hc'⟩:=hcell' k (by omega);have hck':=hc' k (by omega);refine jx <| b8 <| sr <| o_p Z Z Z <| o_p Z Z Z <| rA k Z Z Z (by omega) (by omega) <| ek Z (br Z Z Z hck') Z <| o_p Z Z Z <| on <| sr <| o_p Z Z Z <| o_p Z Z Z <| o_p Z Z Z <| iq Z (eh Z) Z <| (mE _ _ _).mono ?_;rintro _ w1 ⟨rfl,rfl⟩;refine ⟨_,rfl,?_⟩;refine o_p Z Z Z <| on <| sr <| o_p Z Z Z <| o_p Z Z Z <| on ?_;have hstep:pP xs ys=if mD xs[k] ys[k]≠0 then mD xs[k] ys[k] else pP (xs.drop (k+1)) (ys.drop (k+1)):=by
    rw [hJ,an8 (l:=xs) (by omega),an8 (l:=ys) (by omega)]
    rfl
   refine qK Z (fun h2=> ?_) (fun h2=> ?_)
   ·refine sr <| o_p Z Z Z <| o_p Z Z Z <| ec <| b8 <| fj <| si <| ia <| eA <| si <| ia <| ic Z Z ⟨?_,rfl⟩;rw [hstep,if_pos (by simpa using h2)]
   ·refine jx <| nc <| b8 <| cu ?_;refine o_c Z Z Z (by unfold I64;omega) ?_;refine o_p Z Z Z ?_;refine (ec (vk (k+1) ?_ ?_ ?_))
    ·exact ⟨rfl,rfl,rfl,rfl,rfl,rfl,trivial⟩
    ·exact ⟨rfl,by omega,by omega,by rw [hstep,if_neg (by simpa using h2)]⟩
    ·show xs.length - (k+1)<xs.length - k;omega
 ·refine xq <| kj <| ma <| jw <| b8 <| ss <| sr ?_;obtain rfl:k=xs.length:=by omega
  rw [List.drop_length] at hJ
  (iterate 5 refine o_p Z Z Z ?_)
  refine on ?_;refine wy Z (fun h1=> ?_) (fun h1=> ?_)
  ·refine sr <| o_p Z Z Z <| ec <| b8 <| fj <| ia <| ic Z Z ⟨?_,rfl⟩;rw [hJ,an8 (l:=ys) (by omega)]
   rfl
  ·refine jx <| b8 <| sr <| o_p Z Z Z <| ec <| b8 <| fj <| ic Z Z ⟨?_,rfl⟩;rw [hJ,aqo (show ys.length≤_ by omega)]
   rfl

def fN (ra na:Int) (xs:List Int) (rb nb:Int) (ys:List Int):Bool :=
 decide (ko xs<ko ys∨(ko xs=ko ys∧(ra<rb∨(ra=rb∧na<nb))))
theorem Nw {ra na rb nb:Int} {xs ys:List Int} (h:¬ (ra=rb∧na=nb)):decide (pP [ko xs,ra,na] [ko ys,rb,nb]<0)=fN ra na xs rb nb ys:=by
 unfold fN;rw [aqd];simp only [pP,mD]
 split <;> (try split) <;> (try split) <;> omega

theorem Wk (a b c:Value) (ha:a.cells.toList = [a]) (hb:b.cells.toList = [b]) (hc:c.cells.toList = [c]) (z:List Value) (hz:z.length=3*1):ye (fun k=>some (k*1,1)) z [(0,a),(1,b),(2,c)]=some [a,b,c]:=by
 match z,hz with
 | [x, y, u], _ =>
  have e:∀ v:Value,v.cells.toList = [v]→v.cells.size=1:=fun v h=>by rw [← aok,h];rfl
  simp [ye,spl,ha,hb,hc,e a ha,e b hb,e c hc]

theorem xN {va vb:Value} {xs ys:List Int} {ra na rb nb:Int} {w:World} (ha:IL w va xs) (hb:IL w vb ys) :
  Calls Tryz.prog vX #[nh ra na,va,nh rb nb,vb] w fun e w'=>e = .returned (.bool (fN ra na xs rb nb ys))∧Ext w w':=by
 refine Mq Tryz.func283 Z Z <| dz <| cu <| ek Z (rk Z) Z ?_;have B:Blk (w.alloc (.cells (nh ra na).cells t_api_Dot)) w.heap.size t_api_Dot [ii ra,ii na]:=Blk.new w _ _;have e1:Ext w (w.alloc (.cells (nh ra na).cells t_api_Dot)):=Fr.alloc _ _;generalize w.alloc (.cells (nh ra na).cells t_api_Dot)=w1 at *;refine ek Z (rk Z) Z ?_;have B':Blk (w1.alloc (.cells (nh rb nb).cells t_api_Dot)) w1.heap.size t_api_Dot [ii rb,ii nb]:=Blk.new w1 _ _;have e2:Ext w1 (w1.alloc (.cells (nh rb nb).cells t_api_Dot)):=Fr.alloc _ _;generalize w1.alloc (.cells (nh rb nb).cells t_api_Dot)=w2 at *;have B:=B.ext e2;have e2:=e1.trans e2;refine o_p Z Z Z <| ec <| b8 <| dz <| qc flo (fun W'=>Ext w2 W') (by decide) (Fr.drew _) <| d_p Z Z Z Z <| mc Z Z (eh Z) Z <| (zv (ha.ext (e2.trans (Fr.drew _)))).mono ?_;rintro _ w3 ⟨rfl,e3⟩;refine ⟨_,rfl,(Fr.drew _).trans e3,?_⟩;refine d_p Z Z Z Z <| ie Z Z (fun W' hW'=>br Z Z Z (hW'.cell (B.cell 0))) Z <| d_p Z Z Z Z <| ie Z Z (fun W' hW'=>br Z Z Z (hW'.cell (B.cell 1))) Z <| kW Z Z (kr (vs:= [(0,ii (ko xs)),(1,ii ra),(2,ii na)]) (cells:= [ii (ko xs),ii ra,ii na]) Z Z Z Z (by decide) (Wk _ _ _ Z Z Z)) (((Fr.drew _).trans e3).trans (Fr.alloc _ _)) Z ?_;have D:=Blk.new w3 fd [ii (ko xs),ii ra,ii na];have e4:Ext w2 (w3.alloc (.cells [ii (ko xs),ii ra,ii na].toArray fd)):=((Fr.drew _).trans e3).trans (Fr.alloc _ _);generalize hw4:w3.alloc (.cells [ii (ko xs),ii ra,ii na].toArray fd)=w4 at *;refine d_p Z Z Z Z <| ov <| b8 <| dz <| qc flo (fun W'=>Ext w4 W') (by decide) (Fr.drew _) <| d_p Z Z Z Z <| mc Z Z (eh Z) Z <| (zv (hb.ext ((e2.trans e4).trans (Fr.drew _)))).mono ?_;rintro _ w5 ⟨rfl,e5⟩;refine ⟨_,rfl,(Fr.drew _).trans e5,?_⟩;refine d_p Z Z Z Z <| ie Z Z (fun W' hW'=>br Z Z Z (hW'.cell (e4.cell (B'.cell 0)))) Z <| d_p Z Z Z Z <| ie Z Z (fun W' hW'=>br Z Z Z (hW'.cell (e4.cell (B'.cell 1)))) Z <| kW Z Z (kr (vs:= [(0,ii (ko ys)),(1,ii rb),(2,ii nb)]) (cells:= [ii (ko ys),ii rb,ii nb]) Z Z Z Z (by decide) (Wk _ _ _ Z Z Z)) (((Fr.drew _).trans e5).trans (Fr.alloc _ _)) Z ?_;have D':=Blk.new w5 fd [ii (ko ys),ii rb,ii nb];have e6:Ext w4 (w5.alloc (.cells [ii (ko ys),ii rb,ii nb].toArray fd)):=((Fr.drew _).trans e5).trans (Fr.alloc _ _);generalize hw6:w5.alloc (.cells [ii (ko ys),ii rb,ii nb].toArray fd)=w6 at *;refine d_p Z Z Z Z ?_;have eE:=(e2.trans e4).trans e6;have C:=(B.ext e4).ext e6;have C':=(B'.ext e4).ext e6;have x1:IL w6 (.slice (some ⟨w3.heap.size,0,none⟩) 3 3) [ko xs,ra,na]:=(D.ext e6).sl (n:=3) (sz:=1) Z (by decide);have x2:IL w6 (.slice (some ⟨w5.heap.size,0,none⟩) 3 3) [ko ys,rb,nb]:=D'.sl (n:=3) (sz:=1) Z (by decide);refine ov <| b8 <| dz <| cu ?_;refine ek Z (cg (cs:= [ii ra,ii na]) Z Z Z Z (fun j _=>by rw [aob];exact C.cell j)) Z ?_;refine ek Z (cg (cs:= [ii rb,ii nb]) Z Z Z Z (fun j _=>by rw [aob];exact C'.cell j)) Z ?_;refine aL Z (sj Z Z (zS ra na rb nb)) Z <| o_p Z Z Z ?_;refine gN 28 Z (fun h1=> ?_) (fun h1=> ?_)
 ·have h1:¬ (ra=rb∧na=nb):=by simpa only [Bool.not_eq_true',aqg] using h1
  refine o_p Z Z Z <| o_p Z Z Z ?_;refine iq Z (eh Z) Z ((oL x1 x2 (by simp)).mono ?_);rintro _ w7 ⟨rfl,rfl⟩;refine ⟨_,rfl,?_⟩;refine o_p Z Z Z <| o_p Z Z Z <| o_p Z Z Z ?_;rw [Nw h1];refine gN 34 Z (fun h2=> ?_) (fun h2=> ?_)
  ·(iterate 10 refine q6 Z Z ?_)
   refine o_p Z Z Z <| o_p Z Z Z <| ec <| b8 <| fj <| ic Z Z ⟨?_,eE⟩;rw [h2]
  ·refine ek Z (cg (cs:= [ii ra,ii na]) Z Z Z Z (fun j _=>by rw [aob];exact C.cell j)) Z ?_;refine ek Z (cg (cs:= [ii rb,ii nb]) Z Z Z Z (fun j _=>by rw [aob];exact C'.cell j)) Z ?_;refine aL Z (jM Z Z (zS ra na rb nb)) Z <| o_p Z Z Z ?_;rw [ans h1]
   (iterate 5 refine q6 Z Z ?_)
   refine o_p Z Z Z <| o_p Z Z Z <| o_p Z Z Z <| ec <| b8 <| fj <| ic Z Z ⟨?_,eE⟩;rw [h2]
 ·have h1:ra=rb∧na=nb:=by simpa using h1
  refine q6 Z Z <| q6 Z Z <| q6 Z Z <| q6 Z Z <| o_p Z Z Z <| o_p Z Z Z ?_;refine ek Z (cg (cs:= [ii ra,ii na]) Z Z Z Z (fun j _=>by rw [aob];exact C.cell j)) Z ?_;refine ek Z (cg (cs:= [ii rb,ii nb]) Z Z Z Z (fun j _=>by rw [aob];exact C'.cell j)) Z ?_;refine aL Z (jM Z Z (zS ra na rb nb)) Z <| o_p Z Z Z ?_;rw [ani h1];refine o_p Z Z Z <| iq Z (eh Z) Z <| (zv (ha.ext eE)).mono ?_;rintro _ w7 ⟨rfl,e7⟩;refine ⟨_,rfl,?_⟩;refine o_p Z Z Z <| iq Z (eh Z) Z <| (zv (hb.ext (eE.trans e7))).mono ?_;rintro _ w8 ⟨rfl,e8⟩;refine ⟨_,rfl,?_⟩;refine o_p Z Z Z <| o_p Z Z Z <| o_p Z Z Z <| o_p Z Z Z <| ec <| b8 <| fj <| ic Z Z ⟨?_,(eE.trans e7).trans e8⟩;simp [fN,h1]

end Go.Proofs.YtbpdffopjkhelaaGreat
