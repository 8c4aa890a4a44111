/- joined texts -/
import Derived.Test.YtkfpmjjcogigfaaGreatDoorW3
import Derived.Test.YtkfpmjjcogigfaaGreatDoorProg
set_option linter.all false
namespace Go.Wk
open Go.Proofs
noncomputable abbrev TP:=Tryz.prog
abbrev Pt(b:Nat):Va:=.pointer (some ⟨b,0,none⟩)
abbrev Ii(i:Int):Va:=.int .i64 i
theorem ag2:yZ TP 2=some false:=by kernel_rfl
theorem ag3:yZ TP 3=some false:=by kernel_rfl
theorem ag4:yZ TP 4=some false:=by kernel_rfl
theorem ag5:yZ TP 5=some false:=by kernel_rfl
theorem ag9:yZ TP 9=some false:=by kernel_rfl
theorem zjh:yZ TP 28=some false:=by kernel_rfl
theorem zee:yZ TP 30=some false:=by kernel_rfl
theorem zcr:yZ TP 31=some false:=by kernel_rfl
theorem zfh:yZ TP 32=some false:=by kernel_rfl
theorem zhP:yZ TP 33=some false:=by kernel_rfl
theorem zbQ:yZ TP 35=some true:=by kernel_rfl
theorem zbA:yZ TP 36=some false:=by kernel_rfl
theorem zdI:yZ TP 37=some false:=by kernel_rfl
theorem zaI:yZ TP 39=some true:=by kernel_rfl
theorem zjd:yZ TP 52=some false:=by kernel_rfl
theorem zp6:yZ TP 64=some false:=by kernel_rfl
theorem zpr:yZ TP 78=some true:=by kernel_rfl
theorem zdu:yZ TP 81=some false:=by kernel_rfl
theorem zwz:yZ TP 87=some false:=by kernel_rfl
theorem zdb:yZ TP 108=some false:=by kernel_rfl
theorem zeV:yZ TP 109=some false:=by kernel_rfl
theorem zaX:yZ TP 111=some true:=by kernel_rfl
theorem zoV:yZ TP 112=some false:=by kernel_rfl
theorem zdy:yZ TP 114=some true:=by kernel_rfl
theorem zfc:yZ TP 120=some false:=by kernel_rfl
theorem zhw:yZ TP 121=some false:=by kernel_rfl
theorem zgn:yZ TP 126=some true:=by kernel_rfl
theorem zgj:yZ TP 137=some true:=by kernel_rfl
theorem zbp:yZ TP 173=some false:=by kernel_rfl
theorem zdD:yZ TP 176=some false:=by kernel_rfl
theorem zw6:yZ TP 182=some false:=by kernel_rfl
theorem zoE:yZ TP 189=some true:=by kernel_rfl
theorem zxU:yZ TP 192=some false:=by kernel_rfl
theorem znC:yZ TP 215=some true:=by kernel_rfl
theorem zgw:yZ TP 224=some false:=by kernel_rfl
theorem zzi:yZ TP 240=some false:=by kernel_rfl
theorem zxK:yZ TP 277=some false:=by kernel_rfl
theorem zrl:yZ TP 327=some true:=by kernel_rfl
theorem znZ:yZ TP 331=some false:=by kernel_rfl
theorem zzK:yZ TP 347=some false:=by kernel_rfl
theorem zxB:yZ TP 380=some false:=by kernel_rfl
theorem zxt:yZ TP 382=some false:=by kernel_rfl
theorem zw1:yZ TP 388=some false:=by kernel_rfl
theorem zue:yZ TP 397=some true:=by kernel_rfl
theorem zxn:yZ TP 443=some false:=by kernel_rfl
theorem zdt:zlk TP 78=some (2,9):=by kernel_rfl
theorem zjM:zlk TP 397=some (2,176):=by kernel_rfl
theorem zoN:zlk TP 426=some (9,5):=by kernel_rfl
theorem bd8:zi TP 8=true:=by kernel_rfl
theorem bd9:zi TP 9=true:=by kernel_rfl
theorem ztX:zi TP 10=true:=by kernel_rfl
theorem zvw:zi TP 11=true:=by kernel_rfl
theorem zhQ:zi TP 12=true:=by kernel_rfl
theorem zhS:zi TP 13=true:=by kernel_rfl
theorem zvd:zi TP 14=true:=by kernel_rfl
theorem zz0:zi TP 15=true:=by kernel_rfl
theorem zyO:zi TP 16=true:=by kernel_rfl
theorem zz2:zi TP 19=true:=by kernel_rfl
theorem zs5:zi TP 22=true:=by kernel_rfl
theorem zxw:zi TP 24=true:=by kernel_rfl
theorem zzS:zi TP 27=true:=by kernel_rfl
theorem zxH:zi TP 29=true:=by kernel_rfl
theorem zwv:zi TP 30=true:=by kernel_rfl
theorem zx6:zi TP 31=true:=by kernel_rfl
theorem zvj:zi TP 32=true:=by kernel_rfl
theorem zxs:zi TP 33=true:=by kernel_rfl
theorem zz5:zi TP 34=true:=by kernel_rfl
theorem zAf:zi TP 35=true:=by kernel_rfl
theorem zzR:zi TP 36=true:=by kernel_rfl
theorem zw9:zi TP 37=true:=by kernel_rfl
theorem zhN:zi TP 47=true:=by kernel_rfl
theorem zqo:zi TP 53=true:=by kernel_rfl
theorem zzN:zi TP 54=true:=by kernel_rfl
theorem zys:zi TP 56=true:=by kernel_rfl
theorem zzP:zi TP 57=true:=by kernel_rfl
theorem zrt:zi TP 58=true:=by kernel_rfl
theorem zss:zi TP 59=true:=by kernel_rfl
theorem ztI:zi TP 60=true:=by kernel_rfl
theorem zzT:zi TP 61=true:=by kernel_rfl
theorem zt1:zi TP 62=true:=by kernel_rfl
theorem zzX:zi TP 63=true:=by kernel_rfl
theorem zAc:zi TP 64=true:=by kernel_rfl
theorem zAg:zi TP 65=true:=by kernel_rfl
theorem zzU:zi TP 66=true:=by kernel_rfl
theorem zAi:zi TP 67=true:=by kernel_rfl
theorem zz4:zi TP 68=true:=by kernel_rfl
theorem znw:zi TP 69=true:=by kernel_rfl
theorem zpy:zi TP 70=true:=by kernel_rfl
theorem zzQ:zi TP 71=true:=by kernel_rfl
theorem zvT:zi TP 72=true:=by kernel_rfl
theorem ztj:zi TP 82=true:=by kernel_rfl
theorem zws:zi TP 89=true:=by kernel_rfl
theorem zyp:zi TP 90=true:=by kernel_rfl
theorem zx2:zi TP 91=true:=by kernel_rfl
theorem zy3:zi TP 93=true:=by kernel_rfl
theorem zw2:zi TP 94=true:=by kernel_rfl
theorem zzY:zi TP 95=true:=by kernel_rfl
theorem zzM:zi TP 96=true:=by kernel_rfl
theorem zst:zi TP 97=true:=by kernel_rfl
theorem zz1:zi TP 98=true:=by kernel_rfl
theorem zz9:zi TP 99=true:=by kernel_rfl
theorem zlM:zi TP 100=true:=by kernel_rfl
theorem zyu:zi TP 101=true:=by kernel_rfl
theorem zx1:zi TP 102=true:=by kernel_rfl
theorem zzI:zi TP 106=true:=by kernel_rfl
theorem zn2:zi TP 107=true:=by kernel_rfl
theorem zj9:zi TP 108=true:=by kernel_rfl
theorem zzH:zi TP 109=true:=by kernel_rfl
theorem zyZ:zi TP 110=true:=by kernel_rfl
theorem zxz:zi TP 111=true:=by kernel_rfl
theorem zqb:zi TP 112=true:=by kernel_rfl
theorem zxQ:zi TP 113=true:=by kernel_rfl
theorem zxN:zi TP 114=true:=by kernel_rfl
theorem zrf:zi TP 115=true:=by kernel_rfl
theorem zrc:zi TP 116=true:=by kernel_rfl
theorem zxW:zi TP 117=true:=by kernel_rfl
theorem zy9:zi TP 118=true:=by kernel_rfl
theorem zw0:zi TP 119=true:=by kernel_rfl
theorem zqA:zi TP 120=true:=by kernel_rfl
theorem zxh:zi TP 127=true:=by kernel_rfl
theorem zvb:zi TP 137=true:=by kernel_rfl
theorem zk4:zi TP 138=true:=by kernel_rfl
theorem zxv:zi TP 139=true:=by kernel_rfl
theorem zuu:zi TP 140=true:=by kernel_rfl
theorem zuB:zi TP 141=true:=by kernel_rfl
theorem zuY:zi TP 142=true:=by kernel_rfl
theorem zzm:zi TP 143=true:=by kernel_rfl
theorem zp4:zi TP 144=true:=by kernel_rfl
theorem zya:zi TP 146=true:=by kernel_rfl
theorem zyf:zi TP 151=true:=by kernel_rfl
theorem zxf:zi TP 153=true:=by kernel_rfl
theorem znW:zi TP 154=true:=by kernel_rfl
theorem zzs:zi TP 157=true:=by kernel_rfl
theorem zj4:zi TP 158=true:=by kernel_rfl
theorem zyM:zi TP 163=true:=by kernel_rfl
theorem zyd:zi TP 164=true:=by kernel_rfl
theorem zvc:zi TP 166=true:=by kernel_rfl
theorem zqH:zi TP 169=true:=by kernel_rfl
theorem zwP:zi TP 170=true:=by kernel_rfl
theorem zuv:zi TP 174=true:=by kernel_rfl
theorem zxJ:zi TP 175=true:=by kernel_rfl
theorem zuO:zi TP 176=true:=by kernel_rfl
theorem zq6:zi TP 177=true:=by kernel_rfl
theorem zxM:zi TP 178=true:=by kernel_rfl
theorem zza:zi TP 179=true:=by kernel_rfl
theorem zxE:zi TP 181=true:=by kernel_rfl
theorem zxr:zi TP 182=true:=by kernel_rfl
theorem zxk:zi TP 183=true:=by kernel_rfl
theorem zzp:zi TP 184=true:=by kernel_rfl
theorem zyw:zi TP 185=true:=by kernel_rfl
theorem zyD:zi TP 187=true:=by kernel_rfl
theorem zuZ:zi TP 191=true:=by kernel_rfl
theorem zyq:zi TP 192=true:=by kernel_rfl
theorem zxO:zi TP 193=true:=by kernel_rfl
theorem zw7:zi TP 194=true:=by kernel_rfl
theorem zuT:zi TP 195=true:=by kernel_rfl
theorem zuD:zi TP 196=true:=by kernel_rfl
theorem zh7:zi TP 197=true:=by kernel_rfl
theorem zy6:zi TP 198=true:=by kernel_rfl
theorem zzv:zi TP 199=true:=by kernel_rfl
theorem zu6:zi TP 200=true:=by kernel_rfl
theorem zuC:zi TP 201=true:=by kernel_rfl
theorem zxo:zi TP 202=true:=by kernel_rfl
theorem zxu:zi TP 203=true:=by kernel_rfl
theorem zzu:zi TP 207=true:=by kernel_rfl
theorem zze:zi TP 208=true:=by kernel_rfl
theorem zuS:zi TP 209=true:=by kernel_rfl
theorem zyl:zi TP 211=true:=by kernel_rfl
theorem zzy:zi TP 214=true:=by kernel_rfl
theorem zju:zi TP 216=true:=by kernel_rfl
theorem zuG:zi TP 218=true:=by kernel_rfl
theorem znT:zi TP 219=true:=by kernel_rfl
theorem zuk:zi TP 220=true:=by kernel_rfl
theorem zuN:zi TP 222=true:=by kernel_rfl
theorem zun:zi TP 223=true:=by kernel_rfl
theorem zyo:zi TP 224=true:=by kernel_rfl
theorem zxl:zi TP 225=true:=by kernel_rfl
theorem zxZ:zi TP 226=true:=by kernel_rfl
theorem zyG:zi TP 227=true:=by kernel_rfl
theorem zx9:zi TP 228=true:=by kernel_rfl
theorem zzq:zi TP 229=true:=by kernel_rfl
theorem zum:zi TP 230=true:=by kernel_rfl
theorem zu2:zi TP 231=true:=by kernel_rfl
theorem zyE:zi TP 234=true:=by kernel_rfl
theorem zyk:zi TP 245=true:=by kernel_rfl
theorem zqk:zi TP 246=true:=by kernel_rfl
theorem zyL:zi TP 247=true:=by kernel_rfl
theorem zzj:zi TP 248=true:=by kernel_rfl
theorem zva:zi TP 249=true:=by kernel_rfl
theorem zzG:zi TP 250=true:=by kernel_rfl
theorem zu4:zi TP 251=true:=by kernel_rfl
theorem zjF:zi TP 252=true:=by kernel_rfl
theorem zyK:zi TP 254=true:=by kernel_rfl
theorem zxq:zi TP 255=true:=by kernel_rfl
theorem zwT:zi TP 256=true:=by kernel_rfl
theorem zwU:zi TP 257=true:=by kernel_rfl
theorem zyH:zi TP 259=true:=by kernel_rfl
theorem zxg:zi TP 260=true:=by kernel_rfl
theorem zzD:zi TP 262=true:=by kernel_rfl
theorem zx0:zi TP 265=true:=by kernel_rfl
theorem zwM:zi TP 267=true:=by kernel_rfl
theorem zxC:zi TP 270=true:=by kernel_rfl
theorem zyQ:zi TP 273=true:=by kernel_rfl
theorem zxF:zi TP 276=true:=by kernel_rfl
theorem zyt:zi TP 278=true:=by kernel_rfl
theorem zwY:zi TP 280=true:=by kernel_rfl
theorem zux:zi TP 281=true:=by kernel_rfl
theorem zxS:zi TP 282=true:=by kernel_rfl
theorem zzC:zi TP 286=true:=by kernel_rfl
theorem zyb:zi TP 289=true:=by kernel_rfl
theorem zxp:zi TP 291=true:=by kernel_rfl
theorem zuo:zi TP 296=true:=by kernel_rfl
theorem zqE:zi TP 297=true:=by kernel_rfl
theorem zok:zi TP 298=true:=by kernel_rfl
theorem zy1:zi TP 299=true:=by kernel_rfl
theorem zxx:zi TP 300=true:=by kernel_rfl
theorem zu5:zi TP 301=true:=by kernel_rfl
theorem zuU:zi TP 302=true:=by kernel_rfl
theorem zx4:zi TP 303=true:=by kernel_rfl
theorem zxb:zi TP 304=true:=by kernel_rfl
theorem zzk:zi TP 306=true:=by kernel_rfl
theorem zwW:zi TP 307=true:=by kernel_rfl
theorem zup:zi TP 308=true:=by kernel_rfl
theorem zw4:zi TP 309=true:=by kernel_rfl
theorem zxc:zi TP 310=true:=by kernel_rfl
theorem zui:zi TP 311=true:=by kernel_rfl
theorem zyP:zi TP 312=true:=by kernel_rfl
theorem zn7:zi TP 320=true:=by kernel_rfl
theorem zzJ:zi TP 321=true:=by kernel_rfl
theorem zyW:zi TP 322=true:=by kernel_rfl
theorem zzl:zi TP 329=true:=by kernel_rfl
theorem zyX:zi TP 330=true:=by kernel_rfl
theorem zuF:zi TP 331=true:=by kernel_rfl
theorem zyz:zi TP 332=true:=by kernel_rfl
theorem zxY:zi TP 333=true:=by kernel_rfl
theorem zwO:zi TP 334=true:=by kernel_rfl
theorem zzw:zi TP 335=true:=by kernel_rfl
theorem zu7:zi TP 338=true:=by kernel_rfl
theorem zyF:zi TP 339=true:=by kernel_rfl
theorem zxD:zi TP 340=true:=by kernel_rfl
theorem zyR:zi TP 341=true:=by kernel_rfl
theorem zxV:zi TP 342=true:=by kernel_rfl
theorem zxR:zi TP 343=true:=by kernel_rfl
theorem zyy:zi TP 344=true:=by kernel_rfl
theorem zxA:zi TP 351=true:=by kernel_rfl
theorem zw5:zi TP 352=true:=by kernel_rfl
theorem zrI:zi TP 353=true:=by kernel_rfl
theorem zxP:zi TP 354=true:=by kernel_rfl
theorem zxI:zi TP 355=true:=by kernel_rfl
theorem zxG:zi TP 356=true:=by kernel_rfl
theorem zqF:zi TP 362=true:=by kernel_rfl
theorem zyr:zi TP 363=true:=by kernel_rfl
theorem zzt:zi TP 366=true:=by kernel_rfl
theorem zuw:zi TP 386=true:=by kernel_rfl
theorem zuf:zi TP 391=true:=by kernel_rfl
theorem zu0:zi TP 404=true:=by kernel_rfl
theorem bo4:zwB TP 4=true:=by kernel_rfl
theorem zrZ:zqK TP 111 [0,0,0,1]=true:=by kernel_rfl
theorem zyi:zqK TP 114 [1,0,0,2]=true:=by kernel_rfl
theorem yW:za2 TP 35 0=some 0:=by kernel_rfl
theorem zd7:za2 TP 35 1=some 1:=by kernel_rfl
theorem zdY:za2 TP 35 2=some 2:=by kernel_rfl
theorem za5:za2 TP 39 0=some 0:=by kernel_rfl
theorem yg:za2 TP 39 1=some 1:=by kernel_rfl
theorem zbm:za2 TP 39 2=some 2:=by kernel_rfl
theorem za0:za2 TP 39 3=some 5:=by kernel_rfl
theorem zbu:za2 TP 39 4=some 6:=by kernel_rfl
theorem zaC:za2 TP 39 5=some 7:=by kernel_rfl
theorem zat:za2 TP 83 0=some 0:=by kernel_rfl
theorem zby:za2 TP 111 0=some 0:=by kernel_rfl
theorem zaw:za2 TP 111 1=some 1:=by kernel_rfl
theorem zcb:za2 TP 111 2=some 2:=by kernel_rfl
theorem zdj:za2 TP 111 3=some 3:=by kernel_rfl
theorem zcR:za2 TP 114 0=some 0:=by kernel_rfl
theorem zh2:za2 TP 114 1=some 1:=by kernel_rfl
theorem zdM:za2 TP 114 2=some 2:=by kernel_rfl
theorem zkr:za2 TP 114 3=some 3:=by kernel_rfl
theorem zeQ:za2 TP 123 0=some 0:=by kernel_rfl
theorem zcQ:za2 TP 123 1=some 1:=by kernel_rfl
theorem zcT:za2 TP 123 2=some 4:=by kernel_rfl
theorem zn6:za2 TP 126 0=some 0:=by kernel_rfl
theorem zhY:za2 TP 126 1=some 1:=by kernel_rfl
theorem zgv:za2 TP 137 0=some 0:=by kernel_rfl
theorem ztN:za2 TP 169 1=some 1:=by kernel_rfl
theorem yH:za2 TP 178 0=some 0:=by kernel_rfl
theorem ztF:za2 TP 199 1=some 1:=by kernel_rfl
theorem zgH:za2 TP 215 0=some 0:=by kernel_rfl
theorem zgO:za2 TP 215 1=some 1:=by kernel_rfl
theorem zs7:za2 TP 303 0=some 0:=by kernel_rfl
theorem y8:za2 TP 327 0=some 0:=by kernel_rfl
theorem zgI:za2 TP 333 0=some 0:=by kernel_rfl
theorem zof:za2 TP 384 0=some 0:=by kernel_rfl
theorem zhZ:za2 TP 384 1=some 1:=by kernel_rfl
theorem ztS:za2 TP 410 1=some 1:=by kernel_rfl
theorem zuc:za2 TP 412 0=some 0:=by kernel_rfl
theorem zoq:za2 TP 412 1=some 1:=by kernel_rfl
theorem zsC:za2 TP 412 2=some 2:=by kernel_rfl
theorem zt3:zpX TP 294 0=some (0,1,false):=by kernel_rfl
theorem zsO:zpX TP 294 1=some (1,1,false):=by kernel_rfl
theorem zto:zpX TP 310 0=some (0,1,false):=by kernel_rfl
theorem zyn:zmz TP 20=true:=by kernel_rfl
theorem zbS:zmz TP 87=true:=by kernel_rfl
theorem zl7:zgy TP 260 169=some false:=by kernel_rfl
theorem zlQ:zgy TP 260 199=some false:=by kernel_rfl
theorem zlY:zgy TP 260 408=some false:=by kernel_rfl
theorem zhG:zgy TP 263 169=some true:=by kernel_rfl
theorem zhI:zgy TP 263 199=some true:=by kernel_rfl
theorem zm9:zgy TP 263 28=some false:=by kernel_rfl
theorem zhp:zgy TP 263 408=some true:=by kernel_rfl
theorem znm:zgy TP 265 28=some false:=by kernel_rfl
theorem zl6:zgy TP 393 169=some false:=by kernel_rfl
theorem zk7:zgy TP 393 199=some false:=by kernel_rfl
theorem zmL:zgy TP 393 28=some false:=by kernel_rfl
theorem zkZ:zgy TP 393 408=some false:=by kernel_rfl
theorem zfH:zdk TP 2 .i64=true:=by kernel_rfl
theorem zaY:zdk TP 3 .i64=true:=by kernel_rfl
theorem za9:zdk TP 5 .u8=true:=by kernel_rfl
theorem zmq:zdk TP 21 .i32=true:=by kernel_rfl
theorem zlb:zdk TP 28 .i64=true:=by kernel_rfl
theorem zaR:zdk TP 30 .i64=true:=by kernel_rfl
theorem zad:zdk TP 108 .i64=true:=by kernel_rfl
theorem zbO:zdk TP 109 .u64=true:=by kernel_rfl
theorem yY:zdk TP 112 .i64=true:=by kernel_rfl
theorem zfG:zdk TP 285 .u64=true:=by kernel_rfl
theorem zd3:zdF TP 81=some (9,52):=by kernel_rfl
theorem zmM:zdF TP 89=some (30,88):=by kernel_rfl
theorem ziP:zdF TP 129=some (30,127):=by kernel_rfl
theorem zqc:zdF TP 166=some (9,3):=by kernel_rfl
theorem zkc:zdF TP 295=some (112,294):=by kernel_rfl
theorem zhF:zdF TP 305=some (108,303):=by kernel_rfl
theorem zjH:zdF TP 311=some (108,310):=by kernel_rfl
theorem zfY:zdF TP 413=some (112,412):=by kernel_rfl
theorem zcX:zjb TP 28=true:=by kernel_rfl
theorem zzz:zjb TP 81=true:=by kernel_rfl
theorem znY:zjb TP 140=true:=by kernel_rfl
theorem zl1:zjb TP 169=true:=by kernel_rfl
theorem zeU:zjb TP 199=true:=by kernel_rfl
theorem zlq:zjb TP 408=true:=by kernel_rfl
theorem zzV:zdh TP 35=some [(0,1),(1,1),(2,1)]:=by kernel_rfl
theorem zkg:zdh TP 39=some [(0,1),(1,1),(2,3),(5,1),(6,1),(7,1)]:=by kernel_rfl
theorem zAd:zdh TP 83=some [(0,1)]:=by kernel_rfl
theorem ziq:zdh TP 111=some [(0,1),(1,1),(2,1),(3,1)]:=by kernel_rfl
theorem zur:zdh TP 114=some [(0,1),(1,1),(2,1),(3,1)]:=by kernel_rfl
theorem zrq:zdh TP 123=some [(0,1),(1,3),(4,1)]:=by kernel_rfl
theorem zug:zdh TP 126=some [(0,1),(1,1)]:=by kernel_rfl
theorem zoT:zdh TP 137=some [(0,1),(1,1),(2,1)]:=by kernel_rfl
theorem zlV:zdh TP 169=some [(0,1),(1,1)]:=by kernel_rfl
theorem zuV:zdh TP 178=some [(0,1)]:=by kernel_rfl
theorem zeW:zdh TP 199=some [(0,1),(1,1)]:=by kernel_rfl
theorem zut:zdh TP 215=some [(0,1),(1,1)]:=by kernel_rfl
theorem znF:zdh TP 294=some [(0,1),(1,1),(2,1)]:=by kernel_rfl
theorem zmj:zdh TP 303=some [(0,1),(1,1)]:=by kernel_rfl
theorem zmg:zdh TP 310=some [(0,1),(1,1)]:=by kernel_rfl
theorem zuA:zdh TP 327=some [(0,3)]:=by kernel_rfl
theorem zxL:zdh TP 333=some [(0,1)]:=by kernel_rfl
theorem zzb:zdh TP 384=some [(0,1),(1,1)]:=by kernel_rfl
theorem zlW:zdh TP 410=some [(0,1),(1,1)]:=by kernel_rfl
theorem zoU:zdh TP 412=some [(0,1),(1,1),(2,1)]:=by kernel_rfl
theorem zng:zmU TP 25=true:=by kernel_rfl
theorem zkN:zmU TP 52=true:=by kernel_rfl
theorem zjA:zmU TP 120=true:=by kernel_rfl
theorem zfS:za3 TP 22=some 39:=by kernel_rfl
theorem zbF:za3 TP 31=some 114:=by kernel_rfl
theorem zc1:za3 TP 32=some 3:=by kernel_rfl
theorem zcZ:za3 TP 33=some 32:=by kernel_rfl
theorem zbn:za3 TP 36=some 111:=by kernel_rfl
theorem zb0:za3 TP 37=some 78:=by kernel_rfl
theorem zey:za3 TP 121=some 126:=by kernel_rfl
theorem zsa:za3 TP 127=some 137:=by kernel_rfl
theorem zhK:za3 TP 172=some 176:=by kernel_rfl
theorem zau:za3 TP 173=some 176:=by kernel_rfl
theorem ziw:za3 TP 175=some 215:=by kernel_rfl
theorem yc:za3 TP 176=some 215:=by kernel_rfl
theorem yT:za3 TP 224=some 5:=by kernel_rfl
theorem znX:za3 TP 331=some 5:=by kernel_rfl
theorem zuR:za3 TP 382=some 5:=by kernel_rfl
theorem zlH:za3 TP 399=some 33:=by kernel_rfl
theorem zkT:za3 TP 415=some 173:=by kernel_rfl
theorem st9:zhR TP 9=true:=by kernel_rfl
theorem sz2:yR TP 2=some 1:=by kernel_rfl
theorem sz3:yR TP 3=some 1:=by kernel_rfl
theorem sz4:yR TP 4=some 1:=by kernel_rfl
theorem sz5:yR TP 5=some 1:=by kernel_rfl
theorem sz9:yR TP 9=some 1:=by kernel_rfl
theorem zmJ:yR TP 28=some 1:=by kernel_rfl
theorem zmt:yR TP 32=some 1:=by kernel_rfl
theorem zwb:yR TP 33=some 1:=by kernel_rfl
theorem zbL:yR TP 35=some 3:=by kernel_rfl
theorem zpQ:yR TP 36=some 1:=by kernel_rfl
theorem zzW:yR TP 37=some 1:=by kernel_rfl
theorem yy:yR TP 39=some 8:=by kernel_rfl
theorem zwC:yR TP 52=some 1:=by kernel_rfl
theorem zdJ:yR TP 78=some 2:=by kernel_rfl
theorem zwR:yR TP 81=some 1:=by kernel_rfl
theorem zx5:yR TP 109=some 1:=by kernel_rfl
theorem yv:yR TP 111=some 4:=by kernel_rfl
theorem zaL:yR TP 114=some 4:=by kernel_rfl
theorem zuz:yR TP 121=some 1:=by kernel_rfl
theorem zcl:yR TP 126=some 2:=by kernel_rfl
theorem zcW:yR TP 137=some 3:=by kernel_rfl
theorem zia:yR TP 173=some 1:=by kernel_rfl
theorem zbd:yR TP 176=some 1:=by kernel_rfl
theorem zl8:yR TP 189=some 3:=by kernel_rfl
theorem yL:yR TP 215=some 2:=by kernel_rfl
theorem zrW:yR TP 224=some 1:=by kernel_rfl
theorem zq2:yR TP 303=some 2:=by kernel_rfl
theorem zra:yR TP 327=some 3:=by kernel_rfl
theorem zzB:yR TP 331=some 1:=by kernel_rfl
theorem zzF:yR TP 382=some 1:=by kernel_rfl
theorem zzf:yR TP 384=some 2:=by kernel_rfl
theorem zlv:yR TP 397=some 2:=by kernel_rfl
theorem zjK:yR TP 412=some 3:=by kernel_rfl
theorem zwQ:yR TP 443=some 1:=by kernel_rfl
theorem zr3:zaa TP 3=some (Ii 0):=by kernel_rfl
theorem zr4:zaa TP 4=some (.bool false):=by kernel_rfl
theorem zr5:zaa TP 5=some (.int .u8 0):=by kernel_rfl
theorem zsV:zaa TP 28=some (Ii 0):=by kernel_rfl
theorem zAm:zaa TP 32=some (.slice none 0 0):=by kernel_rfl
theorem zAa:zaa TP 33=some (.slice none 0 0):=by kernel_rfl
theorem zAl:zaa TP 35=some (.agg #[.slice none 0 0,.slice none 0 0,.slice none 0 0]):=by kernel_rfl
theorem zz8:zaa TP 36=some (.slice none 0 0):=by kernel_rfl
theorem ze2:zaa TP 39=some (.agg #[Ii 0,.string ⟨#[]⟩,.slice none 0 0,.slice none 0 0,.slice none 0 0,.slice none 0 0,.slice none 0 0,.slice none 0 0]):=by kernel_rfl
theorem zjk:zaa TP 52=some (.pointer none):=by kernel_rfl
theorem zlr:zaa TP 78=some (.agg #[.string ⟨#[]⟩,.string ⟨#[]⟩]):=by kernel_rfl
theorem zAe:zaa TP 83=some (.agg #[.map none]):=by kernel_rfl
theorem zAb:zaa TP 88=some (.nilFunc):=by kernel_rfl
theorem zcq:zaa TP 111=some (.agg #[Ii 0,Ii 0,.int .u64 0,.string ⟨#[]⟩]):=by kernel_rfl
theorem zj2:zaa TP 114=some (.agg #[.string ⟨#[]⟩,Ii 0,Ii 0,.bool false]):=by kernel_rfl
theorem zqP:zaa TP 123=some (.agg #[.pointer none,.slice none 0 0,.slice none 0 0,.slice none 0 0,.slice none 0 0]):=by kernel_rfl
theorem zi5:zaa TP 126=some (.agg #[.slice none 0 0,.pointer none]):=by kernel_rfl
theorem zwS:zaa TP 127=some (.slice none 0 0):=by kernel_rfl
theorem zfb:zaa TP 137=some (.agg #[.nilFunc,.nilFunc,.nilFunc]):=by kernel_rfl
theorem zl2:zaa TP 169=some (.agg #[.string ⟨#[]⟩,.nilIface]):=by kernel_rfl
theorem zuX:zaa TP 173=some (.slice none 0 0):=by kernel_rfl
theorem zuy:zaa TP 176=some (.slice none 0 0):=by kernel_rfl
theorem zuQ:zaa TP 178=some (.agg #[.slice none 0 0]):=by kernel_rfl
theorem zzg:zaa TP 189=some (.agg #[.pointer none,.pointer none,.int .u64 0]):=by kernel_rfl
theorem zeY:zaa TP 199=some (.agg #[.string ⟨#[]⟩,.nilIface]):=by kernel_rfl
theorem zlZ:zaa TP 215=some (.agg #[.string ⟨#[]⟩,.string ⟨#[]⟩]):=by kernel_rfl
theorem zxi:zaa TP 224=some (.slice none 0 0):=by kernel_rfl
theorem zrg:zaa TP 260=some (.nilIface):=by kernel_rfl
theorem zi9:zaa TP 263=some (.nilIface):=by kernel_rfl
theorem zxe:zaa TP 265=some (.nilIface):=by kernel_rfl
theorem zjX:zaa TP 294=some (.agg #[.nilFunc,.nilFunc,.nilFunc]):=by kernel_rfl
theorem zfp:zaa TP 303=some (.agg #[.nilFunc,.nilFunc]):=by kernel_rfl
theorem zjr:zaa TP 310=some (.agg #[.nilFunc,.nilFunc]):=by kernel_rfl
theorem zuL:zaa TP 327=some (.agg #[.slice none 0 0,.slice none 0 0,.slice none 0 0]):=by kernel_rfl
theorem zzc:zaa TP 333=some (.agg #[.slice none 0 0]):=by kernel_rfl
theorem zuK:zaa TP 384=some (.agg #[.slice none 0 0,Ii 0]):=by kernel_rfl
theorem zoI:zaa TP 393=some (.nilIface):=by kernel_rfl
theorem zkV:zaa TP 397=some (.agg #[.slice none 0 0,.slice none 0 0]):=by kernel_rfl
theorem zlU:zaa TP 410=some (.agg #[.string ⟨#[]⟩,.nilIface]):=by kernel_rfl
theorem zdf:zaa TP 412=some (.agg #[.nilFunc,Ii 0,.nilFunc]):=by kernel_rfl
theorem zyY:zaa TP 426=some (.agg #[.int .u8 0,.int .u8 0,.int .u8 0,.int .u8 0,.int .u8 0,.int .u8 0,.int .u8 0,.int .u8 0,.int .u8 0]):=by kernel_rfl
theorem zye:zaa TP 443=some (.nilFunc):=by kernel_rfl
theorem zwc:App TP 22 39 8 168 (.agg #[Ii 0,.string ⟨#[]⟩,.slice none 0 0,.slice none 0 0,.slice none 0 0,.slice none 0 0,.slice none 0 0,.slice none 0 0]):=⟨zfS,yy,ze2,by as_aux_lemma=>kernel_rfl,rfl,by simp[Value.cells,Value.oneCell'],by decide⟩
theorem zAh:App TP 31 114 4 40 (.agg #[.string ⟨#[]⟩,Ii 0,Ii 0,.bool false]):=⟨zbF,zaL,zj2,by as_aux_lemma=>kernel_rfl,rfl,by simp[Value.cells,Value.oneCell'],by decide⟩
theorem zwD:App TP 32 3 1 8 (Ii 0):=⟨zc1,sz3,zr3,by as_aux_lemma=>kernel_rfl,rfl,by simp[Value.cells,Value.oneCell'],by decide⟩
theorem zwp:App TP 33 32 1 24 (.slice none 0 0):=⟨zcZ,zmt,zAm,by as_aux_lemma=>kernel_rfl,rfl,by simp[Value.cells,Value.oneCell'],by decide⟩
theorem zmD:App TP 36 111 4 40 (.agg #[Ii 0,Ii 0,.int .u64 0,.string ⟨#[]⟩]):=⟨zbn,yv,zcq,by as_aux_lemma=>kernel_rfl,rfl,by simp[Value.cells,Value.oneCell'],by decide⟩
theorem zsA:App TP 37 78 2 32 (.agg #[.string ⟨#[]⟩,.string ⟨#[]⟩]):=⟨zb0,zdJ,zlr,by as_aux_lemma=>kernel_rfl,rfl,by simp[Value.cells,Value.oneCell'],by decide⟩
theorem zoB:App TP 121 126 2 32 (.agg #[.slice none 0 0,.pointer none]):=⟨zey,zcl,zi5,by as_aux_lemma=>kernel_rfl,rfl,by simp[Value.cells,Value.oneCell'],by decide⟩
theorem zjI:App TP 127 137 3 24 (.agg #[.nilFunc,.nilFunc,.nilFunc]):=⟨zsa,zcW,zfb,by as_aux_lemma=>kernel_rfl,rfl,by simp[Value.cells,Value.oneCell'],by decide⟩
theorem zhE:App TP 172 176 1 24 (.slice none 0 0):=⟨zhK,zbd,zuy,by as_aux_lemma=>kernel_rfl,rfl,by simp[Value.cells,Value.oneCell'],by decide⟩
theorem zk1:App TP 173 176 1 24 (.slice none 0 0):=⟨zau,zbd,zuy,by as_aux_lemma=>kernel_rfl,rfl,by simp[Value.cells,Value.oneCell'],by decide⟩
theorem zx8:App TP 175 215 2 32 (.agg #[.string ⟨#[]⟩,.string ⟨#[]⟩]):=⟨ziw,yL,zlZ,by as_aux_lemma=>kernel_rfl,rfl,by simp[Value.cells,Value.oneCell'],by decide⟩
theorem zhv:App TP 176 215 2 32 (.agg #[.string ⟨#[]⟩,.string ⟨#[]⟩]):=⟨yc,yL,zlZ,by as_aux_lemma=>kernel_rfl,rfl,by simp[Value.cells,Value.oneCell'],by decide⟩
theorem zdc:App TP 224 5 1 1 (.int .u8 0):=⟨yT,sz5,zr5,by as_aux_lemma=>kernel_rfl,rfl,by simp[Value.cells,Value.oneCell'],by decide⟩
theorem zyN:App TP 399 33 1 24 (.slice none 0 0):=⟨zlH,zwb,zAa,by as_aux_lemma=>kernel_rfl,rfl,by simp[Value.cells,Value.oneCell'],by decide⟩
theorem zym:App TP 415 173 1 24 (.slice none 0 0):=⟨zkT,zia,zuX,by as_aux_lemma=>kernel_rfl,rfl,by simp[Value.cells,Value.oneCell'],by decide⟩
theorem mix:Tryz.prog.follows .mixedOrders=true:=by kernel_rfl
set_option maxRecDepth 10000
theorem zw3:ze5 TP 336=some Extern.BytealgCompare.compare:=by kernel_rfl
theorem zlz(s u:By)(w:Wl):(Extern.BytealgCompare.compare #[.string s,.string u]).run TP w=.ok (Ii (zhh s u)) w:=by
 change Sem.run TP (do pure (goInt (Extern.BytealgCompare.cmp (←Extern.Bytes.bytesOf (.string s)) (←Extern.Bytes.bytesOf (.string u))))) w=_
 simp[Extern.Bytes.bytesOf,goInt,zhh]
theorem f58(s u:By)(w:Wl):zL TP 312 #[.string s,.string u] w fun v w'=>v=Ii (zhh s u)∧w'=w:=by
 refine zL.of_W (args:=[.string s,.string u]) Tryz.func312 U U U U ?_
 refine Sr (Oa U (E2 0 1 U (Sr (Om U (Om U ?_)))))
 refine Oq (zcu (P:=TP) (n:=Tryz.f312.ntmps) zw3 U U (zlz _ _ _) U ?_)
 refine Oa U (E1 4 U (zh ?_))
 refine zx U U ?_
 exact⟨U,U⟩
theorem f52(s u:By)(w:Wl):zL TP 231 #[.string s,.string u] w fun v w'=>v=Ii (zhh s u)∧w'=w:=by
 refine zL.of_W (args:=[.string s,.string u]) Tryz.func231 U U U U ?_
 refine Sr (Oa U (E2 0 1 U (Sr (Om U (Om U ?_)))))
 refine Oc zyP U U U (f58 _ _ _) ?_
 rintro v7 w7⟨rfl,rfl⟩
 refine Oa U (E1 4 U (zh ?_))
 refine zx U U ?_
 exact⟨U,U⟩
abbrev Ent:=By×By
abbrev LE:=List (List Ent)
def flat(es:List Ent):List Va:=es.flatMap fun x=>[.string x.1,.string x.2]
theorem zdl(x:Ent)(es:List Ent):flat (x::es)=.string x.1 :: .string x.2::flat es:=rfl
theorem zcY(a b:List Ent):flat (a++b)=flat a++flat b:=by simp[flat]
theorem zfn(es:List Ent):(flat es).length=es.length*2:=by
 induction es with
 |nil=>rfl
 |cons x es ih=>rw[zdl];simp only[List.length_cons,ih];omega
theorem zfJ(es:List Ent)(i:Nat):flat (es.drop i)=(flat es).drop (i*2):=by
 induction es generalizing i with
 |nil=>simp[flat]
 |cons x es ih=>
  cases i with
  |zero=>simp
  |succ i=>rw[List.drop_succ_cons,ih,zdl,show (i+1)*2=(i*2)+1+1 by omega];rfl
theorem zhd(es:List Ent)(i:Nat):flat (es.take i)=(flat es).take (i*2):=by
 induction es generalizing i with
 |nil=>simp[flat]
 |cons x es ih=>
  cases i with
  |zero=>simp[flat]
  |succ i=>rw[List.take_succ_cons,zdl,ih,zdl,show (i+1)*2=(i*2)+1+1 by omega];rfl
theorem zmp(es:List Ent):∀u∈flat es,u.oneCell'=true:=by
 intro u hu
 simp only[flat,List.mem_flatMap]at hu
 obtain⟨x,_,hu⟩:=hu
 simp at hu
 rcases hu with rfl|rfl<;>rfl
theorem ztG{es:List Ent}{i:Nat}{x:Ent}(h:es[i]? = some x):((flat es).drop (i*2)).take 2=[.string x.1,.string x.2]:=by
 rw[←zfJ]
 have:es.drop i=x::es.drop (i+1):=by
  rw[List.getElem?_eq_some_iff]at h
  obtain⟨hl,rfl⟩:=h
  exact List.drop_eq_getElem_cons hl
 rw[this,zdl]
 rfl
def yd(w:Wl)(v:Va)(es:List Ent):Prop:=zw w 215 2 v es.length (flat es)
theorem yd.chg{S:List Nat}{w w':Wl}{v:Va}{es:List Ent}(h:yd w v es)(hc:zl S w w')(hb:∀b∈zq v,b∉S):yd w' v es:=zw.chg h hc hb
theorem yd.chg0{w w':Wl}{v:Va}{es:List Ent}(h:yd w v es)(hc:zl [] w w'):yd w' v es:=zw.chg0 h hc
theorem yd.at'{w:Wl}{v:Va}{es:List Ent}(h:yd w v es){i:Nat}{x:Ent}(hx:es[i]? = some x):∃b off cap,v=.slice (some ⟨b,off,none⟩) es.length cap∧zB w b (off+i*2) [.string x.1,.string x.2]:=by
 have hi:i<es.length:=(Gs hx).1
 obtain⟨b,off,cap,hv,hc⟩:=zw.atk h hi
 rw[ztG hx]at hc
 exact⟨b,off,cap,hv,hc⟩
theorem f41(k x:By)(w:Wl):zL TP 185 #[.agg #[.string k,.string x]] w fun r w'=>r=.string k∧zl [] w w':=by
 refine zL.of_W (args:=[.agg #[.string k,.string x]]) Tryz.func185 U U U U ?_
 refine Sr ?_
 refine Ob U U ?_
 intro b1 w1 e1 n1 c1 k1
 refine Oa U (E1 1 U (Sr (Od zgH U (Ol ag9 U (k1.cell' U) (Oa U (E1 2 U (zh ?_)))))))
 refine zx U U ?_
 exact⟨U,c1⟩
theorem f49(v:Va)(k x:By)(es:List Ent)(w:Wl)(h:yd w v ((k,x)::es)):zL TP 228 #[v] w fun r w'=>r=.string k∧w'=w:=by
 obtain⟨b,off,cap,rfl,hc⟩:=h.at' (i:=0) rfl
 refine A1 Tryz.func228 U U ?_
 refine Sr (Oa U (E1 0 U (Sr (Om U ?_))))
 refine Og (zm yc yL U U 0 U (by simp)) U ?_
 refine Od zgH U ?_
 refine Ol ag9 U (hc 0 _ U) ?_
 refine Oa U (E1 2 U (zh ?_))
 refine zx U U ?_
 exact⟨U,U⟩
theorem f51(k x key:By)(b:Nat)(w:Wl)(hb:zK w b 277 [.func (.func 185) #[] #[]]):zL TP 230 #[.agg #[.string k,.string x],.string key,Pt b] w fun r w'=>r=Ii (zhh k key)∧zl [] w w':=by
 refine A3 Tryz.func230 U U ?_
 refine Sr ?_
 refine Ob U U ?_
 intro b3 w3 e3 n3 c3 k3
 refine Oa U (E3 1 2 3 U (Sr (Ol zxK U ((hb.chg0 c3).cell' U) (Og (zg znC yL U U (zB.of_blk0 k3)) U ?_))))
 refine Oc zyw U U U (f41 k x _) ?_
 rintro v8 w8⟨rfl,c8⟩
 refine Om U ?_
 refine Oc zu2 U U U (f52 _ _ _) ?_
 rintro v10 w10⟨rfl,rfl⟩
 refine Oa U (E1 5 U (zh ?_))
 refine zx U U ?_
 exact⟨U,c3.trans c8⟩
theorem f57(v:Va)(k x key:By)(es:List Ent)(b:Nat)(w:Wl)(hl:yd w v ((k,x)::es))(hb:zK w b 347 [.func (.func 228) #[] #[]]):zL TP 311 #[v,.string key,Pt b] w fun r w'=>r=Ii (zhh k key)∧w'=w:=by
 refine A3 Tryz.func311 U U ?_
 refine Sr (Oa U (E3 0 1 2 U (Sr (Ol zzK U (hb.cell' U) (Om U ?_)))))
 refine Oc zx9 U U U (f49 _ _ _ _ _ hl) ?_
 rintro v8 w8⟨rfl,rfl⟩
 refine Om U ?_
 refine Oc zu2 U U U (f52 _ _ _) ?_
 rintro v10 w10⟨rfl,rfl⟩
 refine Oa U (E1 5 U (zh ?_))
 refine zx U U ?_
 exact⟨U,U⟩
def zmZ(ks:List By)(key:By)(i:Nat):Prop:=i≤ks.length∧∀j k,ks[j]? = some k→(blt k key=true↔j<i)
def zph(ks:List By)(key:By):Prop:=∀(i j:Nat) (a b:By),i≤j→ks[i]? = some a→ks[j]? = some b→blt b key=true→blt a key=true
def zbv(ks:List By)(key:By)(lo hi:Nat):Prop:=lo≤hi∧hi≤ks.length∧(∀(j:Nat) (k:By),j<lo→ks[j]? = some k→blt k key=true)∧(∀(j:Nat) (k:By),hi≤j→ks[j]? = some k→blt k key=false)
def zb8(ks:List By)(key:By)(i:Nat):Bool:=match ks[i]? with|some k=>decide (k=key)|none=>false
theorem zbv.start(ks:List By)(key:By):zbv ks key 0 ks.length:=
 ⟨Nat.zero_le _,Nat.le_refl _,fun j k h=>by omega,fun j k h hk=>by simp[List.getElem?_eq_none h]at hk⟩
theorem zbv.low{ks:List By}{key k:By}{lo hi h:Nat}(hb:zbv ks key lo hi)(hm:zph ks key)(h1:lo≤h)(h2:h<hi)(hk:ks[h]? = some k)(hlt:blt k key=true):zbv ks key (h+1) hi:=
 ⟨by omega,hb.2.1,fun j a hj ha=>hm j h a k (by omega) ha hk hlt,hb.2.2.2⟩
theorem zbv.high{ks:List By}{key k:By}{lo hi h:Nat}(hb:zbv ks key lo hi)(hm:zph ks key)(h1:lo≤h)(h2:h<hi)(hk:ks[h]? = some k)(hlt:blt k key=false):zbv ks key lo h:=
 ⟨h1,by have:=hb.2.1;omega,hb.2.2.1,fun j a hj ha=>by
  cases hx:blt a key with
  |false=>rfl
  |true=>rw[hm h j k a hj hk ha hx]at hlt;cases hlt⟩
theorem zbv.done{ks:List By}{key:By}{lo hi:Nat}(hb:zbv ks key lo hi)(he:hi≤lo):zmZ ks key lo:=by
 have:lo=hi:=by have:=hb.1;omega
 subst this
 refine⟨hb.2.1,fun j k hk=>⟨fun h=>?_,fun h=>hb.2.2.1 j k h hk⟩⟩
 rcases Nat.lt_or_ge j lo with h'|h'
 ·exact h'
 rw[hb.2.2.2 j k h' hk]at h;cases h
theorem znN{lo hi:Nat}(h:lo<hi):lo≤(lo+hi) / 2∧(lo+hi) / 2<hi:=by omega
theorem f50(v:Va)(es:List Ent)(key:By)(b:Nat)(w:Wl)(hl:yd w v es)(hn:es.length≤4611686018427387903)(hb:zK w b 277 [.func (.func 185) #[] #[]])(hm:zph (es.map (·.1)) key) :
 zL TP 229 #[v,.string key,.func (.func 230) #[] #[Pt b]] w fun r w'=>∃i:Nat,r=.tuple #[Ii i,.bool (zb8 (es.map (·.1)) key i)]∧zmZ (es.map (·.1)) key i∧zl [] w w':=by
 obtain⟨p,c,rfl,_⟩:=hl.val
 refine A3 Tryz.func229 U U ?_
 refine Sr (Oa U (Oa U (E3 0 1 2 U (Sr (Om U (On ziw U (Oa U (E4 0 1 2 8 U (Sr (Om U (Oa U (Oa U ?_))))))))))))
 refine E6 0 1 2 8 9 10 U (zd (zu ?_))
 refine zX [0,1,2,8,9,10] (fun m F wx=>∃lo hi:Nat,m=hi-lo∧F=[(0,.slice p es.length c),(1,.string key),(2,.func (.func 230) #[] #[Pt b]),(8,Ii es.length),(9,Ii lo),(10,Ii hi)]∧zbv (es.map (·.1)) key lo hi∧zl [] w wx) (m:=es.length-0) ⟨0,es.length,rfl,rfl,by simpa using zbv.start (es.map (·.1)) key,zl.refl _ _⟩ ?_
 rintro m F wx⟨lo,hi,rfl,rfl,hbt,hcx⟩
 have hle:=hbt.2.1
 rw[List.length_map]at hle
 refine zd (Sr (Om U (Om U (Og (zF U U) U (E7 0 1 2 8 9 10 17 U ?_)))))
 refine zH U (fun hT=>?_) (fun hF=>?_)
 ·refine zk ?_
  have hlt:lo<hi:=by simpa using hT
  have hh:=znN hlt
  have hk:es[(lo+hi) / 2]? = some es[(lo+hi) / 2]:=by simp
  have hlw:=hl.chg0 hcx
  obtain⟨bb,off,cap,hv,hcs⟩:=hlw.at' hk
  cases hv
  refine zu (Sr (Om U (Om U ?_)))
  refine Og (zG U U (by omega)) U ?_
  refine Og (yp zfG zaY U (show IntKind.u64.wrap ((lo:Int)+(hi:Int))=((lo+hi:Nat):Int) from by rw[IntWalk.u64_in _ ⟨by omega,by omega⟩];omega)) U ?_
  refine Og (zbW 1 U U (by omega) (by decide) (show ((lo+hi:Nat):Int).fdiv 2=(((lo+hi) / 2:Nat):Int) from by rw[Int.fdiv_eq_ediv_of_nonneg _ (by omega)];omega)) U ?_
  refine Og (yp zaY zfG U (show IntKind.i64.wrap (((lo+hi) / 2:Nat):Int)=(((lo+hi) / 2:Nat):Int) from IntWalk.i64_in _ ⟨by omega,by omega⟩)) U ?_
  refine Oa U (E7 0 1 2 8 9 10 11 U (Sr (Om U (Om U (Om U ?_)))))
  refine Og (zm ziw yL U U _ U (by omega)) U ?_
  refine Og (zg znC yL U U hcs) U (Om U ?_)
  refine Oc zum U U U (f51 _ _ key b _ (hb.chg0 hcx)) ?_
  rintro v30 w30⟨rfl,c30⟩
  refine Og (zF U U) U (E8 0 1 2 8 9 10 11 31 U ?_)
  have hkm:(es.map (·.1))[(lo+hi) / 2]? = some es[(lo+hi) / 2].1:=by rw[List.getElem?_map,hk];rfl
  refine zH U (fun hT=>?_) (fun hF=>?_)
  ·have hlt2:=(zhX _ _).1 (of_decide_eq_true hT)
   refine za (Om U ?_)
   refine Og (zG U U (by omega)) U ?_
   refine Oa U (N6 0 1 2 8 9 10 U ?_)
   refine⟨hi-((lo+hi) / 2+1),by omega,(lo+hi) / 2+1,hi,rfl,rfl,hbt.low hm hh.1 hh.2 hkm hlt2,hcx.trans c30⟩
  have hlt2:blt es[(lo+hi) / 2].1 key=false:=by
   cases hx:blt es[(lo+hi) / 2].1 key with
   |false=>rfl
   |true=>have:=(zhX _ _).2 hx;simp at hF;omega
  refine za (Om U (Oa U (N6 0 1 2 8 9 10 U ?_)))
  refine⟨(lo+hi) / 2-lo,by omega,lo,(lo+hi) / 2,rfl,rfl,hbt.high hm hh.1 hh.2 hkm hlt2,hcx.trans c30⟩
 refine zI ?_
 repeat first|refine te ?_|refine bo rfl ?_
 refine zt _ ?_
 have hge:hi≤lo:=by simpa using hF
 have hlb:=hbt.done hge
 refine zd ?_
 by_cases hlt:lo<es.length
 ·have hk:es[lo]? = some es[lo]:=by simp
  have hlw:=hl.chg0 hcx
  obtain⟨bb,off,cap,hv,hcs⟩:=hlw.at' hk
  cases hv
  have hhas:zb8 (es.map (·.1)) key lo=decide (zhh es[lo].1 key=0):=by
   simp only[zb8,List.getElem?_map,hk,Option.map_some]
   exact decide_eq_decide.2 (znR _ _).symm
  refine za (Om U (Om U (Om U ?_)))
  refine Og (vt (zF U U) (by simpa using hlt)) U ?_
  refine Om U (Oj U U (Oj U U (Oj U U ?_)))
  refine Oy U U (zm ziw yL U U _ U hlt) ?_
  refine Oy U U (zg znC yL U U hcs) (Oj U U ?_)
  refine Ow U U zum U U U (f51 _ _ key b _ (hb.chg0 hcx)) ?_
  rintro v46 w46⟨rfl,c46⟩
  refine Oy U U (zuq (zA U U) hhas.symm) (Ot U (Oa U (Oa U (E2 6 7 U (zh ?_)))))
  refine zbX U U U ?_
  exact⟨lo,U,hlb,hcx.trans c46⟩
 have hhas:zb8 (es.map (·.1)) key lo=false:=by
  simp only[zb8,List.getElem?_map,List.getElem?_eq_none (Nat.not_lt.1 hlt),Option.map_none]
 refine za (Om U (Om U (Om U ?_)))
 refine Og (vf (zF U U) (by simpa using hlt)) U ?_
 refine Om U ?_
 iterate 8 refine zdG U U U U U U ?_
 refine Of U (Oa U (Oa U (E2 6 7 U (zh ?_))))
 refine zbX U U U ?_
 exact⟨lo,by rw[hhas],hlb,hcx⟩
def yo(l:List Ent):By:=match l with|x::_=>x.1|[]=>⟨#[]⟩
def lbN(l:List Ent)(key:By):Nat:=(l.takeWhile fun x=>blt x.1 key).length
def zdw(l:List Ent)(key:By):Bool:=zb8 (l.map (·.1)) key (lbN l key)
def yl(ls:LE)(key:By):Nat:=(ls.takeWhile fun l => !blt key (yo l)).length
def Srt(l:List Ent):Prop:=l.Pairwise fun a b=>blt a.1 b.1=true
theorem zbZ{α:Type}(p:α→Bool):∀(l:List α) (i:Nat),i≤l.length→(∀j k,l[j]? = some k→(p k=true↔j<i))→(l.takeWhile p).length=i
 |[],i,h,_=>by simp at h;simp[h]
 |x::l,i,h,hp=>by
  have h0:=hp 0 x rfl
  cases i with
  |zero=>
   have:p x=false:=by
    cases hx:p x with
    |false=>rfl
    |true=>have:=h0.1 hx;omega
   simp[List.takeWhile,this]
  |succ i=>
   have:p x=true:=h0.2 (by omega)
   have ih:=zbZ p l i (by simpa using h) (fun j k hk=>by
    have:=hp (j+1) k (by simpa using hk)
    rw[this];omega)
   simp[List.takeWhile,this,ih]
theorem zmZ.eq{l:List Ent}{key:By}{i:Nat}(h:zmZ (l.map (·.1)) key i):i=lbN l key:=by
 refine(zbZ _ l i (by simpa using h.1) (fun j k hk=>?_)).symm
 exact h.2 j k.1 (by rw[List.getElem?_map,hk];rfl)
theorem Srt.at{l:List Ent}(h:Srt l){i j:Nat}{a b:Ent}(hij:i<j)(ha:l[i]? = some a)(hb:l[j]? = some b):blt a.1 b.1=true:=by
 obtain⟨h1,rfl⟩:=Gs ha
 obtain⟨h2,rfl⟩:=Gs hb
 exact List.pairwise_iff_getElem.1 h i j h1 h2 hij
theorem Srt.mono{l:List Ent}(h:Srt l)(key:By):zph (l.map (·.1)) key:=by
 intro i j a b hij ha hb hlt
 rw[List.getElem?_map]at ha hb
 cases hx:l[i]? with
 |none=>simp[hx]at ha
 |some x=>
  cases hy:l[j]? with
  |none=>simp[hy]at hb
  |some y=>
   simp[hx]at ha;simp[hy]at hb
   subst ha hb
   rcases Nat.lt_or_ge i j with h'|h'
   ·exact zcJ (h.at h' hx hy) hlt
   have:i=j:=by omega
   subst this
   rw[hx]at hy
   simp at hy
   subst hy
   exact hlt
def zjc(ls:LE):Prop:=ls.Pairwise fun a b=>blt (yo a) (yo b)=true
theorem zjc.at{ls:LE}(h:zjc ls){i j:Nat}{a b:List Ent}(hij:i<j)(ha:ls[i]? = some a)(hb:ls[j]? = some b):blt (yo a) (yo b)=true:=by
 obtain⟨h1,rfl⟩:=Gs ha
 obtain⟨h2,rfl⟩:=Gs hb
 exact List.pairwise_iff_getElem.1 h i j h1 h2 hij
theorem zjc.mono{ls:LE}(h:zjc ls)(key:By):zph (ls.map yo) key:=by
 intro i j a b hij ha hb hlt
 rw[List.getElem?_map]at ha hb
 cases hx:ls[i]? with
 |none=>simp[hx]at ha
 |some x=>
  cases hy:ls[j]? with
  |none=>simp[hy]at hb
  |some y=>
   simp[hx]at ha;simp[hy]at hb
   subst ha hb
   rcases Nat.lt_or_ge i j with h'|h'
   ·exact zcJ (h.at h' hx hy) hlt
   have:i=j:=by omega
   subst this
   rw[hx]at hy
   simp at hy
   subst hy
   exact hlt
theorem zs4{ls:LE}{key:By}{i:Nat}(hs:zjc ls)(h:zmZ (ls.map yo) key i):(yl ls key-1:Nat)=(if zb8 (ls.map yo) key i then i else i-1):=by
 have hle:i≤ls.length:=by simpa using h.1
 have key1:∀j k,ls[j]? = some k→j<i→blt key (yo k)=false:=fun j k hk hj=>
  zdq ((h.2 j (yo k) (by rw[List.getElem?_map,hk];rfl)).2 hj)
 have key2:∀j k,ls[j]? = some k→i≤j→blt (yo k) key=false:=fun j k hk hj=>by
  cases hx:blt (yo k) key with
  |false=>rfl
  |true=>have:=(h.2 j (yo k) (by rw[List.getElem?_map,hk];rfl)).1 hx;omega
 by_cases hh:zb8 (ls.map yo) key i=true
 ·rw[if_pos hh]
  unfold zb8 at hh
  rw[List.getElem?_map]at hh
  cases hx:ls[i]? with
  |none=>simp[hx]at hh
  |some x=>
   simp[hx]at hh
   have hil:=(Gs hx).1
   have:yl ls key=i+1:=by
    refine zbZ _ ls (i+1) (by omega) (fun j k hk=>?_)
    rw[Bool.not_eq_true']
    constructor
    ·intro h1
     rcases Nat.lt_or_ge j (i+1) with h'|h'
     ·exact h'
     have:=hs.at (show i<j by omega) hx hk
     rw[hh,h1]at this;cases this
    intro h1
    rcases Nat.lt_or_ge j i with h'|h'
    ·exact key1 j k hk h'
    have:j=i:=by omega
    subst this
    rw[hx]at hk;simp at hk;subst hk
    rw[hh];exact yJ _
   rw[this];simp
 rw[if_neg hh]
 have:yl ls key=i:=by
  refine zbZ _ ls i hle (fun j k hk=>?_)
  rw[Bool.not_eq_true']
  constructor
  ·intro h1
   rcases Nat.lt_or_ge j i with h'|h'
   ·exact h'
   exfalso
   have h2:=key2 j k hk h'
   have he:=zfM h2 h1
   rcases Nat.lt_or_ge i j with h3|h3
   ·have hil:i<ls.length:=by have:=(Gs hk).1;omega
    have hx:ls[i]? = some ls[i]:=by simp[hil]
    have h4:=hs.at h3 hx hk
    rw[he]at h4
    rw[key2 i _ hx (Nat.le_refl _)]at h4;cases h4
   have:j=i:=by omega
   subst this
   apply hh
   unfold zb8
   rw[List.getElem?_map,hk]
   simp[he]
  intro h1;exact key1 j k hk h1
 rw[this]
def zaP(w:Wl):List Va→LE→Prop
 |[],[]=>True
 |v::vs,l::ls=>yd w v l∧zaP w vs ls
 |_,_=>False
theorem zaP.at{w:Wl}:∀{vs:List Va} {ls:LE} {i:Nat} {l:List Ent},zaP w vs ls→ls[i]? = some l→∃v,vs[i]? = some v∧yd w v l
 |[],[],_,_,_,h=>by simp at h
 |v::vs,l::ls,0,l',h,hi=>by simp at hi;subst hi;exact⟨v,rfl,h.1⟩
 |v::vs,l::ls,i+1,l',h,hi=>by simpa using h.2.at (by simpa using hi)
theorem zaP.append{w:Wl}:∀{vs us:List Va} {ls ms:LE},zaP w vs ls→zaP w us ms→zaP w (vs++us) (ls++ms)
 |[],_,[],_,_,h=>h
 |_::_,_,_::_,_,h,h'=>⟨h.1,h.2.append h'⟩
theorem zaP.take{w:Wl}:∀{vs:List Va} {ls:LE} (i:Nat),zaP w vs ls→zaP w (vs.take i) (ls.take i)
 |_,_,0,_=>by simp[zaP]
 |[],[],_+1,_=>by simp[zaP]
 |_::_,_::_,i+1,h=>⟨h.1,h.2.take i⟩
theorem zaP.drop{w:Wl}:∀{vs:List Va} {ls:LE} (i:Nat),zaP w vs ls→zaP w (vs.drop i) (ls.drop i)
 |_,_,0,h=>h
 |[],[],_+1,_=>by simp[zaP]
 |_::_,_::_,i+1,h=>by simpa using h.2.drop i
theorem zaP.chg{S:List Nat}{w w':Wl}(hc:zl S w w'):∀{vs:List Va} {ls:LE},(∀v∈vs,∀b∈zq v,b∉S)→zaP w vs ls→zaP w' vs ls
 |[],[],_,_=>trivial
 |v::vs,l::ls,hb,h=>⟨h.1.chg hc (hb v (by simp)),zaP.chg hc (fun u hu=>hb u (by simp[hu])) h.2⟩
theorem zaP.apart{w:Wl}{b:Nat}{e:TypeId}{c:List Va}(hb:zK w b e c)(hne:Nat.beq 215 e=false):∀{vs:List Va} {ls:LE},zaP w vs ls→∀v∈vs,∀x∈zq v,x∉[b]
 |[],[],_,v,hv=>by simp at hv
 |v::vs,l::ls,h,u,hu=>by
  rcases List.mem_cons.1 hu with rfl|hu
  ·exact zw.apart h.1 hb hne
  exact zaP.apart hb hne h.2 u hu
def ya(w:Wl)(v:Va)(ls:LE):Prop:=∃vs,zw w 176 1 v ls.length vs∧zaP w vs ls
theorem ya.chg0{w w':Wl}{v:Va}{ls:LE}(h:ya w v ls)(hc:zl [] w w'):ya w' v ls:=
 let ⟨vs,h1,h2⟩:=h; ⟨vs,h1.chg0 hc,h2.chg hc (by simp)⟩
theorem ya.chg1{w w':Wl}{v:Va}{ls:LE}(h:ya w v ls){b:Nat}{e:TypeId}{c:List Va}(hb:zK w b e c)(h1:Nat.beq 176 e=false)(h2:Nat.beq 215 e=false)(hc:zl [b] w w'):ya w' v ls:=
 let ⟨vs,g1,g2⟩:=h; ⟨vs,g1.chg hc (g1.apart hb h1),g2.chg hc (g2.apart hb h2)⟩
theorem ya.at{w:Wl}{v:Va}{ls:LE}(h:ya w v ls){i:Nat}{l:List Ent}(hi:ls[i]? = some l):∃b off cap u,v=.slice (some ⟨b,off,none⟩) ls.length cap∧w.cell? ⟨b,off+i*1,none⟩=some u∧yd w u l:=by
 obtain⟨vs,h1,h2⟩:=h
 obtain⟨b,off,cap,u,hv,hu,hc⟩:=h1.at1 (Gs hi).1
 obtain⟨u',hu',hl⟩:=h2.at hi
 rw[hu]at hu'
 simp at hu'
 subst hu'
 exact⟨b,off,cap,u,hv,hc,hl⟩
theorem f56(v:Va)(ls:LE)(key:By)(b:Nat)(w:Wl)(hl:ya w v ls)(hne:∀l∈ls,l≠[])(hn:ls.length≤4611686018427387903)(hb:zK w b 347 [.func (.func 228) #[] #[]])(hm:zph (ls.map yo) key) :
 zL TP 310 #[v,.string key,.func (.func 311) #[] #[Pt b]] w fun r w'=>∃i:Nat,r=.tuple #[Ii i,.bool (zb8 (ls.map yo) key i)]∧zmZ (ls.map yo) key i∧w'=w:=by
 obtain⟨vs,hsl,hal⟩:=id hl
 obtain⟨p,c,rfl,_⟩:=hsl.val
 have call:∀(i:Nat) (l:List Ent),ls[i]? = some l→∃bb off u,p=some ⟨bb,off,none⟩∧w.cell? ⟨bb,off+i*1,none⟩=some u∧zL TP 311 #[u,.string key,Pt b] w fun r w'=>r=Ii (zhh (yo l) key)∧w'=w:=by
  intro i l hi
  obtain⟨bb,off,cap,u,hv,hc,hl'⟩:=hl.at hi
  simp only[Value.slice.injEq]at hv
  refine⟨bb,off,u,hv.1,hc,?_⟩
  cases l with
  |nil=>exact absurd rfl (hne [] (List.mem_of_getElem? hi))
  |cons x l=>exact f57 u x.1 x.2 key l b w hl' hb
 refine A3 Tryz.func310 U U ?_
 refine Sr (Oa U (Oa U (E3 0 1 2 U (Sr (Om U (On zhK U (Oa U (E4 0 1 2 8 U (Sr (Om U (Oa U (Oa U ?_))))))))))))
 refine E6 0 1 2 8 9 10 U (zd (zu ?_))
 refine zX [0,1,2,8,9,10] (fun m F wx=>wx=w∧∃lo hi:Nat,m=hi-lo∧F=[(0,.slice p ls.length c),(1,.string key),(2,.func (.func 311) #[] #[Pt b]),(8,Ii ls.length),(9,Ii lo),(10,Ii hi)]∧zbv (ls.map yo) key lo hi) (m:=ls.length-0) ⟨rfl,0,ls.length,rfl,rfl,by simpa using zbv.start (ls.map yo) key⟩ ?_
 rintro m F wx⟨rfl,lo,hi,rfl,rfl,hbt⟩
 have hle:=hbt.2.1
 rw[List.length_map]at hle
 refine zd (Sr (Om U (Om U (Og (zF U U) U (E7 0 1 2 8 9 10 17 U ?_)))))
 refine zH U (fun hT=>?_) (fun hF=>?_)
 ·refine zk ?_
  have hlt:lo<hi:=by simpa using hT
  have hh:=znN hlt
  have hk:ls[(lo+hi) / 2]? = some ls[(lo+hi) / 2]:=by simp
  obtain⟨bb,off,u,rfl,hcs,hret⟩:=call _ _ hk
  refine zu (Sr (Om U (Om U ?_)))
  refine Og (zG U U (by omega)) U ?_
  refine Og (yp zfG zaY U (show IntKind.u64.wrap ((lo:Int)+(hi:Int))=((lo+hi:Nat):Int) from by rw[IntWalk.u64_in _ ⟨by omega,by omega⟩];omega)) U ?_
  refine Og (zbW 1 U U (by omega) (by decide) (show ((lo+hi:Nat):Int).fdiv 2=(((lo+hi) / 2:Nat):Int) from by rw[Int.fdiv_eq_ediv_of_nonneg _ (by omega)];omega)) U ?_
  refine Og (yp zaY zfG U (show IntKind.i64.wrap (((lo+hi) / 2:Nat):Int)=(((lo+hi) / 2:Nat):Int) from IntWalk.i64_in _ ⟨by omega,by omega⟩)) U ?_
  refine Oa U (E7 0 1 2 8 9 10 11 U (Sr (Om U (Om U (Om U ?_)))))
  refine Og (zm zhK zbd U U _ U (by omega)) U ?_
  refine Ol zdD U hcs (Om U ?_)
  refine Oc zui U U U hret ?_
  rintro v30 w30⟨rfl,rfl⟩
  refine Og (zF U U) U (E8 0 1 2 8 9 10 11 31 U ?_)
  have hkm:(ls.map yo)[(lo+hi) / 2]? = some (yo ls[(lo+hi) / 2]):=by rw[List.getElem?_map,hk];rfl
  refine zH U (fun hT=>?_) (fun hF=>?_)
  ·have hlt2:=(zhX _ _).1 (of_decide_eq_true hT)
   refine za (Om U ?_)
   refine Og (zG U U (by omega)) U ?_
   refine Oa U (N6 0 1 2 8 9 10 U ?_)
   refine⟨hi-((lo+hi) / 2+1),by omega,rfl,(lo+hi) / 2+1,hi,rfl,rfl,hbt.low hm hh.1 hh.2 hkm hlt2⟩
  have hlt2:blt (yo ls[(lo+hi) / 2]) key=false:=by
   cases hx:blt (yo ls[(lo+hi) / 2]) key with
   |false=>rfl
   |true=>have:=(zhX _ _).2 hx;simp at hF;omega
  refine za (Om U (Oa U (N6 0 1 2 8 9 10 U ?_)))
  refine⟨(lo+hi) / 2-lo,by omega,rfl,lo,(lo+hi) / 2,rfl,rfl,hbt.high hm hh.1 hh.2 hkm hlt2⟩
 refine zI ?_
 repeat first|refine te ?_|refine bo rfl ?_
 refine zt _ ?_
 have hge:hi≤lo:=by simpa using hF
 have hlb:=hbt.done hge
 refine zd ?_
 by_cases hlt:lo<ls.length
 ·have hk:ls[lo]? = some ls[lo]:=by simp
  obtain⟨bb,off,u,rfl,hcs,hret⟩:=call _ _ hk
  have hhas:zb8 (ls.map yo) key lo=decide (zhh (yo ls[lo]) key=0):=by
   simp only[zb8,List.getElem?_map,hk,Option.map_some]
   exact decide_eq_decide.2 (znR _ _).symm
  refine za (Om U (Om U (Om U ?_)))
  refine Og (vt (zF U U) (by simpa using hlt)) U ?_
  refine Om U (Oj U U (Oj U U (Oj U U ?_)))
  refine Oy U U (zm zhK zbd U U _ U hlt) ?_
  refine Oy U U (zj zdD U hcs) (Oj U U ?_)
  refine Ow U U zui U U U hret ?_
  rintro v46 w46⟨rfl,rfl⟩
  refine Oy U U (zuq (zA U U) hhas.symm) (Ot U (Oa U (Oa U (E2 6 7 U (zh ?_)))))
  refine zbX U U U ?_
  exact⟨lo,U,hlb,U⟩
 have hhas:zb8 (ls.map yo) key lo=false:=by
  simp only[zb8,List.getElem?_map,List.getElem?_eq_none (Nat.not_lt.1 hlt),Option.map_none]
 refine za (Om U (Om U (Om U ?_)))
 refine Og (vf (zF U U) (by simpa using hlt)) U ?_
 refine Om U ?_
 iterate 8 refine zdG U U U U U U ?_
 refine Of U (Oa U (Oa U (E2 6 7 U (zh ?_))))
 refine zbX U U U ?_
 exact⟨lo,by rw[hhas],hlb,rfl⟩
theorem f40(v:Va)(es:List Ent)(key:By)(w:Wl)(hl:yd w v es)(hn:es.length≤4611686018427387903)(hs:Srt es) :
 zL TP 184 #[v,.string key,.func (.func 185) #[] #[]] w fun r w'=>r=.tuple #[Ii (lbN es key:Nat),.bool (zdw es key)]∧zl [] w w':=by
 refine A3 Tryz.func184 U U ?_
 refine Sr ?_
 refine Ob U U ?_
 intro b5 w5 e5 n5 c5 k5
 refine Oa U (Oa U (E3 0 1 5 U (Sr (Om U (Om U (Og (y9 U U) U ?_))))))
 refine Oc zzq U U U (f50 v es key b5 _ (hl.chg0 c5) hn k5 (hs.mono key)) ?_
 rintro v11 w11⟨i,rfl,hlb,c11⟩
 refine Oe U U (Oe U U (Oa U (Oa U (E2 6 7 U (zh ?_)))))
 refine zbX U U U ?_
 have:=hlb.eq
 subst this
 exact⟨U,c5.trans c11⟩
theorem f48(v:Va)(ls:LE)(key:By)(w:Wl)(hl:ya w v ls)(hne:∀l∈ls,l≠[])(hn:ls.length≤4611686018427387903)(hs:zjc ls) :
 zL TP 227 #[v,.string key,.func (.func 228) #[] #[]] w fun r w'=>∃i:Nat,r=.tuple #[Ii i,.bool (zb8 (ls.map yo) key i)]∧zmZ (ls.map yo) key i∧zl [] w w':=by
 refine A3 Tryz.func227 U U ?_
 refine Sr ?_
 refine Ob U U ?_
 intro b5 w5 e5 n5 c5 k5
 refine Oa U (Oa U (E3 0 1 5 U (Sr (Om U (Om U (Og (y9 U U) U ?_))))))
 refine Oc zxc U U U (f56 v ls key b5 _ (hl.chg0 c5) hne hn k5 (hs.mono key)) ?_
 rintro v11 w11⟨i,rfl,hlb,rfl⟩
 refine Oe U U (Oe U U (Oa U (Oa U (E2 6 7 U (zh ?_)))))
 refine zbX U U U ?_
 exact⟨i,U,hlb,c5⟩
theorem f39(v:Va)(ls:LE)(key:By)(w:Wl)(hl:ya w v ls)(hne:∀l∈ls,l≠[])(hn:ls.length≤4611686018427387903)(hs:zjc ls) :
 zL TP 183 #[v,.string key] w fun r w'=>r=Ii (yl ls key-1:Nat)∧zl [] w w':=by
 refine A2 Tryz.func183 U U ?_
 refine Sr (Oa U (E2 0 1 U (Sr (Om U (Om U ?_)))))
 refine Oc zyG U U U (f48 v ls key _ hl hne hn hs) ?_
 rintro v10 w10⟨i,rfl,hlb,c10⟩
 refine Om U (Oe U U (Oe U U (Oa U (Oa U (E2 5 6 U ?_)))))
 have hc:=zs4 hs hlb
 have hi:i≤ls.length:=by simpa using hlb.1
 refine zd (Sr (Om U (Og (zE U) U (E2 5 14 U ?_))))
 refine zH U (fun hT=>?_) (fun hF=>?_)
 ·refine za (Om U ?_)
  refine Og (yV U U (by omega)) U ?_
  refine Oa U (E1 5 U (Sr (Om U (Og (zqz U U) U (Oa U (E1 4 U (zh ?_)))))))
  refine zx U U ?_
  have:zb8 (ls.map yo) key i=false:=by simpa using hT
  rw[this]at hc
  simp at hc
  refine⟨?_,c10⟩
  rw[hc]
  congr 1
  split<;>omega
 refine zk (Sr (Om U (Og (zqz U U) U (Oa U (E1 4 U (zh ?_))))))
 refine zx U U ?_
 have:zb8 (ls.map yo) key i=true:=by simpa using hF
 rw[this]at hc
 simp at hc
 refine⟨?_,c10⟩
 rw[hc]
 congr 1
 split<;>omega
def spot(ls:LE)(key:By):Nat×Nat×Bool:=
 match ls[yl ls key-1]? with
 |some l=>(yl ls key-1,lbN l key,zdw l key)
 |none=>(0,0,false)
theorem zh4{ls:LE}{key:By}(h:ls≠[]):yl ls key-1<ls.length:=by
 have:yl ls key≤ls.length:=(List.takeWhile_prefix _).length_le
 have:0<ls.length:=List.length_pos_iff.2 h
 omega
theorem f24(v:Va)(ls:LE)(key:By)(w:Wl)(hl:ya w v ls)(hne:∀l∈ls,l≠[])(hn:ls.length≤4611686018427387903)(hs:zjc ls)(hsl:∀l∈ls,Srt l)(hnl:∀l∈ls,l.length≤4611686018427387903) :
 zL TP 120 #[v,.string key] w fun r w'=>r=.tuple #[Ii ((spot ls key).1:Nat),Ii ((spot ls key).2.1:Nat),.bool (spot ls key).2.2]∧zl [] w w':=by
 obtain⟨vs,hsl',hal⟩:=id hl
 obtain⟨p,c,rfl,_⟩:=hsl'.val
 refine A2 Tryz.func120 U U ?_
 refine Sr (Oa U (Oa U (Oa U (E2 0 1 U (zd (Sr (Om U (On zau U (Og (zA U U) U (E3 0 1 9 U ?_))))))))))
 refine zH U (fun hT=>?_) (fun hF=>?_)
 ·refine Sr (Oa U (Oa U (Oa U (E3 4 5 6 U (zh ?_)))))
  refine zba ?_
  refine zgh U U U U ?_
  have:ls=[]:=List.eq_nil_of_length_eq_zero (by simpa using hT)
  subst this
  exact⟨U,zl.refl _ _⟩
 refine zk ?_
 have hls:ls≠[]:=by rintro rfl;simp at hF
 have hat:=zh4 (key:=key) hls
 have hk:ls[yl ls key-1]? = some ls[yl ls key-1]:=by simp[hat]
 have hmem:ls[yl ls key-1]∈ls:=List.getElem_mem hat
 have hspot:spot ls key=(yl ls key-1,lbN ls[yl ls key-1] key,zdw ls[yl ls key-1] key):=by unfold spot;rw[hk]
 refine Sr (Om U (Om U ?_))
 refine Oc zxk U U U (f39 _ ls key _ hl hne hn hs) ?_
 rintro v12 w12⟨rfl,c12⟩
 refine Oa U (E3 0 1 4 U ?_)
 obtain⟨bb,off,cap,u,hv,hc,hl'⟩:=(hl.chg0 c12).at hk
 cases hv
 refine Sr (Om U (Om U ?_))
 refine Og (zm zau zbd U U _ U hat) U ?_
 refine Ol zdD U hc (Om U ?_)
 refine Oc zzp U U U (f40 u _ key _ hl' (hnl _ hmem) (hsl _ hmem)) ?_
 rintro v19 w19⟨rfl,c19⟩
 refine Om U (Oe U U (Oe U U (Oa U (Oa U (E3 4 5 6 U (Sr (Om U (Om U (Om U (Oa U (Oa U (Oa U (E3 4 5 6 U (zh ?_))))))))))))))
 refine zgh U U U U ?_
 rw[hspot]
 exact⟨U,c12.trans c19⟩
theorem f25(v:Va)(n:Nat)(xs:List Va)(w:Wl)(h:zw w 215 2 v n xs)(hn:n≤4294967296):zL TP 196 #[v] w fun r w'=>zw w' 215 2 r n xs∧(∀b∈zq r,w.heap.size≤b)∧zl [] w w':=by
 obtain⟨p,c,rfl,_⟩:=h.val
 refine A1 Tryz.func196 U U ?_
 refine Sr (Oa U (E1 0 U (zd (Sr (Om U (Og (zkI yc U U) U (E2 0 4 U ?_)))))))
 refine zH U (fun hT=>?_) (fun hF=>?_)
 ·refine Sr (Oa U (E1 2 U (zh ?_)))
  refine zba ?_
  refine zx U U ?_
  rcases h with⟨_,rfl,rfl⟩|⟨b,off,cap,cc,he,_⟩
  ·exact⟨zw.nil _ _ _,by simp[zq],zl.refl _ _⟩
  simp only[Value.slice.injEq]at he
  rw[he.1]at hT
  simp at hT
 refine zk (Sr ?_)
 refine Oq (zz zhv U (vs:=[]) U (css:=[]) trivial U U (cs:=[]) U U ?_)
 intro b5 w5 e5 n5 c5 k5
 refine Om U ?_
 refine Oq (yE zhv yc U U (zw.of_blk (n:=0) k5 (by simp) (by simp[maxLen]) (by simp)) (h.chg0 c5) (by simp only[maxLen];omega) (by omega) U ?_)
 intro v7 w7 i7 c7 o7 z7
 refine Oa U (E1 2 U (zh ?_))
 refine zx U U ?_
 refine⟨by simpa using i7,?_,c5.own c7 (by simp[zq,←e5])⟩
 rcases o7 with o7|⟨b,o7,hb⟩
 ·rw[o7];simp[zq,←e5]
 rw[o7];intro x hx;simp at hx;subst hx;have:=c5.size;omega
theorem f31(v:Va)(n:Nat)(xs:List Va)(w:Wl)(h:zw w 176 1 v n xs)(hn:n≤4294967296):zL TP 93 #[v] w fun r w'=>zw w' 176 1 r n xs∧(∀b∈zq r,w.heap.size≤b)∧zl [] w w':=by
 obtain⟨p,c,rfl,_⟩:=h.val
 refine A1 Tryz.func93 U U ?_
 refine Sr (Oa U (E1 0 U (zd (Sr (Om U (Og (zkI zau U U) U (E2 0 4 U ?_)))))))
 refine zH U (fun hT=>?_) (fun hF=>?_)
 ·refine Sr (Oa U (E1 2 U (zh ?_)))
  refine zba ?_
  refine zx U U ?_
  rcases h with⟨_,rfl,rfl⟩|⟨b,off,cap,cc,he,_⟩
  ·exact⟨zw.nil _ _ _,by simp[zq],zl.refl _ _⟩
  simp only[Value.slice.injEq]at he
  rw[he.1]at hT
  simp at hT
 refine zk (Sr ?_)
 refine Oq (zz zk1 U (vs:=[]) U (css:=[]) trivial U U (cs:=[]) U U ?_)
 intro b5 w5 e5 n5 c5 k5
 refine Om U ?_
 refine Oq (yE zk1 zau U U (zw.of_blk (n:=0) k5 (by simp) (by simp[maxLen]) (by simp)) (h.chg0 c5) (by simp only[maxLen];omega) (by omega) U ?_)
 intro v7 w7 i7 c7 o7 z7
 refine Oa U (E1 2 U (zh ?_))
 refine zx U U ?_
 refine⟨by simpa using i7,?_,c5.own c7 (by simp[zq,←e5])⟩
 rcases o7 with o7|⟨b,o7,hb⟩
 ·rw[o7];simp[zq,←e5]
 rw[o7];intro x hx;simp at hx;subst hx;have:=c5.size;omega
theorem f53(n:Nat)(w:Wl)(hn:n≤4294967296):zL TP 322 #[.slice none 0 0,Ii n] w fun r w'=>zw w' 176 1 r 0 []∧(∀b∈zq r,w.heap.size≤b)∧zl [] w w':=by
 refine A2 Tryz.func322 U U ?_
 refine Sr (Oa U (E2 0 1 U (zd (Sr (Om U (Og (zF U U) U (E3 0 1 6 U ?_)))))))
 refine zH U (fun hT=>?_) (fun hF=>?_)
 ·exfalso
  have:=of_decide_eq_true hT
  omega
 refine zk (zd (Sr (Om U (Om U (Og (zgf zau U) U (Om U (On zau U ?_)))))))
 refine Og (yV U U (by omega)) U ?_
 refine Og (yQ (v':=Ii n) (yV U U (by omega)) (by congr 1<;>omega)) U ?_
 refine Oa U (E2 0 1 U (Sr (Om U (Og (ym U U) U (E3 0 1 16 U ?_)))))
 refine zH U (fun hT=>?_) (fun hF=>?_)
 ·have hpos:0<n:=by have:=of_decide_eq_true hT;omega
  refine za (Om U (Om U (Og (zgf zau U) U ?_)))
  refine Og (za8 zau zbd U U _ U (by omega)) U ?_
  refine Om U ?_
  refine Oq (zcS zk1 zaY U U U (zw.nil _ _ _) (fun p c he=>by simp[cut]at he;omega) (by simp only[maxLen];omega) (by omega) U ?_)
  intro b cap zs w22 hb c22 hge hle hzl hone k22
  refine Om U (On zau U ?_)
  refine Og (za8 zau zbd U U 0 U (by omega)) U ?_
  refine Oa U (E1 0 U (Sr (Om U (Oa U (E1 4 U (zh ?_))))))
  refine zx U U ?_
  have hsl:zd8 w22 176 1 b 0 (0+n) cap ([]++zs) (((([]++zs):List Va).drop 0).take ((0+n)*1)):=⟨k22,hge,hle,by simp only[List.nil_append];omega,rfl,hone⟩
  have hc:=hsl.cut (l:=0) (h:=0) (m:=cap) (Nat.le_refl _) (Nat.zero_le _) (Nat.le_refl _)
  refine⟨by simpa using hc,fun x hx=>?_,c22⟩
  have:=zw.cutBlk (len:=0) (cap:=0) x hx
  simp[zq]at this
  omega
 refine zk (Sr (Om U (Oa U (E1 4 U (zh ?_)))))
 refine zx U U ?_
 exact⟨zw.nil _ _ _,by simp[zq],zl.refl _ _⟩
theorem f55(n:Nat)(w:Wl)(hn:n≤4294967296):zL TP 356 #[.slice none 0 0,Ii n] w fun r w'=>zw w' 215 2 r 0 []∧(∀b∈zq r,w.heap.size≤b)∧zl [] w w':=by
 refine A2 Tryz.func356 U U ?_
 refine Sr (Oa U (E2 0 1 U (zd (Sr (Om U (Og (zF U U) U (E3 0 1 6 U ?_)))))))
 refine zH U (fun hT=>?_) (fun hF=>?_)
 ·exfalso
  have:=of_decide_eq_true hT
  omega
 refine zk (zd (Sr (Om U (Om U (Og (zgf yc U) U (Om U (On yc U ?_)))))))
 refine Og (yV U U (by omega)) U ?_
 refine Og (yQ (v':=Ii n) (yV U U (by omega)) (by congr 1<;>omega)) U ?_
 refine Oa U (E2 0 1 U (Sr (Om U (Og (ym U U) U (E3 0 1 16 U ?_)))))
 refine zH U (fun hT=>?_) (fun hF=>?_)
 ·have hpos:0<n:=by have:=of_decide_eq_true hT;omega
  refine za (Om U (Om U (Og (zgf yc U) U ?_)))
  refine Og (za8 yc yL U U _ U (by omega)) U ?_
  refine Om U ?_
  refine Oq (zcS zhv zaY U U U (zw.nil _ _ _) (fun p c he=>by simp[cut]at he;omega) (by simp only[maxLen];omega) (by omega) U ?_)
  intro b cap zs w22 hb c22 hge hle hzl hone k22
  refine Om U (On yc U ?_)
  refine Og (za8 yc yL U U 0 U (by omega)) U ?_
  refine Oa U (E1 0 U (Sr (Om U (Oa U (E1 4 U (zh ?_))))))
  refine zx U U ?_
  have hsl:zd8 w22 215 2 b 0 (0+n) cap ([]++zs) (((([]++zs):List Va).drop 0).take ((0+n)*2)):=⟨k22,hge,hle,by simp only[List.nil_append];omega,rfl,hone⟩
  have hc:=hsl.cut (l:=0) (h:=0) (m:=cap) (Nat.le_refl _) (Nat.zero_le _) (Nat.le_refl _)
  refine⟨by simpa using hc,fun x hx=>?_,c22⟩
  have:=zw.cutBlk (len:=0) (cap:=0) x hx
  simp[zq]at this
  omega
 refine zk (Sr (Om U (Oa U (E1 4 U (zh ?_)))))
 refine zx U U ?_
 exact⟨zw.nil _ _ _,by simp[zq],zl.refl _ _⟩
theorem f42(v:Va)(us:List Va)(xss:List (List Va))(w:Wl)(hu:zw w 173 1 v xss.length us)(ha:zgR w 176 1 us xss)(ht:zbe 1 xss xss.length≤4294967296)(hlen:xss.length≤4294967296) :
 zL TP 262 #[v] w fun r w'=>zw w' 176 1 r (zbe 1 xss xss.length) xss.flatten∧(∀b∈zq r,w.heap.size≤b)∧zl [] w w':=by
 have part:∀(wx:Wl) (i:Nat),zl [] w wx→i<xss.length→∃b off cap x p c,v=.slice (some ⟨b,off,none⟩) xss.length cap∧xss[i]? = some x∧wx.cell? ⟨b,off+i*1,none⟩=some (.slice p (x.length / 1) c)∧zw wx 176 1 (.slice p (x.length / 1) c) (x.length / 1) x:=by
  intro wx i hc hi
  obtain⟨b,off,cap,u,hv,hu',hcell⟩:=(hu.chg0 hc).at1 hi
  have hx:xss[i]? = some xss[i]:=by simp[hi]
  obtain⟨u',hu2,hs⟩:=(ha.chg0 hc).at hx
  rw[hu']at hu2
  simp at hu2
  subst hu2
  obtain⟨p,c,rfl,_⟩:=hs.val
  exact⟨b,off,cap,_,p,c,hv,hx,hcell,hs⟩
 obtain⟨pv,cv,rfl,_⟩:=hu.val
 refine A1 Tryz.func262 U U ?_
 refine Sr (Oa U (E1 0 U (Sr (Oa U (E2 0 3 U (zd (Sr (Om U (On zkT U (Om U (E5 0 3 9 10 11 U (zu ?_))))))))))))
 refine zX [0,3,9,10,11] (fun m F wx=>wx=w∧∃j:Nat,m=xss.length-j∧j≤xss.length∧F=[(0,.slice pv xss.length cv),(3,Ii (zbe 1 xss j:Nat)),(9,.slice pv xss.length cv),(10,Ii xss.length),(11,Ii j)]) (m:=xss.length-0) ⟨U,0,U,Nat.zero_le _,U⟩ ?_
 rintro m F wx⟨rfl,j,rfl,hj,rfl⟩
 have hmj:=zbK 1 xss hj
 refine Sr (Og (zF U U) U (E6 0 3 9 10 11 12 U (zd ?_)))
 refine zH U (fun hT=>?_) (fun hF=>?_)
 ·refine zk ?_
  have hlt:j<xss.length:=by simpa using hT
  obtain⟨b,off,cap,x,p,c,hv,hx,hcell,hs⟩:=part wx j (zl.refl _ _) hlt
  cases hv
  have hsucc:=zdx (k:=1) hx
  have hmj2:=zbK 1 xss (show j+1≤xss.length by omega)
  refine zd (zu (Sr ?_))
  refine Og (zm zkT zia U U _ U hlt) U ?_
  refine Ol zbp U hcell (Oa U (E6 0 3 5 9 10 11 U (Sr (Om U (Om U (On zau U ?_))))))
  refine Og (zG U U (by omega)) U ?_
  refine Oa U (E5 0 3 9 10 11 U (Sr (Om U (Og (zF U U) U (E6 0 3 9 10 11 20 U ?_)))))
  refine zH U (fun hT=>?_) (fun hF=>?_)
  ·exfalso
   have:=of_decide_eq_true hT
   omega
  refine z0 (zn (za ?_))
  refine Og (zG U U (by omega)) U ?_
  refine Om U (N5 0 3 9 10 11 U ?_)
  refine⟨xss.length-(j+1),by omega,rfl,j+1,rfl,by omega,?_⟩
  rw[hsucc]
  rfl
 have hge:¬ j<xss.length:=by simpa using hF
 obtain rfl:j=xss.length:=by omega
 refine zI ?_
 repeat first|refine te ?_|refine bo rfl ?_
 refine zt _ ?_
 refine Sr (Om U ?_)
 refine Oc zyW U U U (f53 (zbe 1 xss xss.length) wx ht) ?_
 rintro v24 w24⟨i24,n24,c24⟩
 refine Oa U (E2 0 6 U (zd (Sr (Om U (On zkT U (Om U (E4 6 25 26 27 U (zu ?_))))))))
 refine zX [6,25,26,27] (fun m F wy=>∃(j:Nat) (acc:Va),m=xss.length-j∧j≤xss.length∧F=[(6,acc),(25,.slice pv xss.length cv),(26,Ii xss.length),(27,Ii j)]∧zw wy 176 1 acc (zbe 1 xss j) (xss.take j).flatten∧(∀b∈zq acc,wx.heap.size≤b)∧zl [] wx wy) (m:=xss.length-0) ⟨0,v24,rfl,Nat.zero_le _,rfl,by simpa[zbe] using i24,n24,c24⟩ ?_
 rintro m F wy⟨j,acc,rfl,hj,rfl,hacc,hnew,hcy⟩
 have hmj:=zbK 1 xss hj
 refine Sr (Og (zF U U) U (E5 6 25 26 27 28 U (zd ?_)))
 refine zH U (fun hT=>?_) (fun hF=>?_)
 ·refine zk ?_
  have hlt:j<xss.length:=by simpa using hT
  obtain⟨b,off,cap,x,p,c,hv,hx,hcell,hs⟩:=part wy j hcy hlt
  cases hv
  have hsucc:=zdx (k:=1) hx
  have hmj2:=zbK 1 xss (show j+1≤xss.length by omega)
  refine zd (zu (Sr ?_))
  refine Og (zm zkT zia U U _ U hlt) U ?_
  refine Ol zbp U hcell (Oa U (E5 6 8 25 26 27 U (za (Om U (Om U ?_)))))
  refine Oq (yE zk1 zau U U hacc hs (by simp only[maxLen];omega) (by omega) U ?_)
  intro v33 w33 i33 c33 o33 z33
  refine Oa U (N4 6 25 26 27 U (zn (za ?_)))
  refine Og (zG U U (by omega)) U ?_
  refine Om U (N4 6 25 26 27 U ?_)
  refine⟨xss.length-(j+1),by omega,j+1,v33,rfl,by omega,rfl,?_,?_,hcy.own c33 hnew⟩
  ·rw[hsucc,zdW hx]
   exact i33
  rcases o33 with o33|⟨b',o33,hb'⟩
  ·rw[o33];exact hnew
  rw[o33];intro y hy;simp at hy;subst hy;have:=hcy.size;omega
 have hge:¬ j<xss.length:=by simpa using hF
 obtain rfl:j=xss.length:=by omega
 refine zI ?_
 repeat first|refine te ?_|refine bo rfl ?_
 refine zt _ ?_
 refine Sr (Om U (Oa U (E1 2 U (zh ?_))))
 refine zx U U ?_
 rw[List.take_length]at hacc
 exact⟨hacc,hnew,hcy⟩
theorem f45(v:Va)(us:List Va)(xss:List (List Va))(w:Wl)(hu:zw w 176 1 v xss.length us)(ha:zgR w 215 2 us xss)(ht:zbe 2 xss xss.length≤4294967296)(hlen:xss.length≤4294967296) :
 zL TP 335 #[v] w fun r w'=>zw w' 215 2 r (zbe 2 xss xss.length) xss.flatten∧(∀b∈zq r,w.heap.size≤b)∧zl [] w w':=by
 have part:∀(wx:Wl) (i:Nat),zl [] w wx→i<xss.length→∃b off cap x p c,v=.slice (some ⟨b,off,none⟩) xss.length cap∧xss[i]? = some x∧wx.cell? ⟨b,off+i*1,none⟩=some (.slice p (x.length / 2) c)∧zw wx 215 2 (.slice p (x.length / 2) c) (x.length / 2) x:=by
  intro wx i hc hi
  obtain⟨b,off,cap,u,hv,hu',hcell⟩:=(hu.chg0 hc).at1 hi
  have hx:xss[i]? = some xss[i]:=by simp[hi]
  obtain⟨u',hu2,hs⟩:=(ha.chg0 hc).at hx
  rw[hu']at hu2
  simp at hu2
  subst hu2
  obtain⟨p,c,rfl,_⟩:=hs.val
  exact⟨b,off,cap,_,p,c,hv,hx,hcell,hs⟩
 obtain⟨pv,cv,rfl,_⟩:=hu.val
 refine A1 Tryz.func335 U U ?_
 refine Sr (Oa U (E1 0 U (Sr (Oa U (E2 0 3 U (zd (Sr (Om U (On zhK U (Om U (E5 0 3 9 10 11 U (zu ?_))))))))))))
 refine zX [0,3,9,10,11] (fun m F wx=>wx=w∧∃j:Nat,m=xss.length-j∧j≤xss.length∧F=[(0,.slice pv xss.length cv),(3,Ii (zbe 2 xss j:Nat)),(9,.slice pv xss.length cv),(10,Ii xss.length),(11,Ii j)]) (m:=xss.length-0) ⟨U,0,U,Nat.zero_le _,U⟩ ?_
 rintro m F wx⟨rfl,j,rfl,hj,rfl⟩
 have hmj:=zbK 2 xss hj
 refine Sr (Og (zF U U) U (E6 0 3 9 10 11 12 U (zd ?_)))
 refine zH U (fun hT=>?_) (fun hF=>?_)
 ·refine zk ?_
  have hlt:j<xss.length:=by simpa using hT
  obtain⟨b,off,cap,x,p,c,hv,hx,hcell,hs⟩:=part wx j (zl.refl _ _) hlt
  cases hv
  have hsucc:=zdx (k:=2) hx
  have hmj2:=zbK 2 xss (show j+1≤xss.length by omega)
  refine zd (zu (Sr ?_))
  refine Og (zm zhK zbd U U _ U hlt) U ?_
  refine Ol zdD U hcell (Oa U (E6 0 3 5 9 10 11 U (Sr (Om U (Om U (On yc U ?_))))))
  refine Og (zG U U (by omega)) U ?_
  refine Oa U (E5 0 3 9 10 11 U (Sr (Om U (Og (zF U U) U (E6 0 3 9 10 11 20 U ?_)))))
  refine zH U (fun hT=>?_) (fun hF=>?_)
  ·exfalso
   have:=of_decide_eq_true hT
   omega
  refine z0 (zn (za ?_))
  refine Og (zG U U (by omega)) U ?_
  refine Om U (N5 0 3 9 10 11 U ?_)
  refine⟨xss.length-(j+1),by omega,rfl,j+1,rfl,by omega,?_⟩
  rw[hsucc]
  rfl
 have hge:¬ j<xss.length:=by simpa using hF
 obtain rfl:j=xss.length:=by omega
 refine zI ?_
 repeat first|refine te ?_|refine bo rfl ?_
 refine zt _ ?_
 refine Sr (Om U ?_)
 refine Oc zxG U U U (f55 (zbe 2 xss xss.length) wx ht) ?_
 rintro v24 w24⟨i24,n24,c24⟩
 refine Oa U (E2 0 6 U (zd (Sr (Om U (On zhK U (Om U (E4 6 25 26 27 U (zu ?_))))))))
 refine zX [6,25,26,27] (fun m F wy=>∃(j:Nat) (acc:Va),m=xss.length-j∧j≤xss.length∧F=[(6,acc),(25,.slice pv xss.length cv),(26,Ii xss.length),(27,Ii j)]∧zw wy 215 2 acc (zbe 2 xss j) (xss.take j).flatten∧(∀b∈zq acc,wx.heap.size≤b)∧zl [] wx wy) (m:=xss.length-0) ⟨0,v24,rfl,Nat.zero_le _,rfl,by simpa[zbe] using i24,n24,c24⟩ ?_
 rintro m F wy⟨j,acc,rfl,hj,rfl,hacc,hnew,hcy⟩
 have hmj:=zbK 2 xss hj
 refine Sr (Og (zF U U) U (E5 6 25 26 27 28 U (zd ?_)))
 refine zH U (fun hT=>?_) (fun hF=>?_)
 ·refine zk ?_
  have hlt:j<xss.length:=by simpa using hT
  obtain⟨b,off,cap,x,p,c,hv,hx,hcell,hs⟩:=part wy j hcy hlt
  cases hv
  have hsucc:=zdx (k:=2) hx
  have hmj2:=zbK 2 xss (show j+1≤xss.length by omega)
  refine zd (zu (Sr ?_))
  refine Og (zm zhK zbd U U _ U hlt) U ?_
  refine Ol zdD U hcell (Oa U (E5 6 8 25 26 27 U (za (Om U (Om U ?_)))))
  refine Oq (yE zhv yc U U hacc hs (by simp only[maxLen];omega) (by omega) U ?_)
  intro v33 w33 i33 c33 o33 z33
  refine Oa U (N4 6 25 26 27 U (zn (za ?_)))
  refine Og (zG U U (by omega)) U ?_
  refine Om U (N4 6 25 26 27 U ?_)
  refine⟨xss.length-(j+1),by omega,j+1,v33,rfl,by omega,rfl,?_,?_,hcy.own c33 hnew⟩
  ·rw[hsucc,zdW hx]
   exact i33
  rcases o33 with o33|⟨b',o33,hb'⟩
  ·rw[o33];exact hnew
  rw[o33];intro y hy;simp at hy;subst hy;have:=hcy.size;omega
 have hge:¬ j<xss.length:=by simpa using hF
 obtain rfl:j=xss.length:=by omega
 refine zI ?_
 repeat first|refine te ?_|refine bo rfl ?_
 refine zt _ ?_
 refine Sr (Om U (Oa U (E1 2 U (zh ?_))))
 refine zx U U ?_
 rw[List.take_length]at hacc
 exact⟨hacc,hnew,hcy⟩
def Pg(w:Wl)(p:Nat)(ls:LE):Prop:=∃v,zK w p 178 [v]∧ya w v ls
theorem Pg.chg0{w w':Wl}{p:Nat}{ls:LE}(h:Pg w p ls)(hc:zl [] w w'):Pg w' p ls:=
 let ⟨v,h1,h2⟩:=h; ⟨v,h1.chg0 hc,h2.chg0 hc⟩
theorem Pg.lt{w:Wl}{p:Nat}{ls:LE}(h:Pg w p ls):p<w.heap.size:=let ⟨_,h1,_⟩:=h;h1.lt
theorem Pg.chgO{w w':Wl}{p q:Nat}{ls ms:LE}(h:Pg w p ls)(hq:Pg w q ms)(hne:p≠q)(hc:zl [q] w w'):Pg w' p ls:=
 let ⟨v,h1,h2⟩:=h;let ⟨_,g1,_⟩:=hq; ⟨v,h1.chg hc (by simpa using hne),h2.chg1 g1 rfl rfl hc⟩
theorem f26(p:Nat)(ls new:LE)(lv:Va)(fr un:Nat)(w:Wl)(hp:Pg w p ls)(hnew:ya w lv new)(h1:fr≤un)(h2:un≤ls.length)(hb1:ls.length≤1048576)(hb2:new.length≤1048576) :
 zL TP 197 #[Pt p,Ii fr,Ii un,lv] w fun r w'=>r=.tuple #[]∧Pg w' p (ls.take fr++new++ls.drop un)∧zl [p] w w':=by
 obtain⟨v,hb,vs,hsl,hal⟩:=hp
 obtain⟨nvs,hnsl,hnal⟩:=hnew
 obtain⟨pv,cv,rfl,hlc⟩:=hsl.val
 obtain⟨pn,cn,rfl,_⟩:=hnsl.val
 have hvl:=hsl.len_xs
 have hnl:=hnsl.len_xs
 have hA:zw w 176 1 (cut pv 0 fr fr 1) ((vs.take fr).length / 1) (vs.take fr):=by
  have:=hsl.cut (l:=0) (h:=fr) (m:=fr) (Nat.zero_le _) (Nat.le_refl _) (by omega) (by omega)
  simpa[show min fr vs.length=fr by omega] using this
 have hB:zw w 176 1 (.slice pn new.length cn) (nvs.length / 1) nvs:=by simpa[hnl] using hnsl
 have hC:zw w 176 1 (cut pv un ls.length cv 1) ((vs.drop un).length / 1) (vs.drop un):=by
  have:=hsl.cut (l:=un) (h:=ls.length) (m:=cv) (by omega) hlc (Nat.le_refl _) (Nat.le_refl _)
  have e:(vs.drop (un*1)).take ((ls.length-un)*1)=vs.drop un:=by rw[Nat.mul_one,Nat.mul_one,Tl (by simp;omega)]
  rw[e]at this
  simpa[hvl] using this
 have hS:zgR w 176 1 [cut pv 0 fr fr 1,.slice pn new.length cn,cut pv un ls.length cv 1] [vs.take fr,nvs,vs.drop un]:=⟨hA,hB,hC,trivial⟩
 have hsum:zbe 1 [vs.take fr,nvs,vs.drop un] 3=fr+new.length+(ls.length-un):=by
  simp[zbe,hvl,hnl,show min fr ls.length=fr by omega]
  omega
 refine A4 Tryz.func197 U U ?_
 refine zN (fun wz=>zl [] w wz) mix (by kernel_rfl) (zl.drew [] w) ?_
 refine Tm U (Tm U (Tp (fun _=>zp U) U (Td yH U (Tr (fun wz hz=>zj zbp U ((hb.chg0 hz).cell' U)) U (Tm U (Tm U ?_))))))
 refine Tp (fun _=>zfK zau zbd U U U _ _ U U (by omega) (by omega)) U ?_
 refine Tm U (Tm U (Tp (fun _=>zp U) U (Td yH U (Tr (fun wz hz=>zj zbp U ((hb.chg0 hz).cell' U)) U (Tm U ?_)))))
 refine Tp (fun _=>zaV zau zbd U U _ U (by omega)) U ?_
 refine za4 U (gn U) (zz zym U (vs:=[_,_,_]) U (css:=[_,_,_]) ⟨U,U,U,trivial⟩ U U (cs:=[_,_,_]) U U ?_)
 intro b23 w23 e23 n23 c23 k23
 refine⟨.inl ((zl.drew [] w).trans c23),?_⟩
 refine Tc zzD U U U (f42 _ _ [vs.take fr,nvs,vs.drop un] _ (zw.of_blk (n:=3) k23 U (by simp[maxLen]) (by intro u hu;simp at hu;rcases hu with rfl|rfl|rfl<;>rfl)) (hS.chg0 ((zl.drew [] w).trans c23)) (by simp only[List.length_cons,List.length_nil];rw[hsum];omega) (by simp)) ?_
 rintro v24 w24⟨i24,n24,c24⟩
 obtain⟨p24,q24,rfl,_⟩:=i24.val
 refine⟨.inl (((zl.drew [] w).trans c23).trans c24),?_⟩
 refine Tp (fun _=>zp U) U (Td yH U ?_)
 refine za4 U (gn U) (zv zia U U U U (hb.chg0 (((zl.drew [] w).trans c23).trans c24)) (by simp) (by intro u hu;simp at hu;subst hu;rfl) ?_)
 intro wF nF cF kF
 refine⟨.inr (by kernel_rfl),?_⟩
 refine zdX [] (F':=[]) U ?_
 have hall:zl [] w w24:=((zl.drew [] w).trans c23).trans c24
 refine zkK U ⟨U,⟨_,kF,?_⟩,(hall.any (S:=[p])).transS cF⟩
 have hpg:ya w24 (.slice p24 (zbe 1 [vs.take fr,nvs,vs.drop un] 3) q24) (ls.take fr++new++ls.drop un):=by
  refine⟨vs.take fr++nvs++vs.drop un,?_,((hal.take fr).append hnal |>.append (hal.drop un)).chg hall (by simp)⟩
  have hlen:(ls.take fr++new++ls.drop un).length=zbe 1 [vs.take fr,nvs,vs.drop un] 3:=by
   rw[hsum];simp;omega
  rw[hlen]
  simpa using i24
 exact hpg.chg1 (hb.chg0 hall) U U cF
theorem zxj:ze5 TP 263=some (Extern.SlicesOverlaps.overlaps #[175,175] #[4]):=by kernel_rfl
set_option maxHeartbeats 1000000 in
theorem f27(v u:Va)(i n:Nat)(xs ys:List Va)(w:Wl)(hv:zw w 215 2 v n xs)(hu:zw w 215 2 u 1 ys)(hi:i≤n)(hn:n≤1048576)(hap:∀b∈zq u,b∉zq v) :
 zL TP 198 #[v,Ii i,u] w fun r w'=>zw w' 215 2 r (n+1) (xs.take (i*2)++ys++xs.drop (i*2))∧zl (zq v) w w'∧(zq r=zq v∨∃b,zq r=[b]∧w.heap.size≤b):=by
 have hlx:=hv.len_xs
 have hly:=hu.len_xs
 obtain⟨pv,cv,rfl,hlc⟩:=hv.val
 obtain⟨pu,cu,rfl,_⟩:=hu.val
 refine A3 Tryz.func198 U U ?_
 refine Sr (Oa U (E3 0 1 2 U (Sr (Om U (Om U ?_)))))
 refine Og (zaV yc yL U U _ U hi) U ?_
 refine E3 0 1 2 U (Sr (Om U (On ziw U (Oa U (E4 0 1 2 7 U (zd (Sr (Om U (Og (zA U U) U (E5 0 1 2 7 16 U (zb U (zk (zd ?_)))))))))))))
 refine za (Om U (On yc U (Oa U (E5 0 1 2 7 8 U (zd (Sr (Om U (Om U (Og (zA U U) U (E6 0 1 2 7 8 22 U ?_))))))))))
 refine zH U (fun hT=>?_) (fun hF=>?_)
 ·obtain rfl:i=n:=by have:=of_decide_eq_true hT;omega
  refine Sr (Om U (Om U ?_))
  refine Oq (yE zhv ziw U U hv hu (by simp only[maxLen];omega) (by omega) U ?_)
  intro v25 w25 i25 c25 o25 z25
  refine Oa U (E1 6 U (zh ?_))
  refine zba ?_
  refine zx U U ?_
  refine⟨?_,c25,o25⟩
  rw[Tl (by omega),List.drop_of_length_le (by omega),List.append_nil]
  exact i25
 have hlt:i<n:=by have:=of_decide_eq_false hF;omega
 refine zk (zd (Sr (Om U (Om U ?_))))
 refine Og (zG U U (by omega)) U ?_
 refine Om U (Og (zgf yc U) U (Og (ym U U) U (E6 0 1 2 7 8 31 U ?_)))
 refine zH U (fun hT=>?_) (fun hF=>?_)
 ·have hgr:cv<n+1:=by have:=of_decide_eq_true hT;omega
  refine Sr (Om U (Om U ?_))
  refine Og (za8 yc yL U U i U (by omega)) U ?_
  refine Om U (Om U ?_)
  refine Og (zG U U (by omega)) U ?_
  refine Om U ?_
  refine Og (yQ (v':=Ii ((n+1-i:Nat):Int)) (yV U U (by omega)) (by congr 1;omega)) U ?_
  have hcutA:zw w 215 2 (cut pv 0 i cv 2) i (xs.take (i*2)):=by simpa using hv.cut (l:=0) (h:=i) (m:=cv) (Nat.zero_le _) (by omega) (Nat.le_refl _) hi
  have hcutB:zw w 215 2 (cut pv i n cv 2) (n-i) (xs.drop (i*2)):=by
   have:=hv.cut (l:=i) (h:=n) (m:=cv) hi hlc (Nat.le_refl _) (Nat.le_refl _)
   rw[Tl (by simp;omega)]at this
   exact this
  have hAl:(xs.take (i*2)).length=i*2:=by simp;omega
  have hBl:(xs.drop (i*2)).length=(n-i)*2:=by simp;omega
  refine Oq (zcS zhv zaY U U U hcutA (fun p c he=>by obtain⟨q,hq⟩:=zsD pv 0 i cv 2;rw[hq]at he;simp only[Value.slice.injEq]at he;omega) (by simp only[maxLen];omega) (by omega) U ?_)
  intro b cap zs w40 hb c40 hge hle hzl hone k40
  refine Og (yQ (v':=.slice (some ⟨b,0,none⟩) (n+1) cap) (yM U) (by congr 1;omega)) U ?_
  refine E5 0 1 2 7 9 U (Sr (Om U (Om U ?_)))
  refine Og (yQ (zaV yc yL U U i U (by omega)) (zfr (by omega))) U ?_
  refine Om U ?_
  refine Oq (zhT (c:=1) yc yL U U (hu.chg0 c40) k40 (by omega) (by simp;omega) U ?_)
  intro w45 n45 c45 k45
  refine E4 0 1 7 9 U (zd ?_)
  have hc2:zl [] w w45.drew:=(c40.own c45 (by simp[←hb])).trans (zl.drew [] _)
  have k45':zK w45.drew b 215 _:=k45
  rw[show 0+i*2=(xs.take (i*2)).length by omega,zdA,Tl (show ys.length≤1*2 by omega)]at k45'
  rw[←List.append_assoc]at k45'
  refine zN (fun _=>True) mix (by kernel_rfl) trivial ?_
  refine Tm U (Tm U (Tm U ?_))
  refine Tp (fun _=>zG U U (by omega)) U ?_
  refine Tp (fun _=>yQ (zaV yc yL U U (i+1) U (by omega)) (zfr (by omega))) U ?_
  refine Tm U (Tm U (Tp (fun _=>zaV yc yL U U i U hi) U ?_))
  refine za4 U (gn U) (zhT (c:=n-i) yc yL U U (hcutB.chg0 hc2) k45' (by omega) (by simp only[List.length_append,List.length_drop,hAl];omega) U ?_)
  intro w54 n54 c54 k54
  refine⟨.inl trivial,?_⟩
  refine D1 9 U (Sr (Om U (Oa U (E1 6 U (zh ?_)))))
  refine zba ?_
  refine zx U U ?_
  rw[show 0+(i+1)*2=(xs.take (i*2)++ys).length by rw[List.length_append];omega,zdA,Tl (show (xs.drop (i*2)).length≤(n-i)*2 by omega)]at k54
  refine⟨.inr ⟨b,0,cap,_,rfl,k54,(by omega),hle,?_,?_,?_⟩,((hc2.own c54 (by simp[←hb])).any),.inr ⟨b,rfl,by omega⟩⟩
  ·simp only[List.length_append,List.length_drop,hAl];omega
  ·rw[List.drop_zero,←List.append_assoc,List.take_left' (by simp only[List.length_append];omega)]
  intro q hq
  simp only[List.mem_append]at hq hone
  rcases hq with (hq|hq)|hq|hq
  ·exact hone q (.inl hq)
  ·exact hu.one_xs q hq
  ·exact hv.one_xs q (List.mem_of_mem_drop hq)
  exact hone q (.inr (List.mem_of_mem_drop (List.mem_of_mem_drop hq)))
 have hroom:n+1≤cv:=by have:=of_decide_eq_false hF;omega
 obtain⟨b,off,c,rfl,hs⟩:∃b off c,pv=some ⟨b,off,none⟩∧zd8 w 215 2 b off n cv c xs:=by
  rcases hv with⟨he,_,_⟩|⟨b,off,cap,c,he,hs⟩
  ·simp only[Value.slice.injEq]at he;omega
  simp only[Value.slice.injEq]at he
  obtain⟨rfl,_,rfl⟩:=he
  exact⟨b,off,c,U,hs⟩
 obtain⟨bu,ou,cu',rfl,hsu⟩:∃b off c,pu=some ⟨b,off,none⟩∧zd8 w 215 2 b off 1 cu c ys:=by
  rcases hu with⟨_,h1,_⟩|⟨b,off,cap,c,he,hs⟩
  ·omega
  simp only[Value.slice.injEq]at he
  obtain⟨rfl,_,rfl⟩:=he
  exact⟨b,off,c,U,hs⟩
 have hne:bu≠b:=by have:=hap bu (by simp[zq]);simpa[zq] using this
 have hfit:=hs.fit
 have hsn:zd8 w 215 2 b off (n+1) cv c ((c.drop off).take ((n+1)*2)):=⟨hs.blk,hroom,hs.max,hs.fit,rfl,hs.one⟩
 have hsrc:=hsn.cut (l:=i) (h:=n+1) (m:=cv) (by omega) hroom (Nat.le_refl _)
 rw[zfr (by omega)]at hsrc
 refine zk (Sr (Om U (Om U (Om U ?_))))
 refine Og (zG U U (by omega)) U ?_
 refine Og (yQ (za8 yc yL U U (n+1) U hroom) zk3) U (Oa U (E5 0 1 2 7 8 U (zd (Sr (Om U (Om U (Om U (Om U ?_))))))))
 refine Og (zG U U (by omega)) U ?_
 refine Og (yQ (zaV yc yL U U (i+1) U (by omega)) (zfr (by omega))) U ?_
 refine Oq (zcu zxj U U (zkj U ziw yL hsu.blk hs.blk hne) U ?_)
 refine Og (zE U) U (E6 0 1 2 7 8 68 U (zf U (zd ?_)))
 refine zN (fun _=>True) mix (by kernel_rfl) trivial ?_
 refine Tm U (Tm U (Tm U ?_))
 refine Tp (fun _=>zG U U (by omega)) U ?_
 refine Tp (fun _=>yQ (zaV yc yL U U (i+1) U (by omega)) (zfr (by omega))) U ?_
 refine Tm U (Tm U ?_)
 refine Tp (fun _=>yQ (zaV yc yL U U i U (by omega)) (zfr (by omega))) U ?_
 refine za4 U (gn U) (zhT (c:=n-i) yc yL U U (hsrc.chg0 (zl.drew [] _)) (hs.blk.chg0 (zl.drew [] _)) (by omega) (by omega) U ?_)
 intro w77 n77 c77 k77
 refine⟨.inl trivial,?_⟩
 refine D3 0 1 2 U ?_
 have hc77:zl [b] w w77:=(zl.drew [b] w).transS c77
 have hu77:=hu.chg hc77 (by simpa[zq] using hne)
 refine Sr (Om U (Om U ?_))
 refine Og (yQ (zaV yc yL U U i U (by omega)) (zfr (by omega))) U ?_
 refine Om U ?_
 refine Oq (zhT (c:=1) yc yL U U hu77 k77 (by omega) (by rw[zbC (by simp;omega)];omega) U ?_)
 intro w82 n82 c82 k82
 refine E1 0 U (Sr (Om U (Oa U (E1 6 U (zh ?_)))))
 refine zba ?_
 refine zx U U ?_
 have hB:((c.drop (off+i*2)).take ((n+1-i)*2)).take ((n-i)*2)=xs.drop (i*2):=by
  rw[List.take_take,hs.xs,List.drop_take,List.drop_drop]
  congr 1
  omega
 have hsplit:c=c.take (off+i*2)++(xs.drop (i*2)++c.drop (off+n*2)):=by
  have e1:c.drop (off+i*2)=xs.drop (i*2)++c.drop (off+n*2):=by
   have e2:=List.take_append_drop ((n-i)*2) (c.drop (off+i*2))
   rw[List.drop_drop,show off+i*2+(n-i)*2=off+n*2 by omega]at e2
   rw[←e2]
   congr 1
   rw[hs.xs,List.drop_take,List.drop_drop]
   congr 1
   omega
  rw[←e1,List.take_append_drop]
 have hAl:(c.take (off+i*2)).length=off+i*2:=by simp;omega
 obtain⟨R,hR,hRm⟩:=zmO (c.take (off+i*2)) (xs.drop (i*2)) (c.drop (off+n*2)) ys (by simp;omega)
 rw[hB,Tl (show ys.length≤1*2 by omega)]at k82
 rw[←hsplit,hAl,show off+i*2+ys.length=off+(i+1)*2 by omega]at hR
 rw[hR]at k82
 refine⟨.inr ⟨b,off,cv,_,U,k82,hroom,hs.max,?_,?_,?_⟩,hc77.transS c82,.inl U⟩
 ·have hcl:c.length=(c.take (off+i*2)++(ys++(xs.drop (i*2)++R))).length:=by
   rw[←hR,zbC,zbC]
   ·simp;omega
   rw[zbC (by simp;omega)];omega
  rw[←hcl];exact hfit
 ·have e3:(c.take (off+i*2)).drop off=xs.take (i*2):=by
   rw[List.drop_take,hs.xs,List.take_take]
   congr 1
   omega
  rw[List.drop_append_of_le_length (by omega),e3,←List.append_assoc,←List.append_assoc,List.take_left' (by simp;omega)]
 intro q hq
 simp only[List.mem_append]at hq
 rcases hq with hq|hq|hq|hq
 ·exact hs.one q (List.mem_of_mem_take hq)
 ·exact hu.one_xs q hq
 ·exact hs.one_xs q (List.mem_of_mem_drop hq)
 rcases hRm q hq with h|h
 ·exact hs.one q (List.mem_of_mem_drop h)
 exact hs.one_xs q (List.mem_of_mem_drop h)
theorem f28(v:Va)(i n:Nat)(xs:List Va)(w:Wl)(hv:zw w 215 2 v n xs)(hi:i<n)(hn:n≤1048576) :
 zL TP 307 #[v,Ii i,Ii ((i:Int)+1)] w fun r w'=>zw w' 215 2 r (n-1) (xs.take (i*2)++xs.drop (i*2+2))∧zl (zq v) w w'∧zq r=zq v:=by
 have hlx:=hv.len_xs
 obtain⟨b,off,cv,c,rfl,hs⟩:∃b off cv c,v=.slice (some ⟨b,off,none⟩) n cv∧zd8 w 215 2 b off n cv c xs:=by
  rcases hv with⟨_,rfl,_⟩|⟨b,off,cap,c,he,hs⟩
  ·omega
  exact⟨b,off,cap,c,he,hs⟩
 have hfit:=hs.fit
 have hlc:=hs.le
 refine A3 Tryz.func307 U U ?_
 refine Sr (Oa U (E3 0 1 2 U (Sr (Om U (Om U (Om U (Om U (On yc U ?_))))))))
 refine Og (zeP yc yL U U U U i (i+1) n U (by omega) U (by omega) (by omega) (by omega)) U ?_
 refine E3 0 1 2 U (zd (Sr (Om U (Om U ?_))))
 refine Og (vf (zA U U) (by simp;omega)) U ?_
 refine E4 0 1 2 16 U (zb U (zk (Sr (Om U (On yc U (Oa U (E4 0 1 2 7 U (zd ?_))))))))
 have hsrc:=hs.cut (l:=i+1) (h:=n) (m:=cv) (by omega) hlc (Nat.le_refl _)
 have hB:(c.drop (off+(i+1)*2)).take ((n-(i+1))*2)=xs.drop (i*2+2):=by
  rw[hs.xs,List.drop_take,List.drop_drop]
  congr 1
  ·omega
  congr 1;omega
 rw[hB]at hsrc
 have hBl:(xs.drop (i*2+2)).length=(n-(i+1))*2:=by simp;omega
 refine zN (fun _=>True) mix (by kernel_rfl) trivial ?_
 refine Tm U (Tm U ?_)
 refine Tp (fun _=>yQ (za8 yc yL U U i U (by omega)) zk3) U ?_
 refine Tm U (Tm U ?_)
 refine Tp (fun _=>zaV yc yL U U (i+1) (by omega) (by omega)) U ?_
 refine za4 U (gn U) (zjm yc yL yc U U (hs.blk.chg0 (zl.drew [] _)) (hsrc.chg0 (zl.drew [] _)) (by omega) hfit U ?_)
 intro w26 n26 c26 k26
 refine⟨.inl trivial,?_⟩
 refine Tp (fun _=>yQ (v':=.slice (some ⟨b,off,none⟩) (n-1) cv) (yM U) (by congr 1;omega)) U ?_
 refine D2 0 7 U ?_
 have hl26:(yF c (off+i*2) (xs.drop (i*2+2))).length=c.length:=zbC (by omega)
 refine Sr (Om U (Om U (On yc U (Om U ?_))))
 refine Og (yQ (zpS yc yL U U U (n-1) n U U (by omega) (by omega)) (zfr (by omega))) U ?_
 refine Oq (zrR zhv U k26 (by rw[hl26];omega) ?_)
 intro w31 zs n31 c31 hzl hzo k31
 refine E1 0 U (Sr (Om U (Oa U (E1 6 U (zh ?_)))))
 refine zx U U ?_
 have hl31:(yF (yF c (off+i*2) (xs.drop (i*2+2))) (off+(n-1)*2) zs).length=c.length:=by rw[zbC (by rw[hl26,hzl];omega),hl26]
 refine⟨.inr ⟨b,off,cv,_,rfl,k31,by omega,hs.max,by rw[hl31];exact hfit,?_,?_⟩,((zl.drew [b] w).transS c26).transS c31,rfl⟩
 ·have hA:(c.take (off+i*2)).drop off=xs.take (i*2):=by
   rw[List.drop_take,hs.xs,List.take_take]
   congr 1
   omega
  have hAl:(c.take (off+i*2)).length=off+i*2:=by simp;omega
  have e1:(yF c (off+i*2) (xs.drop (i*2+2))).take (off+(n-1)*2)=c.take (off+i*2)++xs.drop (i*2+2):=by
   unfold yF
   exact List.take_left' (by simp only[List.length_append,hAl];omega)
  unfold yF at e1 ⊢
  rw[e1,List.append_assoc,List.append_assoc,List.drop_append_of_le_length (by omega),hA,←List.append_assoc,List.take_left' (by simp only[List.length_append,List.length_take];omega)]
 intro q hq
 simp only[yF,List.mem_append]at hq
 rcases hq with (hq|hq)|hq
 ·have:=List.mem_of_mem_take hq
  simp only[List.mem_append]at this
  rcases this with (h|h)|h
  ·exact hs.one q (List.mem_of_mem_take h)
  ·exact hs.one_xs q (List.mem_of_mem_drop h)
  exact hs.one q (List.mem_of_mem_drop h)
 ·exact hzo q hq
 have:=List.mem_of_mem_drop hq
 simp only[List.mem_append]at this
 rcases this with (h|h)|h
 ·exact hs.one q (List.mem_of_mem_take h)
 ·exact hs.one_xs q (List.mem_of_mem_drop h)
 exact hs.one q (List.mem_of_mem_drop h)
def zfj(l:List Ent):LE:=if l.length≤8 then [l] else [l.take (l.length / 2),l.drop (l.length / 2)]
theorem yd.cutL{w:Wl}{p:Option Addr}{c:Nat}{l:List Ent}(h:yd w (.slice p l.length c) l){i m:Nat}(hi:i≤l.length)(h1:i≤m)(h2:m≤c):yd w (cut p 0 i m 2) (l.take i):=by
 have:=zw.cut h (l:=0) (h:=i) (m:=m) (Nat.zero_le _) h1 h2 hi
 unfold yd
 rw[zhd,List.length_take]
 simpa[show min i l.length=i by omega] using this
theorem yd.cutR{w:Wl}{p:Option Addr}{c:Nat}{l:List Ent}(h:yd w (.slice p l.length c) l){i:Nat}(hi:i≤l.length)(hc:l.length≤c):yd w (cut p i l.length c 2) (l.drop i):=by
 have:=zw.cut h (l:=i) (h:=l.length) (m:=c) hi hc (Nat.le_refl _) (Nat.le_refl _)
 unfold yd
 rw[zfJ,List.length_drop]
 rw[Tl (by simp[zfn];omega)]at this
 exact this
theorem ya.one{w:Wl}{b:Nat}{v:Va}{l:List Ent}(hb:zK w b 176 [v])(hl:yd w v l):ya w (.slice (some ⟨b,0,none⟩) 1 1) [l]:=
 ⟨[v],zw.of_blk (n:=1) hb rfl (by simp[maxLen]) (by intro u hu;simp at hu;subst hu;exact zw.one1 hl),hl,trivial⟩
theorem ya.two{w:Wl}{b:Nat}{v u:Va}{l m:List Ent}(hb:zK w b 176 [v,u])(hl:yd w v l)(hm:yd w u m):ya w (.slice (some ⟨b,0,none⟩) 2 2) [l,m]:=
 ⟨[v,u],zw.of_blk (n:=2) hb rfl (by simp[maxLen]) (by intro x hx;simp at hx;rcases hx with rfl|rfl;exact zw.one1 hl;exact zw.one1 hm),hl,hm,trivial⟩
theorem f29(p:Nat)(ls:LE)(a b:Va)(la lb:List Ent)(i:Nat)(w:Wl)(hp:Pg w p ls)(ha:yd w a la)(hb:yd w b lb)(hi:i+2≤ls.length)(hb1:ls.length≤1048576)(hla:la.length≤1048576)(hlb:lb.length≤1048576) :
 zL TP 308 #[Pt p,Ii i,.agg #[a,b]] w fun r w'=>r=.tuple #[]∧Pg w' p (ls.take i++zfj (la++lb)++ls.drop (i+2))∧zl [p] w w':=by
 have hal:=zw.len_xs ha
 have hbl:=zw.len_xs hb
 obtain⟨pa,ca,rfl,_⟩:=zw.val ha
 obtain⟨pb,cb,rfl,_⟩:=zw.val hb
 refine A3 Tryz.func308 U U ?_
 refine Sr ?_
 refine Ob U U ?_
 intro b5 w5 e5 n5 c5 k5
 refine E3 0 1 5 U (zd ?_)
 have hS:zgR w 215 2 [.slice pa la.length ca,.slice pb lb.length cb] [flat la,flat lb]:=⟨by rw[hal,Nat.mul_div_cancel _ (by omega)];exact ha,by rw[hbl,Nat.mul_div_cancel _ (by omega)];exact hb,trivial⟩
 have hsum:zbe 2 [flat la,flat lb] 2=(la++lb).length:=by
  simp only[zbe,List.take_succ_cons,List.take_zero,List.map_cons,List.map_nil,List.sum_cons,List.sum_nil,hal,hbl,Nat.mul_div_cancel _ (show 0<2 by omega),List.length_append]
  omega
 have hll:(la++lb).length=la.length+lb.length:=by simp
 refine za ?_
 refine Og (zP zjM zbd U U 0 U (by omega)) U ?_
 refine Ol zdD U (k5.cell' U) ?_
 refine Og (zP zjM zbd U U 1 U (by omega)) U ?_
 refine Ol zdD U (k5.cell' U) ?_
 refine Oq (zz zhE U (vs:=[_,_]) U (css:=[_,_]) ⟨U,U,trivial⟩ U U (cs:=[_,_]) U U ?_)
 intro b12 w12 e12 n12 c12 k12
 refine Oc zzw U U U (f45 _ _ [flat la,flat lb] _ (zw.of_blk (n:=2) k12 U (by simp[maxLen]) (by intro u hu;simp at hu;rcases hu with rfl|rfl<;>rfl)) (hS.chg0 (c5.trans c12)) (by simp only[List.length_cons,List.length_nil];rw[hsum];omega) (by simp)) ?_
 rintro v13 w13⟨i13,n13,c13⟩
 have hboth:yd w13 v13 (la++lb):=by unfold yd;rw[zcY];simpa[hsum] using i13
 clear i13
 generalize la++lb=both at *
 obtain⟨p13,q13,rfl,hq13⟩:=zw.val hboth
 refine Oa U (E3 0 1 6 U ?_)
 have hc13:zl [] w w13:=(c5.trans c12).trans c13
 refine zd (Sr (Om U (On yc U (Og (zbt U U) U (E4 0 1 6 16 U ?_)))))
 refine zH U (fun hT=>?_) (fun hF=>?_)
 ·have hle:both.length≤8:=by have:=of_decide_eq_true hT;omega
  refine Sr (Om U (Om U (Om U ?_)))
  refine Og (yQ (v':=Ii ((i+2:Nat):Int)) (zG U U (by omega)) (by congr 1)) U ?_
  refine Om U ?_
  refine Oq (zz zhE U (vs:=[_]) U (css:=[_]) ⟨U,trivial⟩ U U (cs:=[_]) U U ?_)
  intro b22 w22 e22 n22 c22 k22
  refine Oc zh7 U U U (f26 p ls [both] _ i (i+2) _ (hp.chg0 (hc13.trans c22)) (ya.one k22 (hboth.chg0 c22)) (by omega) hi hb1 (by simp)) ?_
  rintro v23 w23⟨rfl,p23,c23⟩
  refine zac [] (F':=[]) U (zh ?_)
  refine zba ?_
  refine zyJ U ?_
  refine⟨U,?_,((hc13.trans c22).any (S:=[p])).transS c23⟩
  rw[zfj,if_pos hle]
  exact p23
 have hle:¬ both.length≤8:=by have:=of_decide_eq_false hF;omega
 refine zk (Sr (Om U (On yc U ?_)))
 refine Og (yQ (v':=Ii ((both.length / 2:Nat):Int)) (zqC U U (by omega) (by omega)) (by congr 1)) U ?_
 refine Oa U (E4 0 1 6 7 U ?_)
 have hh:both.length / 2≤both.length:=Nat.div_le_self _ _
 refine zN (fun _=>True) mix (by kernel_rfl) trivial ?_
 refine Tm U (Tm U (Tm U ?_))
 refine Tp (fun _=>yQ (v':=Ii ((i+2:Nat):Int)) (zG U U (by omega)) (by congr 1)) U ?_
 refine Tm U (Tm U (Tm U ?_))
 refine Tp (fun _=>zfK yc yL U U U _ _ U U (Nat.le_refl _) (by omega)) U ?_
 refine Tm U (Tm U ?_)
 refine Tp (fun _=>zaV yc yL U U _ U hh) U ?_
 refine za4 U (gn U) (zz zhE U (vs:=[_,_]) U (css:=[_,_]) ⟨U,U,trivial⟩ U U (cs:=[_,_]) U U ?_)
 intro b38 w38 e38 n38 c38 k38
 refine⟨.inl trivial,?_⟩
 have hc38:zl [] w13 w38:=(zl.drew [] w13).trans c38
 refine Tc zh7 U U U (f26 p ls [both.take (both.length / 2),both.drop (both.length / 2)] _ i (i+2) _ (hp.chg0 (hc13.trans hc38)) (ya.two k38 ((hboth.chg0 hc38).cutL hh (Nat.le_refl _) (by omega)) ((hboth.chg0 hc38).cutR hh hq13)) (by omega) hi hb1 (by simp)) ?_
 rintro v39 w39⟨rfl,p39,c39⟩
 refine⟨.inl trivial,?_⟩
 refine zdX [] (F':=[]) U ?_
 refine zkK U ⟨U,?_,((hc13.trans hc38).any (S:=[p])).transS c39⟩
 rw[zfj,if_neg hle]
 exact p39
end Go.Wk
